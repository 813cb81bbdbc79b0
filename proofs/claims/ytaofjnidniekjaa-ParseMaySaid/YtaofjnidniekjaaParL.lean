/- What the tokens of a text are like (plain): their kinds, numbers, sizes and places. No conditions but those stated. -/
import Derived.Test.YtaofjnidniekjaaParP
import Derived.Test.YtaofjnidniekjaaLexI
namespace Go.Proofs.Ytaofjnidniekjaa
open Go.RowKit

theorem runR_num {t : ByteArray} {k n : Int} (h : runR t = (0, k, n)) : 0 ≤ n ∧ n ≤ 1000000000000000000 := by
  unfold runR at h
  split at h
  · cases h; exact ⟨Int.le_refl 0, by decide⟩
  split at h
  · split at h
    · injection h with h; exact absurd h (by decide)
    · split at h
      · cases h; exact ⟨Int.le_refl 0, by decide⟩
      · injection h with h; exact absurd h (by decide)
  split at h
  · rename_i hd
    split at h
    · injection h with h; exact absurd h (by decide)
    · rename_i hs
      cases h
      obtain ⟨h1, h2⟩ := numS_bd t.data.toList (fun c hc => by have := hd.1; rw [List.all_eq_true] at this; exact this c hc)
      refine ⟨h1, Int.le_trans (Int.le_of_lt h2) ?_⟩
      have hl : t.data.toList.length ≤ 18 := by
        have : t.data.toList.length = t.size := by rw [Array.length_toList]; rfl
        omega
      have h3 : (10 : Nat) ^ t.data.toList.length ≤ 10 ^ 18 := Nat.pow_le_pow_right (by decide) hl
      have e : ((10 ^ t.data.toList.length : Nat) : Int) = 10 ^ t.data.toList.length := by rw [Int.natCast_pow]; rfl
      have h4 : (10 : Nat) ^ 18 = 1000000000000000000 := by decide
      omega
  · injection h with h; exact absurd h (by decide)
theorem good_mem {xs : List Tok} {x : Tok} (hx : x ∈ xs) : x.t.size ≤ sizes xs := by
  induction xs with
  | nil => cases hx
  | cons y ys ih =>
    simp only [sizes]
    rcases List.mem_cons.1 hx with rfl | hx
    · omega
    · have := ih hx; omega
theorem lex_tokok {s : ByteArray} {l : List Tok} (h : lexAll s = .ok l) : TokOk l := by
  unfold lexAll at h
  by_cases hs : 4096 < s.size
  · rw [if_pos hs] at h; cases h
  rw [if_neg hs] at h
  obtain ⟨xs, rfl, hg, hl, hz⟩ := lx_good s s.size 0 [] l h (fun x hx => by cases hx) (by decide) (Nat.zero_le _) (Nat.zero_le _)
  refine ⟨by simp, ?_, by rw [List.length_append]; simp; omega, fun x hx => ?_, fun x hx => ?_, fun x hx => ?_⟩
  · unfold tokAt
    rw [List.getD_eq_getElem?_getD, List.length_append, List.getElem?_append_right (by simp)]
    simp
  · rcases List.mem_append.1 hx with hx | hx
    · rcases hg x hx with ⟨_, hn, _⟩ | ⟨_, _, hR⟩
      · rw [hn]; exact ⟨Int.le_refl 0, by decide⟩
      · exact runR_num hR
    · rw [List.mem_singleton.1 hx]; exact ⟨Int.le_refl 0, show (0 : Int) ≤ _ by decide⟩
  · rcases List.mem_append.1 hx with hx | hx
    · have := good_mem hx; omega
    · rw [List.mem_singleton.1 hx]; exact Nat.zero_le _
  · rcases List.mem_append.1 hx with hx | hx
    · rcases hg x hx with ⟨hk, _⟩ | ⟨_, _, hR⟩
      · omega
      · have := runR_kind _ _ _ hR; omega
    · rw [List.mem_singleton.1 hx]; exact ⟨Int.le_refl 0, show (0 : Int) ≤ 4 by decide⟩
/-- places lie in the text -/
def InR (s : ByteArray) (r : LexR) : Prop := match r with
  | .ok l => ∀ x ∈ l, 0 ≤ x.a ∧ x.a ≤ (s.size : Int)
  | .bad b _ => 0 ≤ b ∧ b ≤ (s.size : Int)
theorem lx_in (s : ByteArray) : ∀ (f a : Nat) (out : List Tok), (∀ x ∈ out, 0 ≤ x.a ∧ x.a ≤ (s.size : Int)) → a ≤ s.size → InR s (lx s f a out)
  | 0, a, out, h, ha => by
    rw [lx]
    intro x hx
    rcases List.mem_append.1 hx with hx | hx
    · exact h x hx
    · rw [List.mem_singleton.1 hx]; exact ⟨Int.natCast_nonneg _, Int.le_refl _⟩
  | f + 1, a, out, h, ha => by
    have hpush : ∀ (k n : Int) (t : ByteArray), ∀ x ∈ out ++ [⟨k, t, n, (a : Int)⟩], 0 ≤ x.a ∧ x.a ≤ (s.size : Int) := by
      intro k n t x hx
      rcases List.mem_append.1 hx with hx | hx
      · exact h x hx
      · rw [List.mem_singleton.1 hx]; exact ⟨Int.natCast_nonneg _, Int.ofNat_le.2 ha⟩
    have hbad : ∀ e : Int, InR s (.bad a e) := fun e => ⟨Int.natCast_nonneg _, Int.ofNat_le.2 ha⟩
    by_cases hlt : a < s.size
    · by_cases hb : isBlank s[a]
      · rw [lx_blank hlt hb]; exact lx_in s f _ _ h (by omega)
      · by_cases hsg : isSign s[a]
        · by_cases ho : out.length = 1000
          · rw [lx_sign_many hlt hb hsg ho]; exact hbad _
          · rw [lx_sign hlt hb hsg ho]; exact lx_in s f _ _ (hpush _ _ _) (by omega)
        · cases hr : runB s[a]
          · rw [lx_bad hlt hb hsg hr]; exact hbad _
          · obtain ⟨⟨er, k, n⟩, hR⟩ : ∃ r : Int × Int × Int, runR (s.extract a (rEnd s a)) = r := ⟨_, rfl⟩
            have hle : rEnd s a ≤ s.size := rEndF_le s _ _ (by omega)
            by_cases he : er = 0
            · subst he
              by_cases ho : out.length = 1000
              · rw [lx_run_many hlt hb hsg hr hR ho]; exact hbad _
              · rw [lx_run hlt hb hsg hr hR ho]; exact lx_in s f _ _ (hpush _ _ _) hle
            · rw [lx_run_bad hlt hb hsg hr hR he]; exact hbad _
    · rw [lx_end (by omega)]
      intro x hx
      rcases List.mem_append.1 hx with hx | hx
      · exact h x hx
      · rw [List.mem_singleton.1 hx]; exact ⟨Int.natCast_nonneg _, Int.le_refl _⟩
theorem lexAll_in (s : ByteArray) : InR s (lexAll s) := by
  unfold lexAll
  split
  · exact ⟨Int.le_refl 0, Int.natCast_nonneg _⟩
  · exact lx_in s s.size 0 [] (fun x hx => by cases hx) (Nat.zero_le _)
end Go.Proofs.Ytaofjnidniekjaa
