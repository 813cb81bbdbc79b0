/- Plain laws of package lex: tokens that are told one behind the other with a blank behind each are cut into the same ones. Conditions: the text has at most 2000 bytes. -/
import Derived.Test.YtaofjnidniekjaaLexE
namespace Go.Proofs.Ytaofjnidniekjaa
open Go.RowKit

/-- a token that is not the end -/
def Good (x : Tok) : Prop := (x.k = 4 ∧ x.n = 0 ∧ ∃ c, isSign c ∧ x.t = ⟨#[c]⟩) ∨ (0 < x.t.size ∧ x.t.data.toList.all runB = true ∧ runR x.t = (0, x.k, x.n))
def core (x : Tok) : Int × ByteArray × Int := (x.k, x.t, x.n)
def sizes : List Tok → Nat
  | [] => 0
  | x :: xs => x.t.size + sizes xs
theorem sizes_append : ∀ (xs ys : List Tok), sizes (xs ++ ys) = sizes xs + sizes ys
  | [], ys => by simp [sizes]
  | x :: xs, ys => by rw [List.cons_append, sizes, sizes, sizes_append xs ys]; omega
theorem Good.size {x : Tok} (h : Good x) : 0 < x.t.size := by
  rcases h with ⟨_, _, c, _, h⟩ | ⟨h, _⟩
  · rw [h]; exact Nat.one_pos
  · exact h
theorem good_len : ∀ (xs : List Tok), (∀ x ∈ xs, Good x) → xs.length ≤ sizes xs
  | [], _ => Nat.le_refl _
  | x :: xs, h => by
    have h1 := (h x List.mem_cons_self).size
    have h2 := good_len xs (fun y hy => h y (List.mem_cons_of_mem _ hy))
    rw [List.length_cons, sizes]; omega

theorem ba_ext {a b : ByteArray} (h : a.data.toList = b.data.toList) : a = b := ByteArray.ext (Array.ext' h)
theorem ext_list (s : ByteArray) (a e : Nat) : (s.extract a e).data.toList = (s.data.toList.drop a).take (e - a) := by
  rw [ByteArray.data_extract, Array.toList_extract]
theorem ext_one {s : ByteArray} {a : Nat} (h : a < s.size) : s.extract a (a + 1) = ⟨#[s[a]]⟩ := by
  apply ba_ext
  rw [ext_list, show a + 1 - a = 1 from by omega, List.drop_eq_getElem_cons (by simpa using h), getB h]
  rfl

theorem lx_good (s : ByteArray) : ∀ (f a : Nat) (out l : List Tok), lx s f a out = .ok l → (∀ x ∈ out, Good x) → out.length ≤ 1000 → sizes out ≤ a → a ≤ s.size →
    ∃ xs, l = xs ++ [⟨0, ⟨#[]⟩, 0, s.size⟩] ∧ (∀ x ∈ xs, Good x) ∧ xs.length ≤ 1000 ∧ sizes xs ≤ s.size
  | 0, a, out, l, h, hg, hl, hs, ha => by
    rw [lx] at h
    injection h with h
    exact ⟨out, h.symm, hg, hl, by omega⟩
  | f + 1, a, out, l, h, hg, hl, hs, ha => by
    by_cases hlt : a < s.size
    · by_cases hb : isBlank s[a]
      · rw [lx_blank hlt hb] at h
        exact lx_good s f (a + 1) out l h hg hl (by omega) (by omega)
      · by_cases hsg : isSign s[a]
        · by_cases ho : out.length = 1000
          · rw [lx_sign_many hlt hb hsg ho] at h; cases h
          · rw [lx_sign hlt hb hsg ho] at h
            refine lx_good s f (a + 1) _ l h (fun x hx => ?_) (by rw [List.length_append]; simp; omega) ?_ (by omega)
            · rcases List.mem_append.1 hx with hx | hx
              · exact hg x hx
              · rw [List.mem_singleton.1 hx]
                exact .inl ⟨rfl, rfl, s[a], hsg, ext_one hlt⟩
            · rw [sizes_append]
              simp only [sizes]
              rw [ext_size (by omega)]; omega
        · cases hr : runB s[a]
          · rw [lx_bad hlt hb hsg hr] at h; cases h
          · obtain ⟨⟨er, k, n⟩, hR⟩ : ∃ r : Int × Int × Int, runR (s.extract a (rEnd s a)) = r := ⟨_, rfl⟩
            have hle : rEnd s a ≤ s.size := rEndF_le s _ _ (by omega)
            have hge : a + 1 ≤ rEnd s a := by rw [rEnd_step hlt hr]; exact rEndF_ge _ _ _
            by_cases he : er = 0
            · subst he
              by_cases ho : out.length = 1000
              · rw [lx_run_many hlt hb hsg hr hR ho] at h; cases h
              · rw [lx_run hlt hb hsg hr hR ho] at h
                refine lx_good s f _ _ l h (fun x hx => ?_) (by rw [List.length_append]; simp; omega) ?_ hle
                · rcases List.mem_append.1 hx with hx | hx
                  · exact hg x hx
                  · rw [List.mem_singleton.1 hx]
                    exact .inr ⟨by show 0 < (s.extract a (rEnd s a)).size; rw [ext_size hle]; omega, run_ext hlt, hR⟩
                · rw [sizes_append]
                  simp only [sizes]
                  rw [ext_size hle]; omega
            · rw [lx_run_bad hlt hb hsg hr hR he] at h; cases h
    · rw [lx_end (by omega)] at h
      injection h with h
      exact ⟨out, h.symm, hg, hl, by omega⟩

/-- the bytes of tokens, a byte behind each -/
def told (sep : UInt8) : List Tok → List UInt8
  | [] => []
  | x :: xs => x.t.data.toList ++ sep :: told sep xs
theorem told_append (sep : UInt8) : ∀ (xs ys : List Tok), told sep (xs ++ ys) = told sep xs ++ told sep ys
  | [], _ => rfl
  | x :: xs, ys => by rw [List.cons_append, told, told, told_append sep xs ys]; simp
theorem told_len (sep : UInt8) : ∀ (xs : List Tok), (told sep xs).length = sizes xs + xs.length
  | [] => rfl
  | x :: xs => by
    rw [told, List.length_append, List.length_cons, told_len sep xs, sizes, List.length_cons]
    simp; omega

theorem get_drop {t : ByteArray} {a : Nat} {c : UInt8} {r : List UInt8} (h : t.data.toList.drop a = c :: r) : ∃ hlt : a < t.size, t[a] = c := by
  have h1 : a < t.data.toList.length := by
    have := congrArg List.length h
    rw [List.length_drop, List.length_cons] at this; omega
  have hlt : a < t.size := by simpa using h1
  refine ⟨hlt, ?_⟩
  rw [← getB hlt]
  have := List.drop_eq_getElem_cons h1
  rw [h] at this
  injection this with this _
  exact this.symm
theorem drop_more {t : ByteArray} {a : Nat} {u r : List UInt8} (h : t.data.toList.drop a = u ++ r) : t.data.toList.drop (a + u.length) = r := by
  rw [← List.drop_drop, h, List.drop_left]

theorem rEndF_at {t : ByteArray} : ∀ (u : List UInt8) (a f : Nat) (c : UInt8) (r : List UInt8), t.data.toList.drop a = u ++ c :: r → (∀ x ∈ u, runB x = true) → runB c = false → u.length ≤ f → rEndF t f a = a + u.length
  | [], a, f, c, r, h, _, hc, _ => by
    obtain ⟨hlt, e⟩ := get_drop h
    exact rEndF_stop hlt (by rw [e]; exact hc)
  | x :: u, a, f, c, r, h, hu, hc, hf => by
    obtain ⟨hlt, e⟩ := get_drop h
    obtain ⟨g, rfl⟩ : ∃ g, f = g + 1 := ⟨f - 1, by rw [List.length_cons] at hf; omega⟩
    rw [rEndF_step hlt (by rw [e]; exact hu x List.mem_cons_self)]
    have h2 : t.data.toList.drop (a + 1) = u ++ c :: r := drop_more (u := [x]) h
    rw [rEndF_at u (a + 1) g c r h2 (fun y hy => hu y (List.mem_cons_of_mem _ hy)) hc (by rw [List.length_cons] at hf; omega), List.length_cons]
    omega

theorem run_noblank {c : UInt8} (h : runB c = true) : ¬ isBlank c ∧ ¬ isSign c := by
  constructor
  · rintro (rfl | rfl) <;> exact absurd h (by decide)
  · rintro (rfl | rfl | rfl | rfl) <;> exact absurd h (by decide)

theorem lx_told (sep : UInt8) (hb : isBlank sep) (hr : runB sep = false) (t : ByteArray) : ∀ (xs : List Tok) (a f : Nat) (out : List Tok), (∀ x ∈ xs, Good x) → out.length + xs.length ≤ 1000 →
    t.data.toList.drop a = told sep xs ++ [sep] → t.size ≤ a + f → ∃ ys, lx t f a out = .ok (out ++ ys ++ [⟨0, ⟨#[]⟩, 0, t.size⟩]) ∧ ys.map core = xs.map core
  | [], a, f, out, _, _, hd, hf => by
    obtain ⟨hlt, e⟩ := get_drop (by rw [hd]; rfl : t.data.toList.drop a = sep :: [])
    have h2 := drop_more (u := [sep]) (r := []) hd
    have h3 : t.size ≤ a + 1 := by
      have := congrArg List.length h2
      rw [List.length_drop] at this; simp at this; omega
    obtain ⟨g, rfl⟩ : ∃ g, f = g + 1 := ⟨f - 1, by omega⟩
    refine ⟨[], ?_, rfl⟩
    rw [lx_blank hlt (by rw [e]; exact hb), lx_end h3, List.append_nil]
  | x :: xs, a, f, out, hg, hl, hd, hf => by
    have hx := hg x List.mem_cons_self
    have hxs := fun y hy => hg y (List.mem_cons_of_mem x hy)
    rw [List.length_cons] at hl
    rw [told, List.append_assoc, List.cons_append] at hd
    rcases hx with ⟨hk, hn, c, hc, ht⟩ | ⟨h0, hall, hR⟩
    · rw [ht] at hd
      have hd1 : t.data.toList.drop a = c :: (sep :: (told sep xs ++ [sep])) := hd
      obtain ⟨hlt, e⟩ := get_drop hd1
      have hd2 : t.data.toList.drop (a + 1) = sep :: (told sep xs ++ [sep]) := drop_more (u := [c]) hd1
      obtain ⟨hlt2, e2⟩ := get_drop hd2
      have hd3 : t.data.toList.drop (a + 1 + 1) = told sep xs ++ [sep] := drop_more (u := [sep]) hd2
      obtain ⟨g, rfl⟩ : ∃ g, f = g + 1 + 1 := ⟨f - 2, by omega⟩
      have hnb : ¬ isBlank t[a] := by rw [e]; rcases hc with rfl | rfl | rfl | rfl <;> decide
      rw [lx_sign hlt hnb (by rw [e]; exact hc) (by omega), lx_blank hlt2 (by rw [e2]; exact hb)]
      obtain ⟨ys, h1, h2⟩ := lx_told sep hb hr t xs (a + 1 + 1) g (out ++ [⟨4, t.extract a (a + 1), 0, a⟩]) hxs (by rw [List.length_append]; simp; omega) hd3 (by omega)
      refine ⟨⟨4, t.extract a (a + 1), 0, a⟩ :: ys, by rw [h1]; simp, ?_⟩
      rw [List.map_cons, List.map_cons, h2, ext_one hlt, e]
      unfold core
      rw [hk, hn, ht]
    · have hu : ∀ y ∈ x.t.data.toList, runB y = true := List.all_eq_true.1 hall
      obtain ⟨c, u, hcu⟩ : ∃ c u, x.t.data.toList = c :: u := by
        cases hh : x.t.data.toList with
        | nil => have : x.t.data.toList.length = x.t.size := by simp
                 rw [hh] at this; simp at this; omega
        | cons c u => exact ⟨c, u, rfl⟩
      have hd1 : t.data.toList.drop a = c :: (u ++ sep :: (told sep xs ++ [sep])) := by rw [hd, hcu]; rfl
      obtain ⟨hlt, e⟩ := get_drop hd1
      have hrc : runB c = true := hu c (by rw [hcu]; exact List.mem_cons_self)
      obtain ⟨hnb, hns⟩ := run_noblank hrc
      have hlen : x.t.data.toList.length = x.t.size := by simp
      have htl : t.data.toList.length = t.size := by simp
      have hsz : a + x.t.size + 1 ≤ t.size := by
        have := congrArg List.length hd
        rw [List.length_drop, List.length_append, List.length_cons, hlen, htl] at this; omega
      have hE : rEnd t a = a + x.t.size := by
        unfold rEnd
        rw [rEndF_at x.t.data.toList a (t.size - a) sep _ hd hu hr (by omega), hlen]
      have hext : t.extract a (rEnd t a) = x.t := by
        apply ba_ext
        rw [ext_list, hE, hd, show a + x.t.size - a = x.t.data.toList.length from by omega, List.take_left]
      have hd2 : t.data.toList.drop (a + x.t.size) = sep :: (told sep xs ++ [sep]) := by rw [← hlen]; exact drop_more hd
      obtain ⟨hlt2, e2⟩ := get_drop hd2
      have hd3 : t.data.toList.drop (a + x.t.size + 1) = told sep xs ++ [sep] := drop_more (u := [sep]) hd2
      obtain ⟨g, rfl⟩ : ∃ g, f = g + 1 + 1 := ⟨f - 2, by omega⟩
      rw [lx_run hlt (by rw [e]; exact hnb) (by rw [e]; exact hns) (by rw [e]; exact hrc) (by rw [hext]; exact hR) (by omega), hE, lx_blank hlt2 (by rw [e2]; exact hb)]
      obtain ⟨ys, h1, h2⟩ := lx_told sep hb hr t xs (a + x.t.size + 1) g (out ++ [⟨x.k, t.extract a (a + x.t.size), x.n, a⟩]) hxs (by rw [List.length_append]; simp; omega) hd3 (by omega)
      refine ⟨⟨x.k, t.extract a (a + x.t.size), x.n, a⟩ :: ys, by rw [h1]; simp, ?_⟩
      rw [List.map_cons, List.map_cons, h2]
      rw [hE] at hext
      unfold core
      rw [hext]

/-- tokens told with a blank behind each are cut into the same ones -/
theorem lex_back (s : ByteArray) (l : List Tok) (sep : UInt8) (hb : isBlank sep) (hr : runB sep = false) (h : lexAll s = .ok l) (hs : s.size ≤ 2000) (t : ByteArray) (ht : t.data.toList = told sep l) :
    ∃ m, lexAll t = .ok m ∧ m.map core = l.map core := by
  unfold lexAll at h
  rw [if_neg (by omega)] at h
  obtain ⟨xs, rfl, hg, hl, hz⟩ := lx_good s s.size 0 [] l h (fun x hx => by cases hx) (by decide) (Nat.zero_le _) (Nat.zero_le _)
  have hn := good_len xs hg
  have htold : t.data.toList = told sep xs ++ [sep] := by rw [ht, told_append]; rfl
  have htl : t.size = sizes xs + xs.length + 1 := by
    have h1 : t.data.toList.length = t.size := by simp
    rw [← h1, htold, List.length_append, told_len]; rfl
  obtain ⟨ys, h1, h2⟩ := lx_told sep hb hr t xs 0 t.size [] hg (by simpa using hl) (by rw [List.drop_zero]; exact htold) (by omega)
  refine ⟨ys ++ [⟨0, ⟨#[]⟩, 0, t.size⟩], ?_, by rw [List.map_append, List.map_append, h2]; rfl⟩
  unfold lexAll
  rw [if_neg (by omega), h1]
  rfl

theorem runR_kind (t : ByteArray) (k n : Int) (h : runR t = (0, k, n)) : k = 1 ∨ k = 2 ∨ k = 3 := by
  unfold runR at h
  split at h <;> (try split at h) <;> (try split at h) <;> (try split at h) <;> (try split at h)
  all_goals
    have h1 := congrArg (fun r : Int × Int × Int => r.1) h
    have h2 := congrArg (fun r : Int × Int × Int => r.2.1) h
    dsimp only at h1 h2
    omega
/-- each token's kind; all tokens are as long as the text at most -/
theorem lex_kinds (s : ByteArray) (l : List Tok) (h : lexAll s = .ok l) (hs : s.size ≤ 4096) : (∀ x ∈ l, x.k = 0 ∨ x.k = 1 ∨ x.k = 2 ∨ x.k = 3 ∨ x.k = 4) ∧ l.length ≤ 1001 ∧ sizes l ≤ s.size := by
  unfold lexAll at h
  rw [if_neg (by omega)] at h
  obtain ⟨xs, rfl, hg, hl, hz⟩ := lx_good s s.size 0 [] l h (fun x hx => by cases hx) (by decide) (Nat.zero_le _) (Nat.zero_le _)
  refine ⟨fun x hx => ?_, by rw [List.length_append]; simp; omega, by rw [sizes_append]; show sizes xs + (0 + 0) ≤ s.size; omega⟩
  rcases List.mem_append.1 hx with hx | hx
  · rcases hg x hx with ⟨hk, _⟩ | ⟨_, _, hR⟩
    · omega
    · have := runR_kind _ _ _ hR; omega
  · rw [List.mem_singleton.1 hx]; exact .inl rfl
end Go.Proofs.Ytaofjnidniekjaa
