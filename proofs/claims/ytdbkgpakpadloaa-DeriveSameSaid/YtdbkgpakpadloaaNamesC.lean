/- Contract of names.Is. Conditions: those stated. -/
import Derived.Test.YtdbkgpakpadloaaNamesB
namespace Go.Proofs.Ytdbkgpakpadloaa
open Go.RowKit

/-- a byte of a name -/
def OkC (c : Nat) : Prop := (97 ≤ c ∧ c ≤ 122) ∨ (48 ≤ c ∧ c ≤ 57) ∨ c = 95
/-- when a text is a name -/
def NameP (s : ByteArray) : Prop := 1 ≤ s.size ∧ s.size ≤ 16 ∧ (∀ h : 0 < s.size, 97 ≤ s[0].toNat ∧ s[0].toNat ≤ 122) ∧ (∀ (i : Nat) (h : i < s.size), OkC s[i].toNat) ∧ wordB s = false
noncomputable def nameB (s : ByteArray) : Bool := @decide (NameP s) (Classical.propDecidable _)
theorem nameB_yes {s : ByteArray} (h : NameP s) : nameB s = true := by exact @decide_eq_true _ (Classical.propDecidable _) h
theorem nameB_no {s : ByteArray} (h : ¬ NameP s) : nameB s = false := by exact @decide_eq_false _ (Classical.propDecidable _) h
theorem ne_empty {s : ByteArray} (h : 0 < s.size) : s ≠ ByteArray.empty := fun e => by rw [e] at h; exact absurd h (by decide)

theorem pis_any (s : ByteArray) (w : World) : Calls Try.prog 23 #[.string s] w fun e w' => e = .returned (.bool (nameB s)) ∧ Below w.heap.size w w' := by
  by_cases h0 : s.size = 0
  · have he : s = ByteArray.empty := by
      apply ByteArray.ext; apply Array.ext'; exact List.eq_nil_of_length_eq_zero h0
    subst he
    have HN := Lib.hid (nameB_no (s := ByteArray.empty) (fun h => by have := h.1; exact absurd this (by decide)))
    go_enter Try.func23, Try.ntmps23
    go_wp2_with fail
    go_ret
    exact ⟨ret_boolS HN.out.symm, Below.refl _ _⟩
  · have hs0 : 0 < s.size := by omega
    have hq0 : s.toList.isEmpty = false := by
      rw [Lib.toList_data, List.isEmpty_eq_false_iff]
      intro e; have : s.data.toList.length = 0 := by rw [e]; rfl
      exact h0 this
    by_cases h16 : 16 < s.size
    · have HN := Lib.hid (nameB_no (s := s) (fun h => by have := h.2.1; omega))
      go_enter Try.func23, Try.ntmps23
      go_wp2_with fail
      go_ret
      exact ⟨ret_boolS HN.out.symm, Below.refl _ _⟩
    · obtain ⟨c0, hc0⟩ : ∃ c : Nat, c = (s[0]'hs0).toNat := ⟨_, rfl⟩
      by_cases hsm : 97 ≤ c0 ∧ c0 ≤ 122
      · obtain ⟨g1, g2⟩ := hsm
        have HC := Lib.hid hc0
        have e1 : ¬ (((s[0]'hs0).toNat : Int) < 97) := by omega
        have e2 : ¬ (122 < ((s[0]'hs0).toNat : Int)) := by omega
        have hsz : s.size ≤ 16 := by omega
        clear hc0 h16 h0
        go_enter Try.func23, Try.ntmps23
        go_wp2_with fail
        go_loopg [3, 4, 24] s.size (fun g x y u wr => w = wr ∧ ∃ k : Nat, k + g = s.size ∧ u = .int .i64 k ∧ ∀ (i : Nat) (h : i < s.size), i < k → OkC s[i].toNat)
        case atStart => exact ⟨rfl, 0, by omega, rfl, fun i h hk => by omega⟩
        case round =>
          obtain ⟨rfl, k, hk, rfl, hj⟩ := hrel
          have HJ := Lib.hid hj
          have HK := Lib.hid hk
          clear hj hk e1 e2
          by_cases hlt : k < s.size
          · by_cases hok : OkC (s[k]'hlt).toNat
            · have HOK := Lib.hid hok
              have hb : (97 ≤ ((s[k]'hlt).toNat : Int) ∧ ((s[k]'hlt).toNat : Int) ≤ 122) ∨ (48 ≤ ((s[k]'hlt).toNat : Int) ∧ ((s[k]'hlt).toNat : Int) ≤ 57) ∨ (95 ≤ ((s[k]'hlt).toNat : Int) ∧ ((s[k]'hlt).toNat : Int) ≤ 95 ∧ (((s[k]'hlt).toNat : Int) != 95) = false) := by
                rcases hok with ⟨a1, a2⟩ | ⟨a1, a2⟩ | a1
                · exact .inl ⟨by omega, by omega⟩
                · exact .inr (.inl ⟨by omega, by omega⟩)
                · exact .inr (.inr ⟨by omega, by omega, by simp; omega⟩)
              clear hok
              rcases hb with ⟨a1, a2⟩ | ⟨a1, a2⟩ | ⟨a1, a2, a3⟩
              all_goals
                go_wp2_with fail
                go_roundg (gk - 1)
                case measure => have := HK.out; omega
                case rel => exact ⟨rfl, k + 1, by have := HK.out; omega, by go_num, fun i h hi => by
                  by_cases e : i = k
                  · subst e; exact HOK.out
                  · exact HJ.out i h (by omega)⟩
            · have HN := Lib.hid (nameB_no (s := s) (fun h => hok (h.2.2.2.1 k hlt)))
              have hb : (((s[k]'hlt).toNat : Int) != 95) = true ∧ (((s[k]'hlt).toNat : Int) < 48 ∨ (57 < ((s[k]'hlt).toNat : Int) ∧ ((s[k]'hlt).toNat : Int) < 97) ∨ 122 < ((s[k]'hlt).toNat : Int)) := by
                unfold OkC at hok
                exact ⟨by simp; omega, by omega⟩
              clear hok
              obtain ⟨a0, hb⟩ := hb
              rcases hb with a1 | ⟨a1, a2⟩ | a1
              all_goals
                go_wp2_with fail
                go_ret
                exact ⟨ret_boolS HN.out.symm, Below.refl _ _⟩
          · have HN : Hid (nameB s = !wordB s) := by
              have h : nameB s = !wordB s := by
                cases hw : wordB s
                · exact nameB_yes ⟨by omega, by omega, fun _ => by rw [← HC.out]; exact ⟨g1, g2⟩, fun i h => HJ.out i h (by omega), hw⟩
                · exact nameB_no (fun h => by have h5 := h.2.2.2.2; rw [hw] at h5; cases h5)
              exact Lib.hid h
            go_wp2_with fail
            refine (nmword_any _ _).mono ?_; rintro e w1 ⟨rfl, hb⟩
            go_wp2_with fail
            go_ret
            exact ⟨ret_boolS HN.out.symm, hb⟩
      · have HN := Lib.hid (nameB_no (s := s) (fun h => hsm (by rw [hc0]; exact h.2.2.1 hs0)))
        have hb : ((s[0]'hs0).toNat : Int) < 97 ∨ 122 < ((s[0]'hs0).toNat : Int) := by omega
        clear hsm hc0
        rcases hb with a1 | a1
        all_goals
          go_enter Try.func23, Try.ntmps23
          go_wp2_with fail
          go_ret
          exact ⟨ret_boolS HN.out.symm, Below.refl _ _⟩
end Go.Proofs.Ytdbkgpakpadloaa
