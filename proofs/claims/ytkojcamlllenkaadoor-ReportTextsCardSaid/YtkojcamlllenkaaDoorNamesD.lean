/- Contract of package bushelref10's Is. Conditions: those stated. -/
import Derived.Test.YtkojcamlllenkaaDoorMNames
namespace Go.Proofs.YtkojcamlllenkaaDoor
open Go.RowKit

theorem rplace_at (a : Option Addr) (n cap : Nat) (xs : List ByteArray) (s : ByteArray) (r : Int) (w : World) (h : RowS w a n cap xs) (hr : place xs s = r) :
  Calls Tryd.prog 79 #[.slice a n cap, .string s] w fun e w' => e = .returned (.int .i64 r) ∧ w = w' := by
 rw [← hr]; exact rplace_any a n cap xs s w h

theorem ris_any (s : ByteArray) (w : World) : Calls Tryd.prog 64 #[.string s] w fun e w' => e = .returned (.bool (nameB s)) ∧ Below w.heap.size w w' := by
 by_cases h0 : s.size = 0
 ·have HN := Lib.hid (nameB_no (s := s) (fun h => by have := h.1; omega))
  have h1 : (s.size : Int) < 1 := by omega
  clear h0
  go_enter Tryd.func64, Tryd.ntmps64
  go_wp2_with fail
  go_ret
  exact ⟨ret_boolS HN.out.symm, Below.refl _ _⟩
 ·by_cases h16 : 16 < s.size
  ·have HN := Lib.hid (nameB_no (s := s) (fun h => by have := h.2.1; omega))
   have h1 : ¬ ((s.size : Int) < 1) := by omega
   have h2 : 16 < (s.size : Int) := by omega
   clear h0 h16
   go_enter Tryd.func64, Tryd.ntmps64
   go_wp2_with fail
   go_ret
   exact ⟨ret_boolS HN.out.symm, Below.refl _ _⟩
  ·have hs0 : 0 < s.size := by omega
   have h1 : ¬ ((s.size : Int) < 1) := by omega
   have h2 : ¬ (16 < (s.size : Int)) := by omega
   have hsz : s.size ≤ 16 := by omega
   clear h0 h16
   obtain ⟨pl, hpl⟩ : ∃ r, place wordList s = r := ⟨_, rfl⟩
   have HPL := Lib.hid hpl
   by_cases hw : 0 ≤ pl
   ·have HN := Lib.hid (nameB_no (s := s) (fun h => by have h5 := h.2.2.2.2; unfold wordB at h5; rw [decide_eq_false_iff_not, hpl] at h5; exact h5 hw))
    clear hpl
    go_enter Tryd.func64, Tryd.ntmps64
    go_wp2_with fail
    refine (rwords_any _).mono ?_; rintro e w1 ⟨rfl, hr, hb⟩
    have HR := Lib.hid hr
    have HB := Lib.hid hb
    clear hr hb
    go_wp2_with fail
    refine (rplace_at _ _ _ _ _ _ _ HR.out HPL.out).mono ?_; rintro e w2 ⟨rfl, rfl⟩
    go_wp2_with fail
    go_ret
    exact ⟨ret_boolS HN.out.symm, HB.out⟩
   ·have HW : Hid (wordB s = false) := by
     have h : wordB s = false := by unfold wordB; rw [decide_eq_false_iff_not, hpl]; exact hw
     exact Lib.hid h
    clear hpl
    go_enter Tryd.func64, Tryd.ntmps64
    go_wp2_with fail
    refine (rwords_any _).mono ?_; rintro e w1 ⟨rfl, hr, hb⟩
    have HR := Lib.hid hr
    have HB := Lib.hid hb
    clear hr hb
    go_wp2_with fail
    refine (rplace_at _ _ _ _ _ _ _ HR.out HPL.out).mono ?_; rintro e w2 ⟨rfl, rfl⟩
    go_wp2_with fail
    go_loopg [3, 4, 5] s.size (fun g u x y wr => w1 = wr ∧ ∃ k : Nat, k + g = s.size ∧ u = .int .i64 k ∧ (∀ (i : Nat) (h : i < s.size), i < k → OkC s[i].toNat) ∧ (∀ h : 0 < s.size, 0 < k → 97 ≤ s[0].toNat ∧ s[0].toNat ≤ 122))
    case atStart => exact ⟨rfl, 0, by omega, rfl, fun i h hk => by omega, fun h hk => by omega⟩
    case round =>
     obtain ⟨rfl, k, hk, rfl, hj, hj0⟩ := hrel
     have HJ := Lib.hid hj
     have HJ0 := Lib.hid hj0
     have HK := Lib.hid hk
     clear hj hj0 hk
     by_cases hlt : k < s.size
     ·by_cases hok : OkC (s[k]'hlt).toNat
      ·have HOK := Lib.hid hok
       by_cases hsm : 97 ≤ (s[k]'hlt).toNat ∧ (s[k]'hlt).toNat ≤ 122
       ·have a1 : 97 ≤ ((s[k]'hlt).toNat : Int) := by omega
        have a2 : ((s[k]'hlt).toNat : Int) ≤ 122 := by omega
        have HSM := Lib.hid hsm
        clear hok hsm
        by_cases hd : 48 ≤ ((s[k]'hlt).toNat : Int)
        ·go_wp2_with fail
         go_roundg (gk - 1)
         case measure => have := HK.out; omega
         case rel => exact ⟨rfl, k + 1, by have := HK.out; omega, by go_num, (fun i h hi => by
          by_cases e : i = k
          ·subst e; exact HOK.out
          ·exact HJ.out i h (by omega)), (fun h hk => by
          by_cases e : k = 0
          ·subst e; exact HSM.out
          ·exact HJ0.out h (by omega))⟩
        ·omega
       ·have hb : (48 ≤ ((s[k]'hlt).toNat : Int) ∧ ((s[k]'hlt).toNat : Int) ≤ 57 ∧ ¬ (97 ≤ ((s[k]'hlt).toNat : Int))) ∨ (95 ≤ ((s[k]'hlt).toNat : Int) ∧ ((s[k]'hlt).toNat : Int) ≤ 95 ∧ ¬ (97 ≤ ((s[k]'hlt).toNat : Int)) ∧ (((s[k]'hlt).toNat : Int) == 95) = true) := by
         unfold OkC at hok
         rcases hok with h | h | h
         ·exact absurd h hsm
         ·exact .inl ⟨by omega, by omega, by omega⟩
         ·exact .inr ⟨by omega, by omega, by omega, by simp; omega⟩
        clear hok
        by_cases hk0 : k = 0
        ·subst hk0
         have HN := Lib.hid (nameB_no (s := s) (fun h => hsm (h.2.2.1 hlt)))
         clear hsm
         rcases hb with ⟨a1, a2, a3⟩ | ⟨a1, a2, a3, a4⟩
         all_goals
          go_wp2_with fail
          go_ret
          exact ⟨ret_boolS HN.out.symm, HB.out⟩
        ·have hk1 : ((k : Int) == 0) = false := by simp; omega
         have HK0 := Lib.hid hk0
         clear hsm hk0
         rcases hb with ⟨a1, a2, a3⟩ | ⟨a1, a2, a3, a4⟩
         all_goals
          go_wp2_with fail
          go_roundg (gk - 1)
          case measure => have := HK.out; omega
          case rel => exact ⟨rfl, k + 1, by have := HK.out; omega, by go_num, (fun i h hi => by
           by_cases e : i = k
           ·subst e; exact HOK.out
           ·exact HJ.out i h (by omega)), (fun h hk => HJ0.out h (by have := HK0.out; omega))⟩
      ·have HN := Lib.hid (nameB_no (s := s) (fun h => hok (h.2.2.2.1 k hlt)))
       have hb : (((s[k]'hlt).toNat : Int) == 95) = false ∧ (((s[k]'hlt).toNat : Int) < 48 ∨ (57 < ((s[k]'hlt).toNat : Int) ∧ ((s[k]'hlt).toNat : Int) < 97) ∨ 122 < ((s[k]'hlt).toNat : Int)) := by
        unfold OkC at hok
        exact ⟨by simp; omega, by omega⟩
       clear hok
       obtain ⟨a0, hb⟩ := hb
       rcases hb with a1 | ⟨a1, a2⟩ | a1
       ·go_wp2_with fail
        go_ret
        exact ⟨ret_boolS HN.out.symm, HB.out⟩
       ·go_wp2_with fail
        go_ret
        exact ⟨ret_boolS HN.out.symm, HB.out⟩
       ·have a5 : decide (((s[k]'hlt).toNat : Int) ≤ 122) = false := by simp; omega
        have a6 : decide (((s[k]'hlt).toNat : Int) ≤ 57) = false := by simp; omega
        go_wp2_with fail
        go_ret
        exact ⟨ret_boolS HN.out.symm, HB.out⟩
     ·have HN : Hid (nameB s = true) := Lib.hid (nameB_yes ⟨by omega, by omega, fun h => HJ0.out h (by have := HK.out; omega), fun i h => HJ.out i h (by omega), HW.out⟩)
      go_wp2_with fail
      go_ret
      exact ⟨ret_boolS HN.out.symm, HB.out⟩
end Go.Proofs.YtkojcamlllenkaaDoor
