/- Contract of package bushelref01's Of. No conditions but int64's range. -/
import Derived.Test.YtehmompbmnejkaaGreatMNum
namespace Go.Proofs.YtehmompbmnejkaaGreat
open Go.RowKit

theorem of_any (x : Int) (w : World) (h0 : -9223372036854775808 ≤ x) (h1 : x ≤ 9223372036854775807) :
  Calls Tryz.prog 30 #[.int .i64 x] w (RetNum w x) := by
 by_cases hx : x < 0
 ·have HB : Hid (Below w.heap.size w (w.alloc (.cells #[.bool false, .slice none 0 0] 83))) := Lib.hid ((Below.refl _ _).alloc (Nat.le_refl _) _)
  go_enter Tryz.func30, Tryz.ntmps30
  go_wp2_with fail
  refine (nat_any _ _ (by omega) (by omega)).mono ?_; rintro e w1 ⟨neg1, a1, n1, c1, rfl, hN1, hb1, hf1⟩
  simp only [World.size_alloc] at hb1
  have HN1 := Lib.hid hN1
  clear hN1
  go_wp2_with fail
  refine (nat_any _ _ (by omega) (by omega)).mono ?_; rintro e w2 ⟨neg2, a2, n2, c2, rfl, hN2, hb2, hf2⟩
  have hz1 := hb1.size
  simp only [World.size_alloc] at hz1
  have hz2 := hb2.size
  have hb2' := hb1.trans (hb2.mono hz1)
  have HN2 := Lib.hid hN2
  clear hN2
  go_wp2_with fail
  refine (add_any _ _ _ _ _ _ _ _ _ _ _ (HN1.out.below hb2 (Nat.le_refl _)) HN2.out (Fit.i64 (by omega) (by omega)) (Fit.i64 (by omega) (by omega))).mono ?_; rintro e w3 ⟨neg3, a3, n3, c3, rfl, hN3, hb3, hf3⟩
  have hb3' := hb2'.trans (hb3.mono (by omega))
  have hz3 := hb3.size
  have HN3 := Lib.hid hN3
  clear hN3
  go_wp2_with fail
  refine (neg_any _ _ _ _ _ _ HN3.out).mono ?_; rintro e w4 ⟨neg4, a4, n4, c4, rfl, hN4, hb4, hf4⟩
  have hb4' := hb3'.trans (hb4.mono (by omega))
  rw [show -(-(x + 1) + 1) = x from by omega] at hN4
  obtain ⟨bc, bf⟩ := bcell hb4'
  have HN4 := Lib.hid hN4
  clear hN4
  go_wp2_with fail
  exact bodyPost_ret (v := .agg #[.bool neg4, .slice a4 n4 c4]) (by simp [results, Tryz.results30, go_sem, bc]) rfl
   (RetNum.stored HN4.out (Nat.le_refl _) (HB.out.trans (hb4'.mono (by omega))) (by simp [go_sem, bc]) (by simp [go_sem, bc]) ((hf3.mono (by omega)).same hf4))
 ·have HB : Hid (Below w.heap.size w (w.alloc (.cells #[.bool false, .slice none 0 0] 83))) := Lib.hid ((Below.refl _ _).alloc (Nat.le_refl _) _)
  go_enter Tryz.func30, Tryz.ntmps30
  go_wp2_with fail
  refine (nat_any _ _ (by omega) (by omega)).mono ?_; rintro e w1 ⟨neg1, a1, n1, c1, rfl, hN1, hb1, hf1⟩
  simp only [World.size_alloc] at hb1
  obtain ⟨bc, bf⟩ := bcell hb1
  have HN1 := Lib.hid hN1
  clear hN1
  go_wp2_with fail
  exact bodyPost_ret (v := .agg #[.bool neg1, .slice a1 n1 c1]) (by simp [results, Tryz.results30, go_sem, bc]) rfl
   (RetNum.stored HN1.out (Nat.le_refl _) (HB.out.trans (hb1.mono (by omega))) (by simp [go_sem, bc]) (by simp [go_sem, bc]) (hf1.mono (by simp)))
end Go.Proofs.YtehmompbmnejkaaGreat
