/- Contracts of package bushelref01's Int, Fits, Is. Conditions: the numbers have room in 64 bits, or lie below 1000^1000000, where that is said. -/
import Derived.Test.YtehmompbmnejkaaGreatMNum
import Derived.Test.YtehmompbmnejkaaGreatRef01o
namespace Go.Proofs.YtehmompbmnejkaaGreat
open Go.RowKit

theorem int_any (na : Bool) (a : Option Addr) (n c : Nat) (x : Int) (w : World) (hx : NumC w na a n c x) (h0 : -9223372036854775808 ≤ x) (h1 : x ≤ 9223372036854775807) :
  Calls Tryz.prog 83 #[.agg #[.bool na, .slice a n c]] w fun e w' => e = .returned (.int .i64 x) ∧ Below w.heap.size w w' := by
 have hs := hx.sign
 have HX := Lib.hid hx
 have hb0 : Below w.heap.size w (w.alloc (.cells #[.bool na, .slice a n c] 83)) := (Below.refl _ _).alloc (Nat.le_refl _) _
 have HB := Lib.hid hb0
 clear hx hb0
 cases na
 ·have hx0 : 0 ≤ x := by have := of_decide_eq_false hs.symm; omega
  clear hs
  go_enter Tryz.func83, Tryz.ntmps83
  go_wp2_with fail
  refine (uint_any _ _ _ _ x _ (HX.out.below HB.out (Nat.le_refl _)) (by omega)).mono ?_; rintro e w1 ⟨rfl, hb1⟩
  have hb2 := HB.out.trans (hb1.mono (by simp))
  clear hb1
  go_wp2_with fail
  go_ret
  exact ⟨ret_int (by omega), hb2⟩
 ·have hx0 : x < 0 := of_decide_eq_true hs.symm
  clear hs
  go_enter Tryz.func83, Tryz.ntmps83
  go_wp2_with fail
  go_region_held3 (fun w' => w'.cell? ⟨w.heap.size, 0, none⟩ = some (.bool true) ∧ w'.cell? ⟨w.heap.size, 1, none⟩ = some (.slice a n c)) (go_keep)
   (first
    | (go_at_call 60; refine (nat_any 1 _ (by omega) (by omega)).mono ?_; rintro e w1 ⟨neg1, a1, n1, c1, rfl, hN1, hb1, hf1⟩; simp only [World.size_drew, World.size_alloc] at hb1; obtain ⟨bc1, bf1⟩ := bcell hb1)
    | (go_at_call 53; refine (add_any _ _ _ _ _ _ _ _ x 1 _ (by exact HX.out.below (HB.out.drew.trans (hb1.mono (by omega))) (Nat.le_refl _)) hN1 (by exact Fit.i64 (by omega) (by omega)) (by exact Fit.i64 (by omega) (by omega))).mono ?_; rintro e w2 ⟨neg2, a2, n2, c2, rfl, hN2, hb2, hf2⟩; have hb3 := hb1.trans (hb2.mono (by have := hb1.size; simpa using this)); clear bc1 bf1; obtain ⟨bc2, bf2⟩ := bcell hb3)
    | (go_at_call 103; refine (uint_any _ _ _ _ (x + 1) _ hN2 (by omega)).mono ?_; rintro e w3 ⟨rfl, hb4⟩; have hb5 := hb3.trans (hb4.mono (by have := hb3.size; simpa using this)); clear bc2 bf2; obtain ⟨bc3, bf3⟩ := bcell hb5))
  go_wp2_with fail
  go_ret
  exact ⟨ret_int (by rw [IntWalk.i64_in ((x + 1).natAbs : Int) (by omega), IntWalk.i64_in (-((x + 1).natAbs : Int)) (by omega), IntWalk.i64_in _ (by omega)]; omega), HB.out.drew.trans (hb5.mono (by omega))⟩

theorem fits_any (na : Bool) (a : Option Addr) (n c : Nat) (x : Int) (w : World) (hx : NumC w na a n c x) :
  Calls Tryz.prog 82 #[.agg #[.bool na, .slice a n c]] w fun e w' => e = .returned (.bool (fits x)) ∧ Below w.heap.size w w' := by
 have HX := Lib.hid hx
 have hb0 : Below w.heap.size w (w.alloc (.cells #[.bool na, .slice a n c] 83)) := (Below.refl _ _).alloc (Nat.le_refl _) _
 have HB := Lib.hid hb0
 have hbA : Below (w.heap.size + 1) (w.alloc (.cells #[.bool na, .slice a n c] 83)) (w.alloc (.cells #[.bool na, .slice a n c] 83)).drew := (Below.refl _ _).drew
 clear hx hb0
 obtain ⟨r1, hr1⟩ : ∃ r, cmpZ x (-9223372036854775808) = r := ⟨_, rfl⟩
 obtain ⟨r2, hr2⟩ : ∃ r, cmpZ x 9223372036854775807 = r := ⟨_, rfl⟩
 have R1 := Lib.hid hr1
 have R2 := Lib.hid hr2
 clear hr1 hr2
 by_cases h1 : -9223372036854775808 ≤ x
 ·have g1 : 0 ≤ r1 := by rw [← R1.out]; exact cmpZ_ge h1
  by_cases h2 : x ≤ 9223372036854775807
  ·have g2 : r2 ≤ 0 := by rw [← R2.out]; unfold cmpZ; split <;> (try split) <;> omega
   rw [fits_yes ⟨h1, h2⟩]
   go_enter Tryz.func82, Tryz.ntmps82
   go_wp2_with fail
   go_region_held3 (fun w' => w'.cell? ⟨w.heap.size, 0, none⟩ = some (.bool na) ∧ w'.cell? ⟨w.heap.size, 1, none⟩ = some (.slice a n c)) (go_keep)
    (first
     | (go_at_call 30; refine (of_any _ _ (by omega) (by omega)).mono ?_; rintro e w1 ⟨neg1, a1, n1, c1, rfl, hN1, hb1, hf1⟩; replace hbA := hbA.trans (hb1.mono (Nat.le_trans (by simp) hbA.size)); obtain ⟨bc1, bf1⟩ := bcell hbA)
     | (go_at_call 87; refine (cmp_at _ _ _ _ _ _ _ _ x _ _ _ R1.out (by exact HX.out.below (HB.out.trans (hbA.mono (by omega))) (Nat.le_refl _)) hN1).mono ?_; rintro e w1 ⟨rfl, hb1⟩; replace hbA := hbA.trans (hb1.mono (Nat.le_trans (by simp) hbA.size)); obtain ⟨bc1, bf1⟩ := bcell hbA; clear hN1)
     | (go_at_call 87; refine (cmp_at _ _ _ _ _ _ _ _ x _ _ _ R2.out (by exact HX.out.below (HB.out.trans (hbA.mono (by omega))) (Nat.le_refl _)) hN1).mono ?_; rintro e w1 ⟨rfl, hb1⟩; replace hbA := hbA.trans (hb1.mono (Nat.le_trans (by simp) hbA.size)); obtain ⟨bc1, bf1⟩ := bcell hbA; clear hN1))
   go_wp2_with fail
   go_ret
   exact ⟨rfl, HB.out.trans (hbA.mono (by omega))⟩
  ·have g2 : 0 < r2 := by rw [← R2.out, cmpZ_gt (by omega)]; omega
   rw [fits_no (by omega)]
   go_enter Tryz.func82, Tryz.ntmps82
   go_wp2_with fail
   go_region_held3 (fun w' => w'.cell? ⟨w.heap.size, 0, none⟩ = some (.bool na) ∧ w'.cell? ⟨w.heap.size, 1, none⟩ = some (.slice a n c)) (go_keep)
    (first
     | (go_at_call 30; refine (of_any _ _ (by omega) (by omega)).mono ?_; rintro e w1 ⟨neg1, a1, n1, c1, rfl, hN1, hb1, hf1⟩; replace hbA := hbA.trans (hb1.mono (Nat.le_trans (by simp) hbA.size)); obtain ⟨bc1, bf1⟩ := bcell hbA)
     | (go_at_call 87; refine (cmp_at _ _ _ _ _ _ _ _ x _ _ _ R1.out (by exact HX.out.below (HB.out.trans (hbA.mono (by omega))) (Nat.le_refl _)) hN1).mono ?_; rintro e w1 ⟨rfl, hb1⟩; replace hbA := hbA.trans (hb1.mono (Nat.le_trans (by simp) hbA.size)); obtain ⟨bc1, bf1⟩ := bcell hbA; clear hN1)
     | (go_at_call 87; refine (cmp_at _ _ _ _ _ _ _ _ x _ _ _ R2.out (by exact HX.out.below (HB.out.trans (hbA.mono (by omega))) (Nat.le_refl _)) hN1).mono ?_; rintro e w1 ⟨rfl, hb1⟩; replace hbA := hbA.trans (hb1.mono (Nat.le_trans (by simp) hbA.size)); obtain ⟨bc1, bf1⟩ := bcell hbA; clear hN1))
   go_wp2_with fail
   go_ret
   exact ⟨ret_bool (by simp; omega), HB.out.trans (hbA.mono (by omega))⟩
 ·have g1 : r1 < 0 := by rw [← R1.out, cmpZ_lt (by omega)]; omega
  have g3 : decide (0 ≤ r1) = false := by simp; omega
  rw [fits_no (by omega)]
  go_enter Tryz.func82, Tryz.ntmps82
  go_wp2_with fail
  refine wp_region_held_drew (S := (fun w' => w'.cell? ⟨w.heap.size, 0, none⟩ = some (.bool na) ∧ w'.cell? ⟨w.heap.size, 1, none⟩ = some (.slice a n c))) (by kernel_rfl) (by go_keep) (fun hHeld => ?_)
  refine wpAnyH_take (i := 0) (oi := ⟨some 3, _, _, _, _, _⟩) (v := ?_) rfl (by kernel_rfl) (by kernel_rfl) (by kernel_rfl) (fun _ _ _ h => h) (Or.inl ⟨by rfl, ?_⟩) (by assumption) ?_
  rotate_left 1
  ·(intro w hSw; (try dsimp only at hSw); go_simp; try with_reducible rfl)
  try simp only [Act.put, List.setIfInBounds_toArray, List.set_cons_zero, List.set_cons_succ]
  refine wpAnyH_ready (rs := [1]) (by kernel_rfl) (by simp) ?_
  refine AllReadyH.cons (o := _) rfl (fun K hK => ?_) AllReadyH.nil
  go_simp
  refine (of_any _ _ (by omega) (by omega)).mono ?_; rintro e w1 ⟨neg1, a1, n1, c1, rfl, hN1, hb1, hf1⟩; replace hbA := hbA.trans (hb1.mono (Nat.le_trans (by simp) hbA.size)); obtain ⟨bc1, bf1⟩ := bcell hbA
  refine hK.out _ _ (by go_keep) (fun hHeld => ?_)
  clear hK K
  try simp only [Act.put, List.setIfInBounds_toArray, List.set_cons_zero, List.set_cons_succ]
  refine wpAnyH_ready (rs := [2]) (by kernel_rfl) (by simp) ?_
  refine AllReadyH.cons (o := _) rfl (fun K hK => ?_) AllReadyH.nil
  go_simp
  refine (cmp_at _ _ _ _ _ _ _ _ x _ _ _ R1.out (by exact HX.out.below (HB.out.trans (hbA.mono (by omega))) (Nat.le_refl _)) hN1).mono ?_; rintro e w1 ⟨rfl, hb1⟩; replace hbA := hbA.trans (hb1.mono (Nat.le_trans (by simp) hbA.size)); obtain ⟨bc1, bf1⟩ := bcell hbA; clear hN1
  refine hK.out _ _ (by go_keep) (fun hHeld => ?_)
  clear hK K
  try simp only [Act.put, List.setIfInBounds_toArray, List.set_cons_zero, List.set_cons_succ]
  refine wpAnyH_take (i := 3) (oi := ⟨some 6, _, _, _, _, _⟩) (v := ?_) rfl (by kernel_rfl) (by kernel_rfl) (by kernel_rfl) (fun _ _ _ h => h) (Or.inl ⟨by rfl, ?_⟩) (by assumption) ?_
  rotate_left 1
  ·(intro w hSw; (try dsimp only at hSw); go_simp; try with_reducible rfl)
  try simp only [Act.put, List.setIfInBounds_toArray, List.set_cons_zero, List.set_cons_succ]
  refine wpAnyH_take (i := 4) (oi := ⟨some 7, _, _, _, _, _⟩) (v := ?_) rfl (by kernel_rfl) (by kernel_rfl) (by kernel_rfl) (fun _ _ _ h => h) (Or.inl ⟨by rfl, ?_⟩) (by assumption) ?_
  rotate_left 1
  ·(intro w hSw; (try dsimp only at hSw); go_simp; try with_reducible rfl)
  try simp only [Act.put, List.setIfInBounds_toArray, List.set_cons_zero, List.set_cons_succ]
  refine wpAnyH_take (i := 5) (oi := ⟨some 8, _, _, _, _, _⟩) (v := undef) rfl (by kernel_rfl) (by kernel_rfl) (by kernel_rfl) (fun _ _ _ h => h) (Or.inr ⟨by rfl, rfl⟩) (by assumption) ?_
  try simp only [Act.put, List.setIfInBounds_toArray, List.set_cons_zero, List.set_cons_succ]
  refine wpAnyH_take (i := 6) (oi := ⟨some 9, _, _, _, _, _⟩) (v := undef) rfl (by kernel_rfl) (by kernel_rfl) (by kernel_rfl) (fun _ _ _ h => h) (Or.inr ⟨by rfl, rfl⟩) (by assumption) ?_
  try simp only [Act.put, List.setIfInBounds_toArray, List.set_cons_zero, List.set_cons_succ]
  refine wpAnyH_take (i := 7) (oi := ⟨some 10, _, _, _, _, _⟩) (v := undef) rfl (by kernel_rfl) (by kernel_rfl) (by kernel_rfl) (fun _ _ _ h => h) (Or.inr ⟨by rfl, rfl⟩) (by assumption) ?_
  try simp only [Act.put, List.setIfInBounds_toArray, List.set_cons_zero, List.set_cons_succ]
  refine wpAnyH_take (i := 8) (oi := ⟨some 11, _, _, _, _, _⟩) (v := undef) rfl (by kernel_rfl) (by kernel_rfl) (by kernel_rfl) (fun _ _ _ h => h) (Or.inr ⟨by rfl, rfl⟩) (by assumption) ?_
  try simp only [Act.put, List.setIfInBounds_toArray, List.set_cons_zero, List.set_cons_succ]
  refine wpAnyH_take (i := 9) (oi := ⟨some 12, _, _, _, _, _⟩) (v := ?_) rfl (by kernel_rfl) (by kernel_rfl) (by kernel_rfl) (fun _ _ _ h => h) (Or.inl ⟨by rfl, ?_⟩) (by assumption) ?_
  rotate_left 1
  ·(intro w hSw; (try dsimp only at hSw); go_simp; try with_reducible rfl)
  try simp only [Act.put, List.setIfInBounds_toArray, List.set_cons_zero, List.set_cons_succ]
  refine wpAnyH_take (i := 10) (oi := ⟨some 2, _, _, _, _, _⟩) (v := ?_) rfl (by kernel_rfl) (by kernel_rfl) (by kernel_rfl) (fun _ _ _ h => h) (Or.inl ⟨by rfl, ?_⟩) (by assumption) ?_
  rotate_left 1
  ·(intro w hSw; (try dsimp only at hSw); go_simp; try with_reducible rfl)
  try simp only [Act.put, List.setIfInBounds_toArray, List.set_cons_zero, List.set_cons_succ]
  refine wpAnyH_done (by kernel_rfl) ?_ _
  all_goals go_wp2_with fail
  all_goals go_ret
  all_goals exact ⟨ret_bool (by first | rfl | (simp; omega)), HB.out.trans (hbA.mono (by omega))⟩

end Go.Proofs.YtehmompbmnejkaaGreat
