/- The chapter's examples of layer 1 answer true. No conditions. -/
import Derived.Test.YtflhmbbkmpdogaaWholeSum
namespace Go.Proofs.Ytflhmbbkmpdogaa
open Go.RowKit

theorem row_three (w : World) (x y z : Int) (t : TypeId) : RowK .i64 (w.alloc (.cells #[.int .i64 x, .int .i64 y, .int .i64 z] t)) (some ⟨w.heap.size, 0, none⟩) 3 3 [x, y, z] := by
  refine ⟨rfl, Nat.le_refl _, by unfold maxLen; omega, .inr ⟨w.heap.size, 0, rfl, by simp, fun i hi => ?_⟩⟩
  match i, hi with
  | 0, _ => simp [go_sem]
  | 1, _ => simp [go_sem]
  | 2, _ => simp [go_sem]

theorem awake_any (w : World) : Calls Try.prog 8 #[] w fun e w' => e = .returned (.bool true) ∧ Below w.heap.size w w' := by
  have hS : sm (fun i => [(9223372036854775807 : Int), 1, -1].getD i 0) 3 = 9223372036854775807 := by decide
  have HA : Hid (Below w.heap.size w (w.alloc (.cells #[.int .i64 9223372036854775807, .int .i64 1, .int .i64 (-1)] 2))) := Lib.hid ((Below.refl _ _).alloc (Nat.le_refl _) _)
  have hC := sum_ints _ _ _ _ _ (row_three w 9223372036854775807 1 (-1) 2) (by intro i hi; match i, hi with | 0, _ => decide | 1, _ => decide | 2, _ => decide) (by omega)
  rw [hS, show clip 9223372036854775807 = 9223372036854775807 from by decide, show fits 9223372036854775807 = true from by decide] at hC
  have HC := Lib.hid hC
  clear hS hC
  go_enter Try.func8, Try.ntmps8
  go_wp2_with fail
  refine HC.out.mono ?_; rintro e w1 ⟨rfl, hb1⟩
  have HB1 := Lib.hid (HA.out.trans (hb1.mono (by simp)))
  clear hb1
  go_wp2_with fail
  refine (whole_div (-7) 2 _ (by omega) (by omega) (by omega) (by omega) (by omega) (by omega)).mono ?_; rintro e w2 ⟨rfl, hb2⟩
  have HB2 := Lib.hid (HB1.out.trans (hb2.mono HB1.out.size))
  clear hb2
  rw [show Int.fdiv (-7) 2 = -4 from by decide, show Int.fmod (-7) 2 = 1 from by decide]
  go_wp2_with fail
  refine (whole_half (-3) 0 _ (by omega) (by omega) (by omega) (by omega)).mono ?_; rintro e w3 ⟨rfl, rfl⟩
  rw [show ((-3 : Int) + 0) / 2 = -2 from by decide]
  go_wp2_with fail
  go_ret
  exact ⟨rfl, HB2.out⟩
end Go.Proofs.Ytflhmbbkmpdogaa
