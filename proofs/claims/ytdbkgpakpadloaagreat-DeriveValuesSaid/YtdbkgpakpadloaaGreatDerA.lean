/- Contracts of package derive's Same and package bushelref32's Same. No conditions but those stated. -/
import Derived.Test.YtdbkgpakpadloaaGreatMSch
import Derived.Test.YtdbkgpakpadloaaGreatMFloA
namespace Go.Proofs.YtdbkgpakpadloaaGreat
open Go.RowKit Ieee

/-- do two values tell the same? -/
def vSame (r1 r2 : Bool) (n1 n2 : Int) (x1 x2 : Nat) : Bool := if r1 = r2 then (if r1 = true then decide (keyN x1 = keyN x2) else decide (n1 = n2)) else false
theorem vSame_self (r : Bool) (n : Int) (x : Nat) : vSame r r n n x x = true := by unfold vSame; cases r <;> simp
set_option maxHeartbeats 2000000 in
theorem vsame_any (r1 r2 : Bool) (n1 n2 : Int) (x1 x2 : Nat) (w : World) (h1 : x1 < 18446744073709551616) (h2 : x2 < 18446744073709551616) :
  Calls Tryz.prog 10 #[.agg #[.bool r1, .int .i64 n1, .float .f64 x1], .agg #[.bool r2, .int .i64 n2, .float .f64 x2]] w fun e w' => e = .returned (.bool (vSame r1 r2 n1 n2 x1 x2)) ∧ Below w.heap.size w w' := by
 obtain ⟨hbx, hby, hbw, -⟩ := two_pbox w 40 40 #[.bool r1, .int .i64 n1, .float .f64 x1] #[.bool r2, .int .i64 n2, .float .f64 x2]
 have HBW := Lib.hid hbw
 have e0 := hbx 0
 have e1 := hbx 1
 have e2 := hbx 2
 have y0 := hby 0
 have y1 := hby 1
 have y2 := hby 2
 simp only [List.getElem?_toArray, List.getElem?_cons_zero, List.getElem?_cons_succ] at e0 e1 e2 y0 y1 y2
 have HK := Lib.hid (fun w => rsame_any x1 x2 w h1 h2)
 clear hbw hbx hby h1 h2
 obtain ⟨R, hR⟩ : ∃ R, vSame r1 r2 n1 n2 x1 x2 = R := ⟨_, rfl⟩
 have HR := Lib.hid hR
 clear hR
 rw [HR.out]
 go_enter Tryz.func10, Tryz.ntmps10
 go_upto_region 1 with fail
 generalize ((w.alloc (.cells #[.bool r1, .int .i64 n1, .float .f64 x1] 40)).alloc (.cells #[.bool r2, .int .i64 n2, .float .f64 x2] 40)) = w0 at *
 cases r1 <;> cases r2
 ·obtain ⟨B, hB⟩ : ∃ B, (n1 == n2) = B := ⟨_, rfl⟩
  have HE : Hid (R = B) := Lib.hid (by rw [← HR.out, ← hB]; show decide (n1 = n2) = _; rw [Bool.eq_iff_iff]; simp)
  cases B
  all_goals
   go_wp2_with fail
   go_ret
   exact ⟨ret_b HE.out, HBW.out⟩
 ·have HE : Hid (R = false) := Lib.hid (by rw [← HR.out]; rfl)
  go_wp2_with fail
  go_ret
  exact ⟨ret_b HE.out, HBW.out⟩
 ·have HE : Hid (R = false) := Lib.hid (by rw [← HR.out]; rfl)
  go_wp2_with fail
  go_ret
  exact ⟨ret_b HE.out, HBW.out⟩
 ·have HE : Hid (R = decide (keyN x1 = keyN x2)) := Lib.hid (by rw [← HR.out]; rfl)
  go_wp2_with fail
  refine (HK.out _).mono ?_; rintro e w1 ⟨rfl, hb1⟩
  rw [← HE.out]
  have HB1 := Lib.hid (HBW.out.trans (hb1.mono HBW.out.size))
  clear hb1
  go_wp2_with fail
  go_ret
  exact ⟨rfl, HB1.out⟩
end Go.Proofs.YtdbkgpakpadloaaGreat
