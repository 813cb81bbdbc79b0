/- The contract of bushelref29.Column. No conditions but those stated. -/
import Derived.Test.YtkojcamlllenkaaDoorMRs1
import Derived.Test.YtkojcamlllenkaaDoorMSch
namespace Go.Proofs.YtkojcamlllenkaaDoor
open Go.RowKit

set_option maxHeartbeats 2000000 in
theorem rcolumn_any (w : World) (l : SchL) (s : Sch) (k m : Int) (h : SchAt w l s) (hk : I64 k) (hm : I64 m) (hi : s.ints.length ≤ 1000) (hn : s.nums.length ≤ 1000) :
  Calls Tryd.prog 45 #[l.val, .agg #[.int .i64 k, .int .i64 m]] w fun e w' => e = .returned (.bool (colB s.ints.length s.nums.length k m)) ∧ Below w.heap.size w w' := by
 obtain ⟨ad, nd, cd, ai, ni, ci, an, nn, cn, av, nv, cv⟩ := l
 obtain ⟨hbx, hby, hbw, hsz⟩ := two_pbox w 26 61 #[.slice ad nd cd, .slice ai ni ci, .slice an nn cn, .slice av nv cv] #[.int .i64 k, .int .i64 m]
 have HLN := Lib.hid (And.intro (show s.ints.length = ni from h.2.2.1.1) (show s.nums.length = nn from h.2.2.2.1.1))
 have mi : ni ≤ 1000 := by rw [← HLN.out.1]; exact hi
 have mn : nn ≤ 1000 := by rw [← HLN.out.2]; exact hn
 clear hi hn
 have HBW := Lib.hid hbw
 have e1 := hbx 1
 have e2 := hbx 2
 have y0 := hby 0
 have y1 := hby 1
 simp only [List.getElem?_toArray, List.getElem?_cons_zero, List.getElem?_cons_succ] at e1 e2 y0 y1
 obtain ⟨RB, hRB⟩ : ∃ b, colB s.ints.length s.nums.length k m = b := ⟨_, rfl⟩
 rw [hRB]
 have HRB : Hid (RB = colB ni nn k m) := Lib.hid (by rw [← hRB]; rw [HLN.out.1, HLN.out.2])
 obtain ⟨k0, k1⟩ := hk
 obtain ⟨m0, m1⟩ := hm
 clear h hbw hbx hby hsz hRB
 unfold SchL.val
 go_enter Tryd.func45, Tryd.ntmps45
 go_upto_region 1 with fail
 generalize ((w.alloc (.cells #[.slice ad nd cd, .slice ai ni ci, .slice an nn cn, .slice av nv cv] 26)).alloc (.cells #[.int .i64 k, .int .i64 m] 61)) = w0 at *
 generalize hS : w.heap.size = S at *
 have HSS := Lib.hid hS
 clear hS
 by_cases hk0 : k = 0
 ·subst hk0
  have HR : Hid (RB = decide (m = 0)) := Lib.hid (by rw [HRB.out]; rfl)
  go_wp2_with fail
  go_ret
  exact ⟨ret_b (by rw [HR.out, Bool.eq_iff_iff]; simp), by rw [HSS.out]; exact HBW.out⟩
 have t0 : (k == 0) = false := by simpa using hk0
 by_cases hk1 : k < 0
 ·have HR : Hid (RB = false) := Lib.hid (by rw [HRB.out]; unfold colB; rw [if_neg hk0, if_neg (by omega), if_neg (by omega)])
  have t1 : decide (k < 0) = true := decide_eq_true hk1
  clear hk0 hk1
  go_wp2_with fail
  go_ret
  exact ⟨ret_b HR.out, by rw [HSS.out]; exact HBW.out⟩
 have t1 : decide (k < 0) = false := decide_eq_false hk1
 by_cases hk6 : 6 < k
 ·have HR : Hid (RB = false) := Lib.hid (by rw [HRB.out]; unfold colB; rw [if_neg hk0, if_neg (by omega), if_neg (by omega)])
  have t2 : decide (6 < k) = true := decide_eq_true hk6
  clear hk0 hk1 hk6
  go_wp2_with fail
  go_ret
  exact ⟨ret_b HR.out, by rw [HSS.out]; exact HBW.out⟩
 have t2 : decide (6 < k) = false := decide_eq_false hk6
 by_cases hm0 : m < 0
 ·have HR : Hid (RB = false) := Lib.hid (by rw [HRB.out]; unfold colB; rw [if_neg hk0]; split; exact decide_eq_false (by omega); rw [if_pos (by omega)]; exact decide_eq_false (by omega))
  have t3 : decide (m < 0) = true := decide_eq_true hm0
  clear hk0 hk1 hk6 hm0
  go_wp2_with fail
  go_ret
  exact ⟨ret_b HR.out, by rw [HSS.out]; exact HBW.out⟩
 have t3 : decide (m < 0) = false := decide_eq_false hm0
 by_cases hmi : m < (ni : Int)
 ·have HR : Hid (RB = true) := Lib.hid (by rw [HRB.out]; unfold colB; rw [if_neg hk0]; split; exact decide_eq_true (by omega); rw [if_pos (by omega)]; exact decide_eq_true (by omega))
  have t4 : decide (m < (ni : Int)) = true := decide_eq_true hmi
  clear hk0 hk1 hk6 hm0 hmi
  go_wp2_with fail
  go_ret
  exact ⟨ret_b HR.out, by rw [HSS.out]; exact HBW.out⟩
 have t4 : decide (m < (ni : Int)) = false := decide_eq_false hmi
 by_cases hk4 : k ≤ 4
 ·have HR : Hid (RB = decide (m < ((ni : Int) + (nn : Int)))) := Lib.hid (by rw [HRB.out]; unfold colB; rw [if_neg hk0, if_pos (by omega), decide_eq_decide]; omega)
  have t5 : decide (k ≤ 4) = true := decide_eq_true hk4
  clear hk0 hk1 hk6 hm0 hmi hk4
  go_wp2_with fail
  go_ret
  exact ⟨ret_b HR.out, by rw [HSS.out]; exact HBW.out⟩
 ·have HR : Hid (RB = false) := Lib.hid (by rw [HRB.out]; unfold colB; rw [if_neg hk0, if_neg (by omega), if_pos (by omega)]; exact decide_eq_false (by omega))
  have t5 : decide (k ≤ 4) = false := decide_eq_false hk4
  clear hk0 hk1 hk6 hm0 hmi hk4
  go_wp2_with fail
  go_ret
  exact ⟨ret_b HR.out, by rw [HSS.out]; exact HBW.out⟩
end Go.Proofs.YtkojcamlllenkaaDoor
