/- Contracts of bushelref29.Column, bushelref32.Real and bushelref14.Light. No conditions but those stated. -/
import Derived.Test.YtdbkgpakpadloaaGreatMRs1
import Derived.Test.YtdbkgpakpadloaaGreatMDer
namespace Go.Proofs.YtdbkgpakpadloaaGreat
open Go.RowKit

set_option maxHeartbeats 2000000 in
theorem rcolumn_any (w : World) (l : SchL) (s : Sch) (k m : Int) (h : SchAt w l s) (hk : I64 k) (hm : I64 m) (hi : s.ints.length ≤ 1000) (hn : s.nums.length ≤ 1000) :
  Calls Tryz.prog 12 #[l.val, .agg #[.int .i64 k, .int .i64 m]] w fun e w' => e = .returned (.bool (colB s.ints.length s.nums.length k m)) ∧ Below w.heap.size w w' := by
 obtain ⟨ad, nd, cd, ai, ni, ci, an, nn, cn, av, nv, cv⟩ := l
 obtain ⟨hbx, hby, hbw, hsz⟩ := two_pbox w 26 28 #[.slice ad nd cd, .slice ai ni ci, .slice an nn cn, .slice av nv cv] #[.int .i64 k, .int .i64 m]
 have HLN := Lib.hid (And.intro (show s.ints.length = ni from h.2.2.1.1) (show s.nums.length = nn from h.2.2.2.1.1))
 have mi : ni ≤ 1000 := by rw [← HLN.out.1]; exact hi
 have mn : nn ≤ 1000 := by rw [← HLN.out.2]; exact hn
 clear hi hn
 have HBW := Lib.hid hbw
 have e1 := hbx 1
 have e2 := hbx 2
 have y0 := hby 0
 have y1 := hby 1
 simp only [List.getElem?_toArray, List.getElem?_cons_zero, List.getElem?_cons_succ] at e1 e2 y0 y1
 obtain ⟨RB, hRB⟩ : ∃ b, colB s.ints.length s.nums.length k m = b := ⟨_, rfl⟩
 rw [hRB]
 have HRB : Hid (RB = colB ni nn k m) := Lib.hid (by rw [← hRB]; rw [HLN.out.1, HLN.out.2])
 obtain ⟨k0, k1⟩ := hk
 obtain ⟨m0, m1⟩ := hm
 clear h hbw hbx hby hsz hRB
 unfold SchL.val
 go_enter Tryz.func12, Tryz.ntmps12
 go_upto_region 1 with fail
 generalize ((w.alloc (.cells #[.slice ad nd cd, .slice ai ni ci, .slice an nn cn, .slice av nv cv] 26)).alloc (.cells #[.int .i64 k, .int .i64 m] 28)) = w0 at *
 generalize hS : w.heap.size = S at *
 have HSS := Lib.hid hS
 clear hS
 by_cases hk0 : k = 0
 ·subst hk0
  have HR : Hid (RB = decide (m = 0)) := Lib.hid (by rw [HRB.out]; rfl)
  go_wp2_with fail
  go_ret
  exact ⟨ret_b (by rw [HR.out, Bool.eq_iff_iff]; simp), by rw [HSS.out]; exact HBW.out⟩
 have t0 : (k == 0) = false := by simpa using hk0
 by_cases hk1 : k < 0
 ·have HR : Hid (RB = false) := Lib.hid (by rw [HRB.out]; unfold colB; rw [if_neg hk0, if_neg (by omega), if_neg (by omega)])
  have t1 : decide (k < 0) = true := decide_eq_true hk1
  clear hk0 hk1
  go_wp2_with fail
  go_ret
  exact ⟨ret_b HR.out, by rw [HSS.out]; exact HBW.out⟩
 have t1 : decide (k < 0) = false := decide_eq_false hk1
 by_cases hk6 : 6 < k
 ·have HR : Hid (RB = false) := Lib.hid (by rw [HRB.out]; unfold colB; rw [if_neg hk0, if_neg (by omega), if_neg (by omega)])
  have t2 : decide (6 < k) = true := decide_eq_true hk6
  clear hk0 hk1 hk6
  go_wp2_with fail
  go_ret
  exact ⟨ret_b HR.out, by rw [HSS.out]; exact HBW.out⟩
 have t2 : decide (6 < k) = false := decide_eq_false hk6
 by_cases hm0 : m < 0
 ·have HR : Hid (RB = false) := Lib.hid (by rw [HRB.out]; unfold colB; rw [if_neg hk0]; split; exact decide_eq_false (by omega); rw [if_pos (by omega)]; exact decide_eq_false (by omega))
  have t3 : decide (m < 0) = true := decide_eq_true hm0
  clear hk0 hk1 hk6 hm0
  go_wp2_with fail
  go_ret
  exact ⟨ret_b HR.out, by rw [HSS.out]; exact HBW.out⟩
 have t3 : decide (m < 0) = false := decide_eq_false hm0
 by_cases hmi : m < (ni : Int)
 ·have HR : Hid (RB = true) := Lib.hid (by rw [HRB.out]; unfold colB; rw [if_neg hk0]; split; exact decide_eq_true (by omega); rw [if_pos (by omega)]; exact decide_eq_true (by omega))
  have t4 : decide (m < (ni : Int)) = true := decide_eq_true hmi
  clear hk0 hk1 hk6 hm0 hmi
  go_wp2_with fail
  go_ret
  exact ⟨ret_b HR.out, by rw [HSS.out]; exact HBW.out⟩
 have t4 : decide (m < (ni : Int)) = false := decide_eq_false hmi
 by_cases hk4 : k ≤ 4
 ·have HR : Hid (RB = decide (m < ((ni : Int) + (nn : Int)))) := Lib.hid (by rw [HRB.out]; unfold colB; rw [if_neg hk0, if_pos (by omega), decide_eq_decide]; omega)
  have t5 : decide (k ≤ 4) = true := decide_eq_true hk4
  clear hk0 hk1 hk6 hm0 hmi hk4
  go_wp2_with fail
  go_ret
  exact ⟨ret_b HR.out, by rw [HSS.out]; exact HBW.out⟩
 ·have HR : Hid (RB = false) := Lib.hid (by rw [HRB.out]; unfold colB; rw [if_neg hk0, if_neg (by omega), if_pos (by omega)]; exact decide_eq_false (by omega))
  have t5 : decide (k ≤ 4) = false := decide_eq_false hk4
  clear hk0 hk1 hk6 hm0 hmi hk4
  go_wp2_with fail
  go_ret
  exact ⟨ret_b HR.out, by rw [HSS.out]; exact HBW.out⟩
def rrealB (s : Sch) (k m : Int) : Bool := decide (4 ≤ k ∨ (0 < k ∧ (s.ints.length : Int) ≤ m))
set_option maxHeartbeats 2000000 in
theorem rreal_any (w : World) (l : SchL) (s : Sch) (k m : Int) (h : SchAt w l s) (hk : I64 k) (hm : I64 m) :
  Calls Tryz.prog 14 #[l.val, .agg #[.int .i64 k, .int .i64 m]] w fun e w' => e = .returned (.bool (rrealB s k m)) ∧ Below w.heap.size w w' := by
 obtain ⟨ad, nd, cd, ai, ni, ci, an, nn, cn, av, nv, cv⟩ := l
 obtain ⟨hbx, hby, hbw, hsz⟩ := two_pbox w 26 28 #[.slice ad nd cd, .slice ai ni ci, .slice an nn cn, .slice av nv cv] #[.int .i64 k, .int .i64 m]
 have HLN := Lib.hid (And.intro (show s.ints.length = ni from h.2.2.1.1) (show s.nums.length = nn from h.2.2.2.1.1))
 have mi : ni ≤ 9223372036854775807 := by have h1 := h.2.2.1.2.1; have h2 := h.2.2.1.2.2.1; simp only at h1 h2; unfold maxLen at h2; omega
 have HBW := Lib.hid hbw
 have e1 := hbx 1
 have y0 := hby 0
 have y1 := hby 1
 simp only [List.getElem?_toArray, List.getElem?_cons_zero, List.getElem?_cons_succ] at e1 y0 y1
 obtain ⟨RB, hRB⟩ : ∃ b, rrealB s k m = b := ⟨_, rfl⟩
 rw [hRB]
 have HRB : Hid (RB = decide (4 ≤ k ∨ (0 < k ∧ (ni : Int) ≤ m))) := Lib.hid (by rw [← hRB]; unfold rrealB; rw [HLN.out.1])
 obtain ⟨k0, k1⟩ := hk
 obtain ⟨m0, m1⟩ := hm
 clear h hbw hbx hby hsz hRB
 unfold SchL.val
 go_enter Tryz.func14, Tryz.ntmps14
 go_upto_region 1 with fail
 generalize ((w.alloc (.cells #[.slice ad nd cd, .slice ai ni ci, .slice an nn cn, .slice av nv cv] 26)).alloc (.cells #[.int .i64 k, .int .i64 m] 28)) = w0 at *
 generalize hS : w.heap.size = S at *
 have HSS := Lib.hid hS
 clear hS
 by_cases hk4 : 4 ≤ k
 ·have HR : Hid (RB = true) := Lib.hid (by rw [HRB.out]; exact decide_eq_true (.inl hk4))
  have t1 : decide (4 ≤ k) = true := decide_eq_true hk4
  clear hk4
  go_wp2_with fail
  go_ret
  exact ⟨ret_b HR.out, by rw [HSS.out]; exact HBW.out⟩
 have t1 : decide (4 ≤ k) = false := decide_eq_false hk4
 by_cases hk0 : 0 < k
 ·have HR : Hid (RB = decide ((ni : Int) ≤ m)) := Lib.hid (by rw [HRB.out, decide_eq_decide]; omega)
  have t2 : decide (0 < k) = true := decide_eq_true hk0
  clear hk0 hk4
  go_wp2_with fail
  go_ret
  exact ⟨ret_b HR.out, by rw [HSS.out]; exact HBW.out⟩
 have HR : Hid (RB = false) := Lib.hid (by rw [HRB.out]; exact decide_eq_false (by omega))
 have t2 : decide (0 < k) = false := decide_eq_false hk0
 clear hk0 hk4
 go_wp2_with fail
 go_ret
 exact ⟨ret_b HR.out, by rw [HSS.out]; exact HBW.out⟩
def LightC (c : CellV) : Prop := (∀ x ∈ c.ints, x.n ≤ 20) ∧ ∀ x ∈ c.nums, x.n ≤ 300
set_option maxRecDepth 100000 in
set_option maxHeartbeats 4000000 in
theorem clight_any (w : World) (l : CellL) (c : CellV) (h : CellAt w l c) :
  Calls Tryz.prog 6 #[l.val c] w (RLight (LightC c) w) := by
 obtain ⟨ai, ni, ci, an, nn, cn⟩ := l
 have HLN := Lib.hid (And.intro (show c.ints.length = ni from h.2.1) (show c.nums.length = nn from h.2.2.2.1))
 have mi : ni ≤ 9223372036854775807 := by have h1 := h.1.2.1; have h2 := h.1.2.2.1; simp only at h1 h2; unfold maxLen at h2; omega
 have mn : nn ≤ 9223372036854775807 := by have h1 := h.2.2.1.2.1; have h2 := h.2.2.1.2.2.1; simp only at h1 h2; unfold maxLen at h2; omega
 obtain ⟨ck, hck⟩ : ∃ x, c.key = x := ⟨_, rfl⟩
 obtain ⟨cq, hcq⟩ : ∃ x, c.count = x := ⟨_, rfl⟩
 unfold CellL.val
 simp only
 rw [hck, hcq]
 clear hck hcq
 obtain ⟨hbx, hbw, hsz⟩ := boxed w 33 #[.int .u64 ck, .int .i64 cq, .slice ai ni ci, .slice an nn cn]
 have HS := Lib.hid (h.below hbw (Nat.le_refl _))
 have HBW := Lib.hid hbw
 have e2 := hbx 2
 have e3 := hbx 3
 simp only [List.getElem?_toArray, List.getElem?_cons_zero, List.getElem?_cons_succ] at e2 e3
 have HSZ := Lib.hid hsz
 clear h hbw hbx hsz
 go_enter Tryz.func6, Tryz.ntmps6
 go_upto_region 1 with fail
 generalize (w.alloc (.cells #[.int .u64 ck, .int .i64 cq, .slice ai ni ci, .slice an nn cn] 33)) = w0 at *
 generalize hS : w.heap.size = S at *
 have HSS := Lib.hid hS
 clear hS
 have HN0 : Hid (S < S + 1) := Lib.hid (by omega)
 by_cases h0 : 10 < ni
 ·have t0 : decide ((10 : Int) < (ni : Int)) = true := decide_eq_true (by omega)
  clear h0
  go_wp2_with fail
  go_ret
  exact RLight.no HSS.out HBW.out HN0.out (Below.refl _ _)
 have t0 : decide ((10 : Int) < (ni : Int)) = false := decide_eq_false (by omega)
 by_cases h1 : 10 < nn
 ·have t1 : decide ((10 : Int) < (nn : Int)) = true := decide_eq_true (by omega)
  clear h1
  go_wp2_with fail
  go_ret
  exact RLight.no HSS.out HBW.out HN0.out (Below.refl _ _)
 have t1 : decide ((10 : Int) < (nn : Int)) = false := decide_eq_false (by omega)
 clear h0 h1
 go_wp2_with fail
 clear t0 t1
 go_loop [3] (fun iu => ∃ i : Nat, iu = .int .i64 i ∧ i ≤ ni ∧ ∀ j, j < i → (whlAt c.ints j).n ≤ 20) (fun iu => ni - (intOf iu).toNat)
 case atStart => exact ⟨0, rfl, by omega, fun j hj => by omega⟩
 case round =>
  obtain ⟨i, rfl, hi, hall⟩ := hrel
  have HA1 := Lib.hid hall
  clear hall
  by_cases hlt : i < ni
  ·obtain ⟨b, off, e, hbl, hc⟩ := (HS.out.1).at (by show 0 < ni; omega)
   simp only at e
   subst e
   have c0 := hc (i * 5 + 2) (by show i * 5 + 2 < ni * 5; omega)
   obtain ⟨-, -, g0, -⟩ := whlCells_get (ds := c.ints) (i := i) (by rw [HLN.out.1]; exact hlt)
   rw [g0, ← Nat.add_assoc] at c0
   have HX := Lib.hid (HS.out.2.2.2.2.2.2.1 (whlAt c.ints i) (whlAt_mem (by rw [HLN.out.1]; exact hlt))).1
   obtain ⟨X, hX⟩ : ∃ x, whlAt c.ints i = x := ⟨_, rfl⟩
   rw [hX] at c0 HX
   obtain ⟨xa, xn, xc, hq⟩ : ∃ (xa : Option Addr) (xn xc : Nat), X.a = xa ∧ X.n = xn ∧ X.c = xc := ⟨_, _, _, rfl, rfl, rfl⟩
   rw [hq.1, hq.2.1, hq.2.2] at c0
   have hxm : xn ≤ 9223372036854775807 := by have h1 := HX.out.2.1; have h2 := HX.out.2.2.1; rw [hq.2.1] at h1; unfold maxLen at h2; omega
   have HQ := Lib.hid (And.intro hX hq.2.1)
   clear hc g0 hX hq
   by_cases hsz : 20 < xn
   ·have t1 : decide ((20 : Int) < (xn : Int)) = true := decide_eq_true (by omega)
    clear hsz
    go_wp2_with fail
    go_ret
    exact RLight.no HSS.out HBW.out HN0.out (Below.refl _ _)
   ·have t1 : decide ((20 : Int) < (xn : Int)) = false := decide_eq_false (by omega)
    have HSL := Lib.hid (Nat.not_lt.1 hsz)
    clear hsz
    go_wp2_with fail
    go_round
    case rel =>
     refine ⟨i + 1, by go_num, by omega, fun j hj => ?_⟩
     rcases Nat.lt_or_ge j i with h5 | h5
     ·exact HA1.out j h5
     ·obtain rfl : j = i := by omega
      rw [HQ.out.1, HQ.out.2]; exact HSL.out
    case measure => simp [intOf]; omega
  ·obtain rfl : i = ni := by omega
   go_wp2_with fail
   go_loop [4] (fun iu => ∃ i : Nat, iu = .int .i64 i ∧ i ≤ nn ∧ ∀ j, j < i → (relAt c.nums j).n ≤ 300) (fun iu => nn - (intOf iu).toNat)
   case atStart => exact ⟨0, rfl, by omega, fun j hj => by omega⟩
   case round =>
    obtain ⟨i, rfl, hi, hall⟩ := hrel
    have HA2 := Lib.hid hall
    clear hall
    by_cases hlt : i < nn
    ·obtain ⟨b, off, e, hbl, hc⟩ := (HS.out.2.2.1).at (by show 0 < nn; omega)
     simp only at e
     subst e
     have c0 := hc (i * 3) (by show i * 3 < nn * 3; omega)
     obtain ⟨g0, -⟩ := relCells_get (ds := c.nums) (i := i) (by rw [HLN.out.2]; exact hlt)
     rw [g0] at c0
     have HX := Lib.hid (HS.out.2.2.2.2.2.2.2 (relAt c.nums i) (relAt_mem (by rw [HLN.out.2]; exact hlt))).1
     obtain ⟨X, hX⟩ : ∃ x, relAt c.nums i = x := ⟨_, rfl⟩
     rw [hX] at c0 HX
     obtain ⟨xa, xn, xc, hq⟩ : ∃ (xa : Option Addr) (xn xc : Nat), X.a = xa ∧ X.n = xn ∧ X.c = xc := ⟨_, _, _, rfl, rfl, rfl⟩
     rw [hq.1, hq.2.1, hq.2.2] at c0
     have hxm : xn ≤ 9223372036854775807 := by have h1 := HX.out.2.1; have h2 := HX.out.2.2.1; rw [hq.2.1] at h1; unfold maxLen at h2; omega
     have HQ := Lib.hid (And.intro hX hq.2.1)
     clear hc g0 hX hq
     by_cases hsz : 300 < xn
     ·have t1 : decide ((300 : Int) < (xn : Int)) = true := decide_eq_true (by omega)
      clear hsz
      go_wp2_with fail
      go_ret
      exact RLight.no HSS.out HBW.out HN0.out (Below.refl _ _)
     ·have t1 : decide ((300 : Int) < (xn : Int)) = false := decide_eq_false (by omega)
      have HSL := Lib.hid (Nat.not_lt.1 hsz)
      clear hsz
      go_wp2_with fail
      go_round
      case rel =>
       refine ⟨i + 1, by go_num, by omega, fun j hj => ?_⟩
       rcases Nat.lt_or_ge j i with h5 | h5
       ·exact HA2.out j h5
       ·obtain rfl : j = i := by omega
        rw [HQ.out.1, HQ.out.2]; exact HSL.out
      case measure => simp [intOf]; omega
    ·have HP : Hid (LightC c) := Lib.hid ⟨fun x hx => by
       obtain ⟨j, hj, rfl⟩ := List.getElem_of_mem hx
       have := HA1.out j (by have := HLN.out.1; omega)
       unfold whlAt at this
       rw [List.getD_eq_getElem?_getD, List.getElem?_eq_getElem hj] at this
       exact this, fun x hx => by
       obtain ⟨j, hj, rfl⟩ := List.getElem_of_mem hx
       have := HA2.out j (by have := HLN.out.2; omega)
       unfold relAt at this
       rw [List.getD_eq_getElem?_getD, List.getElem?_eq_getElem hj] at this
       exact this⟩
     go_wp2_with fail
     go_ret
     exact RLight.yes HP.out HSS.out HBW.out HN0.out (Below.refl _ _)
end Go.Proofs.YtdbkgpakpadloaaGreat
