/- The contract of bushelref32's Value. Conditions: squares of at most 20 words, sums of at most 300 bytes. -/
import Derived.Test.YtdbkgpakpadloaaGreatMRs1
import Derived.Test.YtdbkgpakpadloaaGreatRsD
import Derived.Test.YtdbkgpakpadloaaGreatRsE
import Derived.Test.YtdbkgpakpadloaaGreatRatN
import Derived.StillTailTactics
namespace Go.Proofs.YtdbkgpakpadloaaGreat
open Go.RowKit Ieee
attribute [local go_sem] run_store_float

def rvOf (s : Sch) (k m : Int) (c : CellV) : Bool → Int → Nat → Prop :=
 rvP k (relAt c.nums (m - s.ints.length).toNat).sum (relAt c.nums (m - s.ints.length).toNat).min (relAt c.nums (m - s.ints.length).toNat).max c.count
theorem rdval_results {w : World} {s : Nat} {k : Int} {tmps : Array Value} {v0 v1 v2 : Value} (h2 : tmps[8]? = some (.pointer (some ⟨s, 0, none⟩))) (h3 : tmps[9]? = some (.int .i64 k))
  (hk : Blk w s 40 #[v0, v1, v2]) :
  (Sem.run Tryz.prog (results Tryz.f9 tmps) w) = .ok (.tuple #[.agg #[v0, v1, v2], .int .i64 k]) w := by
 have d0 := hk.cell 0
 have d1 := hk.cell 1
 have d2 := hk.cell 2
 clear hk
 simp at d0 d1 d2
 simp [results, Tryz.results9, go_sem, h2, h3, d0, d1, d2]
set_option maxRecDepth 100000 in
set_option maxHeartbeats 16000000 in
theorem rdvalue_any (w : World) (l : SchL) (s : Sch) (k m : Int) (lc la : CellL) (c a : CellV) (h : SchAt w l s) (hk : I64 k) (hm : I64 m) (hc : CellAt w lc c) (ha : CellAt w la a) (hsq : Hid (∀ x ∈ c.ints, x.n ≤ 20)) :
  Calls Tryz.prog 9 #[l.val, .agg #[.int .i64 k, .int .i64 m], lc.val c, la.val a] w (RDVal (DVal s k m c a (rvOf s k m c)) w) := by
 obtain ⟨ad, nd, cd, ai, ni, ci, an, nn, cn, av, nv, cv⟩ := l
 obtain ⟨ci1, cn1, cc1, ci2, cn2, cc2⟩ := lc
 obtain ⟨ai1, an1, ac1, ai2, an2, ac2⟩ := la
 have HLN := Lib.hid (And.intro (show s.ints.length = ni from h.2.2.1.1) (And.intro (show s.nums.length = nn from h.2.2.2.1.1) (And.intro (show c.ints.length = cn1 from hc.2.1) (And.intro (show c.nums.length = cn2 from hc.2.2.2.1) (And.intro (show a.ints.length = an1 from ha.2.1) (show a.nums.length = an2 from ha.2.2.2.1))))))
 obtain ⟨ck, hck⟩ : ∃ x, c.key = x := ⟨_, rfl⟩
 obtain ⟨cq, hcq⟩ : ∃ x, c.count = x := ⟨_, rfl⟩
 obtain ⟨ak, hak⟩ : ∃ x, a.key = x := ⟨_, rfl⟩
 obtain ⟨aq, haq⟩ : ∃ x, a.count = x := ⟨_, rfl⟩
 unfold SchL.val CellL.val
 simp only
 rw [hck, hcq, hak, haq]
 have HV := Lib.hid (And.intro hck (And.intro hcq (And.intro hak haq)))
 obtain ⟨b1, b2, b3, b4, b5, hbw, hsz⟩ := four_box w 26 28 33 33 40 #[.slice ad nd cd, .slice ai ni ci, .slice an nn cn, .slice av nv cv] #[.int .i64 k, .int .i64 m] #[.int .u64 ck, .int .i64 cq, .slice ci1 cn1 cc1, .slice ci2 cn2 cc2] #[.int .u64 ak, .int .i64 aq, .slice ai1 an1 ac1, .slice ai2 an2 ac2] #[.bool false, .int .i64 0, .float .f64 0]
 have HS := Lib.hid (h.below hbw (Nat.le_refl _))
 have HC := Lib.hid (hc.below hbw (Nat.le_refl _))
 have HA := Lib.hid (ha.below hbw (Nat.le_refl _))
 have HBW := Lib.hid hbw
 have HKM := Lib.hid (And.intro hk hm)
 have HK1 := Lib.hid b1
 have HK2 := Lib.hid b2
 have HK3 := Lib.hid b3
 have HK4 := Lib.hid b4
 have HK5 := Lib.hid b5
 have HSZ := Lib.hid hsz
 clear h hc ha hbw hk hm b1 b2 b3 b4 b5 hsz hck hcq hak haq
 go_enter Tryz.func9, Tryz.ntmps9
 go_upto_region 1 with fail
 generalize (((((w.alloc (.cells #[.slice ad nd cd, .slice ai ni ci, .slice an nn cn, .slice av nv cv] 26)).alloc (.cells #[.int .i64 k, .int .i64 m] 28)).alloc (.cells #[.int .u64 ck, .int .i64 cq, .slice ci1 cn1 cc1, .slice ci2 cn2 cc2] 33)).alloc (.cells #[.int .u64 ak, .int .i64 aq, .slice ai1 an1 ac1, .slice ai2 an2 ac2] 33)).alloc (.cells #[.bool false, .int .i64 0, .float .f64 0] 40)) = w0 at *
 generalize hS : w.heap.size = S at *
 have HSS := Lib.hid hS
 clear hS
 obtain ⟨K, hK⟩ : ∃ K, chkS s = K := ⟨_, rfl⟩
 have HK := Lib.hid hK
 clear hK
 have b1 := HK1.out
 have e0 : w0.cell? ⟨S, 0, none⟩ = some (.slice ad nd cd) := b1.cell 0
 have e1 : w0.cell? ⟨S, 1, none⟩ = some (.slice ai ni ci) := b1.cell 1
 have e2 : w0.cell? ⟨S, 2, none⟩ = some (.slice an nn cn) := b1.cell 2
 have e3 : w0.cell? ⟨S, 3, none⟩ = some (.slice av nv cv) := b1.cell 3
 clear b1
 go_wp2_with fail
 refine (rchk_any _ ⟨ad, nd, cd, ai, ni, ci, an, nn, cn, av, nv, cv⟩ s HS.out).mono ?_
 rintro e w1 ⟨rfl, hb1⟩
 rw [HK.out]
 have HB1 : Hid (Below (S + 5) w0 w1) := Lib.hid (by rw [← HSZ.out]; exact hb1)
 have HS1 := Lib.hid (HS.out.below hb1 (Nat.le_refl _))
 clear hb1 e0 e1 e2 e3
 by_cases hk0 : K = 0
 case neg =>
  have hk2 : ((K : Int) != 0) = true := by simp; omega
  have hkz := HK5.out.below HB1.out (by omega)
  have z0 : w1.cell? ⟨S + 4, 0, none⟩ = some (.bool false) := hkz.cell 0
  have z1 : w1.cell? ⟨S + 4, 1, none⟩ = some (.int .i64 0) := hkz.cell 1
  have z2 : w1.cell? ⟨S + 4, 2, none⟩ = some (.float .f64 0) := hkz.cell 2
  have zf : ∀ o, w1.frozen? ⟨S + 4, o, none⟩ = false := fun o => hkz.frozen o
  have HKZ := Lib.hid (hkz.three (.bool false) (.int .i64 0) (.float .f64 0))
  have HRZ := Lib.hid (RDVal.mk (P := DVal s k m c a (rvOf s k m c)) (r := false) (n := 0) (z := 0) (k := 1) (.inl ⟨by rw [HK.out]; exact hk0, rfl, rfl, rfl, rfl⟩) HSS.out HBW.out (Nat.le_add_right S 5) HB1.out)
  clear hkz hk0
  go_wp2_with fail
  refine bodyPost_ret ?_ ?_ HRZ.out
  rotate_left
  ·rfl
  ·exact rdval_results rfl rfl HKZ.out
 case pos =>
  subst hk0
  obtain ⟨d1, d2, d3, d4⟩ := chk_dims HK.out
  rw [HLN.out.1] at d3
  rw [HLN.out.2.1] at d4
  have x10 : w1.cell? ⟨S, 0, none⟩ = some (.slice ad nd cd) := (HK1.out.below HB1.out (by omega)).cell 0
  have x11 : w1.cell? ⟨S, 1, none⟩ = some (.slice ai ni ci) := (HK1.out.below HB1.out (by omega)).cell 1
  have x12 : w1.cell? ⟨S, 2, none⟩ = some (.slice an nn cn) := (HK1.out.below HB1.out (by omega)).cell 2
  have x13 : w1.cell? ⟨S, 3, none⟩ = some (.slice av nv cv) := (HK1.out.below HB1.out (by omega)).cell 3
  have x20 : w1.cell? ⟨S + 1, 0, none⟩ = some (.int .i64 k) := (HK2.out.below HB1.out (by omega)).cell 0
  have x21 : w1.cell? ⟨S + 1, 1, none⟩ = some (.int .i64 m) := (HK2.out.below HB1.out (by omega)).cell 1
  obtain ⟨MB, hMB⟩ : ∃ b, colB s.ints.length s.nums.length k m = b := ⟨_, rfl⟩
  have HMB := Lib.hid hMB
  have HCALL := Lib.hid (fun w' (h1 : SchAt w' ⟨ad, nd, cd, ai, ni, ci, an, nn, cn, av, nv, cv⟩ s) => rcolumn_any w' _ s k m h1 HKM.out.1 HKM.out.2 (by rw [HLN.out.1]; omega) (by rw [HLN.out.2.1]; omega))
  rw [hMB] at HCALL
  clear hMB
  go_wp2_with fail
  refine (HCALL.out _ HS1.out).mono ?_; rintro e w2 ⟨rfl, hb2⟩
  have HB2 := Lib.hid (HB1.out.trans (hb2.mono (by have := HB1.out.size; rw [HSZ.out] at this; exact this)))
  clear hb2 HCALL HS1
  clear x10 x11 x12 x13 x20 x21
  rcases MB with _ | _
  ·have hkz := HK5.out.below HB2.out (by omega)
   have z0 : w2.cell? ⟨S + 4, 0, none⟩ = some (.bool false) := hkz.cell 0
   have z1 : w2.cell? ⟨S + 4, 1, none⟩ = some (.int .i64 0) := hkz.cell 1
   have z2 : w2.cell? ⟨S + 4, 2, none⟩ = some (.float .f64 0) := hkz.cell 2
   have zf : ∀ o, w2.frozen? ⟨S + 4, o, none⟩ = false := fun o => hkz.frozen o
   have HKZ := Lib.hid (hkz.three (.bool false) (.int .i64 0) (.float .f64 0))
   have HRZ := Lib.hid (RDVal.mk (P := DVal s k m c a (rvOf s k m c)) (r := false) (n := 0) (z := 0) (k := 2) (.inr (.inl ⟨HK.out, HMB.out, rfl, rfl, rfl, rfl⟩)) HSS.out HBW.out (Nat.le_add_right S 5) HB2.out)
   clear hkz
   go_wp2_with fail
   refine bodyPost_ret ?_ ?_ HRZ.out
   rotate_left
   ·rfl
   ·exact rdval_results rfl rfl HKZ.out
  have x11 : w2.cell? ⟨S, 1, none⟩ = some (.slice ai ni ci) := (HK1.out.below HB2.out (by omega)).cell 1
  have x12 : w2.cell? ⟨S, 2, none⟩ = some (.slice an nn cn) := (HK1.out.below HB2.out (by omega)).cell 2
  have x32 : w2.cell? ⟨S + 2, 2, none⟩ = some (.slice ci1 cn1 cc1) := (HK3.out.below HB2.out (by omega)).cell 2
  have x33 : w2.cell? ⟨S + 2, 3, none⟩ = some (.slice ci2 cn2 cc2) := (HK3.out.below HB2.out (by omega)).cell 3
  have x42 : w2.cell? ⟨S + 3, 2, none⟩ = some (.slice ai1 an1 ac1) := (HK4.out.below HB2.out (by omega)).cell 2
  have x43 : w2.cell? ⟨S + 3, 3, none⟩ = some (.slice ai2 an2 ac2) := (HK4.out.below HB2.out (by omega)).cell 3
  by_cases a0 : cn1 = ni
  case neg =>
   have t0 : ((cn1 : Int) != (ni : Int)) = true := by simp; omega
   have HLB : Hid (lensB s c a = false) := Lib.hid (by
    unfold lensB
    rw [HLN.out.1, HLN.out.2.1, HLN.out.2.2.1, HLN.out.2.2.2.1, HLN.out.2.2.2.2.1, HLN.out.2.2.2.2.2]
    exact decide_eq_false fun hh => a0 hh.1)
   clear a0
   have hkz := HK5.out.below HB2.out (by omega)
   have z0 : w2.cell? ⟨S + 4, 0, none⟩ = some (.bool false) := hkz.cell 0
   have z1 : w2.cell? ⟨S + 4, 1, none⟩ = some (.int .i64 0) := hkz.cell 1
   have z2 : w2.cell? ⟨S + 4, 2, none⟩ = some (.float .f64 0) := hkz.cell 2
   have zf : ∀ o, w2.frozen? ⟨S + 4, o, none⟩ = false := fun o => hkz.frozen o
   have HKZ := Lib.hid (hkz.three (.bool false) (.int .i64 0) (.float .f64 0))
   have HRZ := Lib.hid (RDVal.mk (P := DVal s k m c a (rvOf s k m c)) (r := false) (n := 0) (z := 0) (k := 3) (.inr (.inr (.inl ⟨HK.out, HMB.out, HLB.out, rfl, rfl, rfl, rfl⟩))) HSS.out HBW.out (Nat.le_add_right S 5) HB2.out)
   clear hkz
   go_wp2_with fail
   refine bodyPost_ret ?_ ?_ HRZ.out
   rotate_left
   ·rfl
   ·exact rdval_results rfl rfl HKZ.out
  have t0 : ((cn1 : Int) != (ni : Int)) = false := by simp; omega
  by_cases a1 : cn2 = nn
  case neg =>
   have t1 : ((cn2 : Int) != (nn : Int)) = true := by simp; omega
   have HLB : Hid (lensB s c a = false) := Lib.hid (by
    unfold lensB
    rw [HLN.out.1, HLN.out.2.1, HLN.out.2.2.1, HLN.out.2.2.2.1, HLN.out.2.2.2.2.1, HLN.out.2.2.2.2.2]
    exact decide_eq_false fun hh => a1 hh.2.1)
   clear a1
   have hkz := HK5.out.below HB2.out (by omega)
   have z0 : w2.cell? ⟨S + 4, 0, none⟩ = some (.bool false) := hkz.cell 0
   have z1 : w2.cell? ⟨S + 4, 1, none⟩ = some (.int .i64 0) := hkz.cell 1
   have z2 : w2.cell? ⟨S + 4, 2, none⟩ = some (.float .f64 0) := hkz.cell 2
   have zf : ∀ o, w2.frozen? ⟨S + 4, o, none⟩ = false := fun o => hkz.frozen o
   have HKZ := Lib.hid (hkz.three (.bool false) (.int .i64 0) (.float .f64 0))
   have HRZ := Lib.hid (RDVal.mk (P := DVal s k m c a (rvOf s k m c)) (r := false) (n := 0) (z := 0) (k := 3) (.inr (.inr (.inl ⟨HK.out, HMB.out, HLB.out, rfl, rfl, rfl, rfl⟩))) HSS.out HBW.out (Nat.le_add_right S 5) HB2.out)
   clear hkz
   go_wp2_with fail
   refine bodyPost_ret ?_ ?_ HRZ.out
   rotate_left
   ·rfl
   ·exact rdval_results rfl rfl HKZ.out
  have t1 : ((cn2 : Int) != (nn : Int)) = false := by simp; omega
  by_cases a2 : an1 = ni
  case neg =>
   have t2 : ((an1 : Int) != (ni : Int)) = true := by simp; omega
   have HLB : Hid (lensB s c a = false) := Lib.hid (by
    unfold lensB
    rw [HLN.out.1, HLN.out.2.1, HLN.out.2.2.1, HLN.out.2.2.2.1, HLN.out.2.2.2.2.1, HLN.out.2.2.2.2.2]
    exact decide_eq_false fun hh => a2 hh.2.2.1)
   clear a2
   have hkz := HK5.out.below HB2.out (by omega)
   have z0 : w2.cell? ⟨S + 4, 0, none⟩ = some (.bool false) := hkz.cell 0
   have z1 : w2.cell? ⟨S + 4, 1, none⟩ = some (.int .i64 0) := hkz.cell 1
   have z2 : w2.cell? ⟨S + 4, 2, none⟩ = some (.float .f64 0) := hkz.cell 2
   have zf : ∀ o, w2.frozen? ⟨S + 4, o, none⟩ = false := fun o => hkz.frozen o
   have HKZ := Lib.hid (hkz.three (.bool false) (.int .i64 0) (.float .f64 0))
   have HRZ := Lib.hid (RDVal.mk (P := DVal s k m c a (rvOf s k m c)) (r := false) (n := 0) (z := 0) (k := 3) (.inr (.inr (.inl ⟨HK.out, HMB.out, HLB.out, rfl, rfl, rfl, rfl⟩))) HSS.out HBW.out (Nat.le_add_right S 5) HB2.out)
   clear hkz
   go_wp2_with fail
   refine bodyPost_ret ?_ ?_ HRZ.out
   rotate_left
   ·rfl
   ·exact rdval_results rfl rfl HKZ.out
  have t2 : ((an1 : Int) != (ni : Int)) = false := by simp; omega
  by_cases a3 : an2 = nn
  case neg =>
   have t3 : ((an2 : Int) != (nn : Int)) = true := by simp; omega
   have HLB : Hid (lensB s c a = false) := Lib.hid (by
    unfold lensB
    rw [HLN.out.1, HLN.out.2.1, HLN.out.2.2.1, HLN.out.2.2.2.1, HLN.out.2.2.2.2.1, HLN.out.2.2.2.2.2]
    exact decide_eq_false fun hh => a3 hh.2.2.2)
   clear a3
   have hkz := HK5.out.below HB2.out (by omega)
   have z0 : w2.cell? ⟨S + 4, 0, none⟩ = some (.bool false) := hkz.cell 0
   have z1 : w2.cell? ⟨S + 4, 1, none⟩ = some (.int .i64 0) := hkz.cell 1
   have z2 : w2.cell? ⟨S + 4, 2, none⟩ = some (.float .f64 0) := hkz.cell 2
   have zf : ∀ o, w2.frozen? ⟨S + 4, o, none⟩ = false := fun o => hkz.frozen o
   have HKZ := Lib.hid (hkz.three (.bool false) (.int .i64 0) (.float .f64 0))
   have HRZ := Lib.hid (RDVal.mk (P := DVal s k m c a (rvOf s k m c)) (r := false) (n := 0) (z := 0) (k := 3) (.inr (.inr (.inl ⟨HK.out, HMB.out, HLB.out, rfl, rfl, rfl, rfl⟩))) HSS.out HBW.out (Nat.le_add_right S 5) HB2.out)
   clear hkz
   go_wp2_with fail
   refine bodyPost_ret ?_ ?_ HRZ.out
   rotate_left
   ·rfl
   ·exact rdval_results rfl rfl HKZ.out
  have t3 : ((an2 : Int) != (nn : Int)) = false := by simp; omega
  have HLL := Lib.hid (And.intro a0 (And.intro a1 (And.intro a2 a3)))
  have HLB : Hid (lensB s c a = true) := Lib.hid (by
   unfold lensB
   rw [HLN.out.1, HLN.out.2.1, HLN.out.2.2.1, HLN.out.2.2.2.1, HLN.out.2.2.2.2.1, HLN.out.2.2.2.2.2]
   exact decide_eq_true HLL.out)
  have HOK : Hid (OkVal s k m c a) := Lib.hid ⟨HK.out, HMB.out, HLB.out⟩
  clear a0 a1 a2 a3
  have x10 : w2.cell? ⟨S, 0, none⟩ = some (.slice ad nd cd) := (HK1.out.below HB2.out (by omega)).cell 0
  have x13 : w2.cell? ⟨S, 3, none⟩ = some (.slice av nv cv) := (HK1.out.below HB2.out (by omega)).cell 3
  have x20 : w2.cell? ⟨S + 1, 0, none⟩ = some (.int .i64 k) := (HK2.out.below HB2.out (by omega)).cell 0
  have x21 : w2.cell? ⟨S + 1, 1, none⟩ = some (.int .i64 m) := (HK2.out.below HB2.out (by omega)).cell 1
  have x31 : w2.cell? ⟨S + 2, 1, none⟩ = some (.int .i64 cq) := (HK3.out.below HB2.out (by omega)).cell 1
  by_cases hk0 : k = 0
  ·rw [hk0] at x20
   have HK0 := Lib.hid hk0
   clear hk0
   have hkz := HK5.out.below HB2.out (by omega)
   have z0 : w2.cell? ⟨S + 4, 0, none⟩ = some (.bool false) := hkz.cell 0
   have z1 : w2.cell? ⟨S + 4, 1, none⟩ = some (.int .i64 0) := hkz.cell 1
   have z2 : w2.cell? ⟨S + 4, 2, none⟩ = some (.float .f64 0) := hkz.cell 2
   have zf : ∀ o, w2.frozen? ⟨S + 4, o, none⟩ = false := fun o => hkz.frozen o
   have HKZ := Lib.hid (hkz.three (.bool false) (.int .i64 cq) (.float .f64 0))
   have HRZ := Lib.hid (RDVal.mk (P := DVal s k m c a (rvOf s k m c)) (r := false) (n := cq) (z := 0) (k := 0) (.inr (.inr (.inr (.inl ⟨HOK.out, rfl, HK0.out, rfl, HV.out.2.1.symm, rfl⟩)))) HSS.out HBW.out (Nat.le_add_right S 5) HB2.out)
   clear hkz
   go_wp2_with fail
   refine bodyPost_ret ?_ ?_ HRZ.out
   rotate_left
   ·rfl
   ·exact rdval_results rfl rfl HKZ.out
  have t4 : (k == 0) = false := by simpa using hk0
  have HK4C : Hid ((s.ints.length : Int) ≤ m → k ≤ 4) := Lib.hid (fun h => col_says4 HMB.out hk0 h)
  obtain ⟨hm0, hmn, hk1, hk6⟩ : 0 ≤ m ∧ m < (ni + nn : Nat) ∧ 1 ≤ k ∧ k ≤ 6 := col_says (by rw [← HLN.out.1, ← HLN.out.2.1]; exact HMB.out) hk0
  have HK0 := Lib.hid hk0
  clear hk0
  obtain ⟨RB, hRB⟩ : ∃ b, rrealB s k m = b := ⟨_, rfl⟩
  have HRB : Hid (RB = decide (4 ≤ k ∨ (0 < k ∧ (ni : Int) ≤ m))) := Lib.hid (by rw [← hRB]; unfold rrealB; rw [HLN.out.1])
  have HCALL := Lib.hid (fun w' (h1 : SchAt w' ⟨ad, nd, cd, ai, ni, ci, an, nn, cn, av, nv, cv⟩ s) => rreal_any w' _ s k m h1 HKM.out.1 HKM.out.2)
  rw [hRB] at HCALL
  clear hRB
  have HS2 := Lib.hid (HS.out.below HB2.out (Nat.le_of_eq HSZ.out))
  go_wp2_with fail
  refine (HCALL.out _ HS2.out).mono ?_; rintro e w3 ⟨rfl, hb3⟩
  have HB3 := Lib.hid (HB2.out.trans (hb3.mono (by have := HB2.out.size; rw [HSZ.out] at this; exact this)))
  clear hb3 HCALL HS2 HB2 t0 t1 t2 t3 t4
  clear x11 x12 x32 x33 x42 x43 x10 x13 x20 x21 x31
  have hSw : S + 5 ≤ w3.heap.size := by have := HB3.out.size; rw [HSZ.out] at this; exact this
  obtain ⟨mk, rfl⟩ : ∃ mk : Nat, m = (mk : Int) := ⟨m.toNat, by omega⟩
  have HCQ : Hid (I64 cq) := Lib.hid (by rw [← HV.out.2.1]; exact HC.out.2.2.2.2.2.1)
  by_cases hmi : ni ≤ mk
  ·as_aux_lemma =>
   obtain ⟨j, hmj⟩ : ∃ j : Nat, mk = ni + j := ⟨mk - ni, by omega⟩
   have hj : j < cn2 := by have := HLL.out.2.1; omega
   have hMJ : (mk : Int) = ni + j := by omega
   have HKB : Hid (k ≤ 4) := Lib.hid (HK4C.out (by rw [HLN.out.1]; omega))
   have HRT : Hid (RB = true) := Lib.hid (by rw [HRB.out]; exact decide_eq_true (.inr ⟨by omega, by omega⟩))
   clear hmi hmj
   generalize ((mk : Nat) : Int) = M at *
   clear mk
   have HMJ := Lib.hid hMJ
   obtain rfl := HRT.out
   have t1 : decide (M < (ni : Int)) = false := decide_eq_false (by omega)
   have hM0 : (ni : Int) ≤ M := by omega
   obtain ⟨b, off, e, hbl, hcw⟩ := (HC.out.2.2.1.below HB3.out (Nat.le_of_eq HSZ.out)).at (by show 0 < cn2; omega)
   simp only at e
   subst e
   obtain ⟨p0, p1, p2⟩ := relCells_get (ds := c.nums) (i := j) (by rw [HLN.out.2.2.2.1]; exact hj)
   have HW := Lib.hid (HC.out.2.2.2.2.2.2.2 (relAt c.nums j) (relAt_mem (by rw [HLN.out.2.2.2.1]; exact hj)))
   obtain ⟨X, hX⟩ : ∃ x, relAt c.nums j = x := ⟨_, rfl⟩
   rw [hX] at p0 p1 p2 HW
   have HRVO : Hid (∀ z, RelVal k X.sum X.min X.max cq z → rvOf s k M c true 0 z) := Lib.hid (fun z hz => by
    unfold rvOf
    rw [show M - (s.ints.length : Int) = (j : Int) from by rw [HLN.out.1]; omega, Int.toNat_natCast, hX, HV.out.2.1]
    exact ⟨rfl, rfl, hz⟩)
   obtain ⟨xs, xqa, xqn, xqc, xmin, xmax⟩ := X
   simp only at p0 p1 p2
   have HMI : Hid ((s.ints.length : Int) ≤ M) := Lib.hid (by rw [HLN.out.1]; omega)
   have HO := Lib.hid (Blk.new w3 40 #[.bool true, .int .i64 0, .float .f64 0])
   have HB4 := Lib.hid (HB3.out.alloc hSw (.cells #[.bool true, .int .i64 0, .float .f64 0] 40))
   have hOS : S + 5 ≤ w3.heap.size := hSw
   have hcw4 : ∀ i, i < cn2 * 3 → (w3.alloc (.cells #[.bool true, .int .i64 0, .float .f64 0] 40)).cell? ⟨b, off + i, none⟩ = some ((relCells c.nums).getD i undef) := fun i hi => by rw [((Below.refl w3.heap.size w3).alloc (Nat.le_refl _) _).cell (p := ⟨b, off + i, none⟩) hbl]; exact hcw i hi
   have hbl4 : b < (w3.alloc (.cells #[.bool true, .int .i64 0, .float .f64 0] 40)).heap.size := by simp; omega
   have x11 : w3.cell? ⟨S, 1, none⟩ = some (.slice ai ni ci) := (HK1.out.below HB3.out (by omega)).cell 1
   have x21 : w3.cell? ⟨S + 1, 1, none⟩ = some (.int .i64 M) := (HK2.out.below HB3.out (by omega)).cell 1
   have HSW4 : Hid (w3.heap.size < (w3.alloc (.cells #[.bool true, .int .i64 0, .float .f64 0] 40)).heap.size) := Lib.hid (by simp)
   go_upto_region 13 with fail
   generalize (w3.alloc (.cells #[.bool true, .int .i64 0, .float .f64 0] 40)) = w4 at *
   clear x11 x21 hcw hbl
   generalize w3.heap.size = O at *
   have x11 : w4.cell? ⟨S, 1, none⟩ = some (.slice ai ni ci) := (HK1.out.below HB4.out (by omega)).cell 1
   have x20 : w4.cell? ⟨S + 1, 0, none⟩ = some (.int .i64 k) := (HK2.out.below HB4.out (by omega)).cell 0
   have x21 : w4.cell? ⟨S + 1, 1, none⟩ = some (.int .i64 M) := (HK2.out.below HB4.out (by omega)).cell 1
   have x31 : w4.cell? ⟨S + 2, 1, none⟩ = some (.int .i64 cq) := (HK3.out.below HB4.out (by omega)).cell 1
   have x33 : w4.cell? ⟨S + 2, 3, none⟩ = some (.slice (some ⟨b, off, none⟩) cn2 cc2) := (HK3.out.below HB4.out (by omega)).cell 3
   have c0 := hcw4 (j * 3) (by omega)
   have c1 := hcw4 (j * 3 + 1) (by omega)
   have c2 := hcw4 (j * 3 + 2) (by omega)
   rw [p0] at c0
   rw [p1, ← Nat.add_assoc] at c1
   rw [p2, ← Nat.add_assoc] at c2
   have t5 : IntKind.i64.wrap (M - (ni : Int)) = (j : Int) := by rw [show M - (ni : Int) = j from by omega]; exact IntWalk.i64_in _ ⟨by omega, by omega⟩
   have t5' : M - (ni : Int) = (j : Int) := by omega
   clear hMJ p0 p1 p2 hcw4 hX
   have HO4 := Lib.hid (HO.out.alloc (.cells #[.slice xqa xqn xqc, .float .f64 xmin, .float .f64 xmax] 62))
   have HX4 := Lib.hid (Blk.new w4 62 #[.slice xqa xqn xqc, .float .f64 xmin, .float .f64 xmax])
   have HB5 := Lib.hid (HB4.out.alloc (by have := HB4.out.size; rw [HSZ.out] at this; exact this) (.cells #[.slice xqa xqn xqc, .float .f64 xmin, .float .f64 xmax] 62))
   have HR4 := Lib.hid (HW.out.1.below HB5.out (Nat.le_of_eq HSZ.out))
   go_upto_region 23 with fail
   generalize (w4.alloc (.cells #[.slice xqa xqn xqc, .float .f64 xmin, .float .f64 xmax] 62)) = w5 at *
   generalize w4.heap.size = Q at *
   clear x11 x20 x21 x31 x33 c0 c1 c2 t5 t5' t1
   have y0 : w5.cell? ⟨Q, 0, none⟩ = some (.slice xqa xqn xqc) := HX4.out.cell 0
   have HRD := Lib.hid (rsread_any w5 xqa xqn xqc xs HR4.out HW.out.2.1)
   have HROK := Lib.hid (fun h => read_ok HW.out.2.1 h)
   go_wp2_with fail
   refine (HRD.out).mono ?_; rintro e w6 ⟨hb6, bb, zz, ng, a2, l2, c2, rfl, hN, hz⟩
   obtain ⟨KK, hKK⟩ : ∃ K, codeN xs = K := ⟨_, rfl⟩
   rw [hKK]
   have HKK := Lib.hid hKK
   obtain ⟨q0, q1, q2, q3, q4, hq⟩ : ∃ q0 q1 q2 q3 q4 : Bool, rsCells bb = fun ng a l c => #[.bool q0, .bool q1, .bool q2, .bool q3, .bool q4, .bool ng, .slice a l c] := ⟨_, _, _, _, _, rfl⟩
   have HB6 := Lib.hid (HB5.out.trans (hb6.mono (by have := HB5.out.size; rw [HSZ.out] at this; exact this)))
   have HZ := Lib.hid hz
   obtain ⟨hx1, hbw1, hsz1⟩ := boxed w6 76 #[.bool q0, .bool q1, .bool q2, .bool q3, .bool q4, .bool ng, .slice a2 l2 c2]
   have hn1 := hN.below hbw1 (Nat.le_refl _)
   have HB7 := Lib.hid (HB6.out.trans (hbw1.mono (by have := HB6.out.size; rw [HSZ.out] at this; exact this)))
   have HMN : Hid (KK = 0 → ∀ w', Below (w6.alloc (.cells #[.bool q0, .bool q1, .bool q2, .bool q3, .bool q4, .bool ng, .slice a2 l2 c2] 76)).heap.size (w6.alloc (.cells #[.bool q0, .bool q1, .bool q2, .bool q3, .bool q4, .bool ng, .slice a2 l2 c2] 76)) w' → Calls Tryz.prog 29 #[.agg #[.bool q0, .bool q1, .bool q2, .bool q3, .bool q4, .bool ng, .slice a2 l2 c2], .int .i64 cq] w' (RMeanS (bOf xs) (zOf xs) cq w')) := Lib.hid (fun h0 w' hw => by
    obtain ⟨rfl, rfl⟩ := HZ.out (by rw [HKK.out]; exact h0)
    obtain ⟨-, o2, o3, o4, -⟩ := HROK.out (by rw [HKK.out]; exact h0)
    have h := rsmean_b w' _ _ cq _ _ _ _ _ ng a2 l2 c2 (hn1.below hw (Nat.le_refl _)) o3 o2 o4 rfl rfl rfl rfl rfl HCQ.out.1 HCQ.out.2
    have e : (#[.bool (fN (bOf xs)), .bool (fU (bOf xs)), .bool (fD (bOf xs)), .bool (fM (bOf xs)), .bool (fP (bOf xs)), .bool ng, .slice a2 l2 c2] : Array Value) = #[.bool q0, .bool q1, .bool q2, .bool q3, .bool q4, .bool ng, .slice a2 l2 c2] := by have := congrFun (congrFun (congrFun (congrFun hq ng) a2) l2) c2; exact this
    rw [e] at h
    exact h)
   have f0 := hx1 0
   have f1 := hx1 1
   have f2 := hx1 2
   have f3 := hx1 3
   have f4 := hx1 4
   have f5 := hx1 5
   have f6 := hx1 6
   simp only [List.getElem?_toArray, List.getElem?_cons_zero, List.getElem?_cons_succ] at f0 f1 f2 f3 f4 f5 f6
   have HF := Lib.hid (And.intro f0 (And.intro f1 (And.intro f2 (And.intro f3 (And.intro f4 (And.intro f5 f6))))))
   clear f0 f1 f2 f3 f4 f5 f6
   have HO7 := Lib.hid ((HO4.out.below hb6 HO4.out.lt).alloc (.cells #[.bool q0, .bool q1, .bool q2, .bool q3, .bool q4, .bool ng, .slice a2 l2 c2] 76))
   have HX7 := Lib.hid ((HX4.out.below hb6 HX4.out.lt).alloc (.cells #[.bool q0, .bool q1, .bool q2, .bool q3, .bool q4, .bool ng, .slice a2 l2 c2] 76))
   rw [hq]
   clear hb6 hN hz hq hx1 hbw1 hsz1 hn1 y0 hKK
   go_upto_region 24 with fail
   generalize (w6.alloc (.cells #[.bool q0, .bool q1, .bool q2, .bool q3, .bool q4, .bool ng, .slice a2 l2 c2] 76)) = w7 at *
   generalize w6.heap.size = U at *
   have hS7 : S + 5 ≤ w7.heap.size := by have := HB7.out.size; rw [HSZ.out] at this; exact this
   have hk4 := HKB.out
   have hcase : k = 1 ∨ k = 2 ∨ k = 3 ∨ k = 4 := by omega
   rcases hcase with hkn | hkn | hkn | hkn
   ·as_aux_lemma =>
    have HKN := Lib.hid hkn
    have x20 : w7.cell? ⟨S + 1, 0, none⟩ = some (.int .i64 1) := by rw [← HKN.out]; exact (HK2.out.below HB7.out (by omega)).cell 0
    have y0 : w7.cell? ⟨Q, 0, none⟩ = some (.slice xqa xqn xqc) := HX7.out.cell 0
    have y1 : w7.cell? ⟨Q, 1, none⟩ = some (.float .f64 xmin) := HX7.out.cell 1
    have y2 : w7.cell? ⟨Q, 2, none⟩ = some (.float .f64 xmax) := HX7.out.cell 2
    clear hkn hk1 hk6 hk4
    have HCV := Lib.hid (fun w' (h : Below (S + 5) w0 w') => raggval_any w' xqa xqn xqc xmin xmax xs (HW.out.1.below h (Nat.le_of_eq HSZ.out)) HW.out.2.1)
    go_wp2_with fail
    refine (HCV.out _ HB7.out).mono ?_; rintro e w9 ⟨z, rfl, hz, hb9⟩
    have HZZ := Lib.hid hz
    have HB9 := Lib.hid (HB7.out.trans (hb9.mono hS7))
    have HOW := Lib.hid (HO7.out.below hb9 HO7.out.lt)
    clear hz hb9 x20 y0 y1 y2
    have of : ∀ o, w9.frozen? ⟨O, o, none⟩ = false := fun o => HOW.out.frozen o
    have HB8 := Lib.hid (HB9.out.setCell (p := ⟨O, 2, none⟩) hOS (.float .f64 z))
    have HO8 : Hid (Blk (w9.setCell ⟨O, 2, none⟩ (.float .f64 z)) O 40 #[.bool true, .int .i64 0, .float .f64 z]) := Lib.hid ((HOW.out.set_ 2 (.float .f64 z)).to rfl)
    have o2 : w9.cell? ⟨O, 2, none⟩ = some (.float .f64 0) := HOW.out.cell 2
    go_upto_region 33 with fail
    generalize (w9.setCell ⟨O, 2, none⟩ (.float .f64 z)) = w8 at *
    clear of o2
    have p0 : w8.cell? ⟨O, 0, none⟩ = some (.bool true) := HO8.out.cell 0
    have p1 : w8.cell? ⟨O, 1, none⟩ = some (.int .i64 0) := HO8.out.cell 1
    have p2 : w8.cell? ⟨O, 2, none⟩ = some (.float .f64 z) := HO8.out.cell 2
    have hkz := HK5.out.below HB8.out (by omega)
    have z0 : w8.cell? ⟨S + 4, 0, none⟩ = some (.bool false) := hkz.cell 0
    have z1 : w8.cell? ⟨S + 4, 1, none⟩ = some (.int .i64 0) := hkz.cell 1
    have z2 : w8.cell? ⟨S + 4, 2, none⟩ = some (.float .f64 0) := hkz.cell 2
    have zf : ∀ o, w8.frozen? ⟨S + 4, o, none⟩ = false := fun o => hkz.frozen o
    have HKZ := Lib.hid (hkz.three (.bool true) (.int .i64 0) (.float .f64 z))
    have HRZ := Lib.hid (RDVal.mk (P := DVal s k M c a (rvOf s k M c)) (r := true) (n := 0) (z := z) (k := 0) (.inr (.inr (.inr (.inr (.inr ⟨HOK.out, rfl, HK0.out, HMI.out, HRVO.out _ (.inr (.inr (.inl ⟨HKN.out, HZZ.out⟩)))⟩))))) HSS.out HBW.out (Nat.le_add_right S 5) HB8.out)
    clear hkz
    go_wp2_with fail
    refine bodyPost_ret ?_ ?_ HRZ.out
    rotate_left
    ·rfl
    ·exact rdval_results rfl rfl HKZ.out
   ·as_aux_lemma =>
    have HKN := Lib.hid hkn
    have x20 : w7.cell? ⟨S + 1, 0, none⟩ = some (.int .i64 2) := by rw [← HKN.out]; exact (HK2.out.below HB7.out (by omega)).cell 0
    have y0 : w7.cell? ⟨Q, 0, none⟩ = some (.slice xqa xqn xqc) := HX7.out.cell 0
    have y1 : w7.cell? ⟨Q, 1, none⟩ = some (.float .f64 xmin) := HX7.out.cell 1
    have y2 : w7.cell? ⟨Q, 2, none⟩ = some (.float .f64 xmax) := HX7.out.cell 2
    clear hkn hk1 hk6 hk4
    have HOW := HO7
    have of : ∀ o, w7.frozen? ⟨O, o, none⟩ = false := fun o => HOW.out.frozen o
    have HB8 := Lib.hid (HB7.out.setCell (p := ⟨O, 2, none⟩) hOS (.float .f64 xmin))
    have HO8 : Hid (Blk (w7.setCell ⟨O, 2, none⟩ (.float .f64 xmin)) O 40 #[.bool true, .int .i64 0, .float .f64 xmin]) := Lib.hid ((HOW.out.set_ 2 (.float .f64 xmin)).to rfl)
    have o2 : w7.cell? ⟨O, 2, none⟩ = some (.float .f64 0) := HOW.out.cell 2
    go_upto_region 33 with fail
    generalize (w7.setCell ⟨O, 2, none⟩ (.float .f64 xmin)) = w8 at *
    clear of o2
    have p0 : w8.cell? ⟨O, 0, none⟩ = some (.bool true) := HO8.out.cell 0
    have p1 : w8.cell? ⟨O, 1, none⟩ = some (.int .i64 0) := HO8.out.cell 1
    have p2 : w8.cell? ⟨O, 2, none⟩ = some (.float .f64 xmin) := HO8.out.cell 2
    have hkz := HK5.out.below HB8.out (by omega)
    have z0 : w8.cell? ⟨S + 4, 0, none⟩ = some (.bool false) := hkz.cell 0
    have z1 : w8.cell? ⟨S + 4, 1, none⟩ = some (.int .i64 0) := hkz.cell 1
    have z2 : w8.cell? ⟨S + 4, 2, none⟩ = some (.float .f64 0) := hkz.cell 2
    have zf : ∀ o, w8.frozen? ⟨S + 4, o, none⟩ = false := fun o => hkz.frozen o
    have HKZ := Lib.hid (hkz.three (.bool true) (.int .i64 0) (.float .f64 xmin))
    have HRZ := Lib.hid (RDVal.mk (P := DVal s k M c a (rvOf s k M c)) (r := true) (n := 0) (z := xmin) (k := 0) (.inr (.inr (.inr (.inr (.inr ⟨HOK.out, rfl, HK0.out, HMI.out, HRVO.out _ (.inl ⟨HKN.out, rfl⟩)⟩))))) HSS.out HBW.out (Nat.le_add_right S 5) HB8.out)
    clear hkz
    go_wp2_with fail
    refine bodyPost_ret ?_ ?_ HRZ.out
    rotate_left
    ·rfl
    ·exact rdval_results rfl rfl HKZ.out
   ·as_aux_lemma =>
    have HKN := Lib.hid hkn
    have x20 : w7.cell? ⟨S + 1, 0, none⟩ = some (.int .i64 3) := by rw [← HKN.out]; exact (HK2.out.below HB7.out (by omega)).cell 0
    have y0 : w7.cell? ⟨Q, 0, none⟩ = some (.slice xqa xqn xqc) := HX7.out.cell 0
    have y1 : w7.cell? ⟨Q, 1, none⟩ = some (.float .f64 xmin) := HX7.out.cell 1
    have y2 : w7.cell? ⟨Q, 2, none⟩ = some (.float .f64 xmax) := HX7.out.cell 2
    clear hkn hk1 hk6 hk4
    have HOW := HO7
    have of : ∀ o, w7.frozen? ⟨O, o, none⟩ = false := fun o => HOW.out.frozen o
    have HB8 := Lib.hid (HB7.out.setCell (p := ⟨O, 2, none⟩) hOS (.float .f64 xmax))
    have HO8 : Hid (Blk (w7.setCell ⟨O, 2, none⟩ (.float .f64 xmax)) O 40 #[.bool true, .int .i64 0, .float .f64 xmax]) := Lib.hid ((HOW.out.set_ 2 (.float .f64 xmax)).to rfl)
    have o2 : w7.cell? ⟨O, 2, none⟩ = some (.float .f64 0) := HOW.out.cell 2
    go_upto_region 33 with fail
    generalize (w7.setCell ⟨O, 2, none⟩ (.float .f64 xmax)) = w8 at *
    clear of o2
    have p0 : w8.cell? ⟨O, 0, none⟩ = some (.bool true) := HO8.out.cell 0
    have p1 : w8.cell? ⟨O, 1, none⟩ = some (.int .i64 0) := HO8.out.cell 1
    have p2 : w8.cell? ⟨O, 2, none⟩ = some (.float .f64 xmax) := HO8.out.cell 2
    have hkz := HK5.out.below HB8.out (by omega)
    have z0 : w8.cell? ⟨S + 4, 0, none⟩ = some (.bool false) := hkz.cell 0
    have z1 : w8.cell? ⟨S + 4, 1, none⟩ = some (.int .i64 0) := hkz.cell 1
    have z2 : w8.cell? ⟨S + 4, 2, none⟩ = some (.float .f64 0) := hkz.cell 2
    have zf : ∀ o, w8.frozen? ⟨S + 4, o, none⟩ = false := fun o => hkz.frozen o
    have HKZ := Lib.hid (hkz.three (.bool true) (.int .i64 0) (.float .f64 xmax))
    have HRZ := Lib.hid (RDVal.mk (P := DVal s k M c a (rvOf s k M c)) (r := true) (n := 0) (z := xmax) (k := 0) (.inr (.inr (.inr (.inr (.inr ⟨HOK.out, rfl, HK0.out, HMI.out, HRVO.out _ (.inr (.inl ⟨HKN.out, rfl⟩))⟩))))) HSS.out HBW.out (Nat.le_add_right S 5) HB8.out)
    clear hkz
    go_wp2_with fail
    refine bodyPost_ret ?_ ?_ HRZ.out
    rotate_left
    ·rfl
    ·exact rdval_results rfl rfl HKZ.out
   ·as_aux_lemma =>
    have HKN := Lib.hid hkn
    have x20 : w7.cell? ⟨S + 1, 0, none⟩ = some (.int .i64 4) := by rw [← HKN.out]; exact (HK2.out.below HB7.out (by omega)).cell 0
    have x31 : w7.cell? ⟨S + 2, 1, none⟩ = some (.int .i64 cq) := (HK3.out.below HB7.out (by omega)).cell 1
    clear hkn hk1 hk6 hk4
    by_cases hkk : KK = 0
    ·subst hkk
     obtain ⟨f0, f1, f2, f3, f4, f5, f6⟩ := HF.out
     go_wp2_with fail
     refine (HMN.out (by trivial) _ (Below.refl _ _)).mono ?_; rintro e w9 ⟨z, rfl, hz, hb9⟩
     have HZZ := Lib.hid hz
     have HB9 := Lib.hid (HB7.out.trans (hb9.mono hS7))
     have HOW := Lib.hid (HO7.out.below hb9 HO7.out.lt)
     clear hz hb9 x20 x31 f0 f1 f2 f3 f4 f5 f6
     have of : ∀ o, w9.frozen? ⟨O, o, none⟩ = false := fun o => HOW.out.frozen o
     have HB8 := Lib.hid (HB9.out.setCell (p := ⟨O, 2, none⟩) hOS (.float .f64 z))
     have HO8 : Hid (Blk (w9.setCell ⟨O, 2, none⟩ (.float .f64 z)) O 40 #[.bool true, .int .i64 0, .float .f64 z]) := Lib.hid ((HOW.out.set_ 2 (.float .f64 z)).to rfl)
     have o2 : w9.cell? ⟨O, 2, none⟩ = some (.float .f64 0) := HOW.out.cell 2
     go_upto_region 33 with fail
     generalize (w9.setCell ⟨O, 2, none⟩ (.float .f64 z)) = w8 at *
     clear of o2
     have p0 : w8.cell? ⟨O, 0, none⟩ = some (.bool true) := HO8.out.cell 0
     have p1 : w8.cell? ⟨O, 1, none⟩ = some (.int .i64 0) := HO8.out.cell 1
     have p2 : w8.cell? ⟨O, 2, none⟩ = some (.float .f64 z) := HO8.out.cell 2
     have hkz := HK5.out.below HB8.out (by omega)
     have z0 : w8.cell? ⟨S + 4, 0, none⟩ = some (.bool false) := hkz.cell 0
     have z1 : w8.cell? ⟨S + 4, 1, none⟩ = some (.int .i64 0) := hkz.cell 1
     have z2 : w8.cell? ⟨S + 4, 2, none⟩ = some (.float .f64 0) := hkz.cell 2
     have zf : ∀ o, w8.frozen? ⟨S + 4, o, none⟩ = false := fun o => hkz.frozen o
     have HKZ := Lib.hid (hkz.three (.bool true) (.int .i64 0) (.float .f64 z))
     have HRZ := Lib.hid (RDVal.mk (P := DVal s k M c a (rvOf s k M c)) (r := true) (n := 0) (z := z) (k := 0) (.inr (.inr (.inr (.inr (.inr ⟨HOK.out, rfl, HK0.out, HMI.out, HRVO.out _ (.inr (.inr (.inr ⟨HKN.out, HZZ.out.1, .inl ⟨HKK.out, HZZ.out⟩⟩)))⟩))))) HSS.out HBW.out (Nat.le_add_right S 5) HB8.out)
     clear hkz
     go_wp2_with fail
     refine bodyPost_ret ?_ ?_ HRZ.out
     rotate_left
     ·rfl
     ·exact rdval_results rfl rfl HKZ.out
    ·have t1 : ((KK : Int) == 0) = false := by simp; omega
     have HKK0 := Lib.hid hkk
     clear hkk
     have p0 : w7.cell? ⟨O, 0, none⟩ = some (.bool true) := HO7.out.cell 0
     have p1 : w7.cell? ⟨O, 1, none⟩ = some (.int .i64 0) := HO7.out.cell 1
     have p2 : w7.cell? ⟨O, 2, none⟩ = some (.float .f64 0) := HO7.out.cell 2
     have hkz := HK5.out.below HB7.out (by omega)
     have z0 : w7.cell? ⟨S + 4, 0, none⟩ = some (.bool false) := hkz.cell 0
     have z1 : w7.cell? ⟨S + 4, 1, none⟩ = some (.int .i64 0) := hkz.cell 1
     have z2 : w7.cell? ⟨S + 4, 2, none⟩ = some (.float .f64 0) := hkz.cell 2
     have zf : ∀ o, w7.frozen? ⟨S + 4, o, none⟩ = false := fun o => hkz.frozen o
     have HKZ := Lib.hid (hkz.three (.bool true) (.int .i64 0) (.float .f64 0))
     have HRZ := Lib.hid (RDVal.mk (P := DVal s k M c a (rvOf s k M c)) (r := true) (n := 0) (z := 0) (k := 0) (.inr (.inr (.inr (.inr (.inr ⟨HOK.out, rfl, HK0.out, HMI.out, HRVO.out _ (.inr (.inr (.inr ⟨HKN.out, by decide, .inr ⟨by rw [HKK.out]; exact HKK0.out, rfl⟩⟩)))⟩))))) HSS.out HBW.out (Nat.le_add_right S 5) HB7.out)
     clear hkz
     go_wp2_with fail
     refine bodyPost_ret ?_ ?_ HRZ.out
     rotate_left
     ·rfl
     ·exact rdval_results rfl rfl HKZ.out
  ·have hmlt : mk < cn1 := by have := HLL.out.1; omega
   have hmlt' : (mk : Int) < (ni : Int) := by omega
   have HMI : Hid ((mk : Int) < (s.ints.length : Int)) := Lib.hid (by rw [HLN.out.1]; omega)
   have HRW : Hid (RB = decide (4 ≤ k)) := Lib.hid (by rw [HRB.out, decide_eq_decide]; omega)
   clear hmi
   obtain ⟨b, off, e, hbl, hcw⟩ := (HC.out.1.below HB3.out (Nat.le_of_eq HSZ.out)).at (by show 0 < cn1; omega)
   simp only at e
   subst e
   obtain ⟨p0, p1, p2, p3, p4⟩ := whlCells_get (ds := c.ints) (i := mk) (by rw [HLN.out.2.2.1]; exact hmlt)
   have HW := Lib.hid (HC.out.2.2.2.2.2.2.1 (whlAt c.ints mk) (whlAt_mem (by rw [HLN.out.2.2.1]; exact hmlt)))
   have HQL := Lib.hid (hsq.out (whlAt c.ints mk) (whlAt_mem (by rw [HLN.out.2.2.1]; exact hmlt)))
   obtain ⟨X, hX⟩ : ∃ x, whlAt c.ints mk = x := ⟨_, rfl⟩
   rw [hX] at p0 p1 p2 p3 p4 HW HQL
   obtain ⟨xs, xa, xq, xqa, xqn, xqc, xmin, xmax⟩ := X
   simp only at p0 p1 p2 p3 p4
   have HX := Lib.hid hX
   clear hX
   by_cases hk4 : k ≤ 3
   ·as_aux_lemma =>
    obtain rfl : RB = false := by rw [HRW.out]; exact decide_eq_false (by omega)
    have c0 := hcw (mk * 5) (by show mk * 5 < cn1 * 5; omega)
    have c1 := hcw (mk * 5 + 1) (by show mk * 5 + 1 < cn1 * 5; omega)
    have c2 := hcw (mk * 5 + 2) (by show mk * 5 + 2 < cn1 * 5; omega)
    have c3 := hcw (mk * 5 + 3) (by show mk * 5 + 3 < cn1 * 5; omega)
    have c4 := hcw (mk * 5 + 4) (by show mk * 5 + 4 < cn1 * 5; omega)
    rw [p0] at c0
    rw [p1, ← Nat.add_assoc] at c1
    rw [p2, ← Nat.add_assoc] at c2
    rw [p3, ← Nat.add_assoc] at c3
    rw [p4, ← Nat.add_assoc] at c4
    have x21 : w3.cell? ⟨S + 1, 1, none⟩ = some (.int .i64 (mk : Int)) := (HK2.out.below HB3.out (by omega)).cell 1
    have x32 : w3.cell? ⟨S + 2, 2, none⟩ = some (.slice (some ⟨b, off, none⟩) cn1 cc1) := (HK3.out.below HB3.out (by omega)).cell 2
    have hW4 := Lib.hid (Blk.new w3 59 #[.int .i64 xs, .int .i64 xa, .slice xqa xqn xqc, .int .i64 xmin, .int .i64 xmax])
    have HB4 := Lib.hid (HB3.out.alloc hSw (.cells #[.int .i64 xs, .int .i64 xa, .slice xqa xqn xqc, .int .i64 xmin, .int .i64 xmax] 59))
    clear p0 p1 p2 p3 p4 hcw hbl
    go_upto_region 11 with fail
    generalize (w3.alloc (.cells #[.int .i64 xs, .int .i64 xa, .slice xqa xqn xqc, .int .i64 xmin, .int .i64 xmax] 59)) = w4 at *
    generalize w3.heap.size = Q at *
    clear x21 x32 c0 c1 c2 c3 c4
    have hS4 : S + 5 ≤ w4.heap.size := by have := HB4.out.size; rw [HSZ.out] at this; exact this
    have y0 : w4.cell? ⟨Q, 0, none⟩ = some (.int .i64 xs) := hW4.out.cell 0
    have y3 : w4.cell? ⟨Q, 3, none⟩ = some (.int .i64 xmin) := hW4.out.cell 3
    have y4 : w4.cell? ⟨Q, 4, none⟩ = some (.int .i64 xmax) := hW4.out.cell 4
    have HB5 := Lib.hid (HB4.out.alloc hS4 (.cells #[.int .i64 xs, .int .i64 xmin, .int .i64 xmax] 2))
    have hS41 : S + 1 < w4.heap.size := by omega
    have hcase : k = 1 ∨ k = 2 ∨ k = 3 := by omega
    clear hk4
    rcases hcase with hkn | hkn | hkn
    ·have HKN := Lib.hid hkn
     have x20 : w4.cell? ⟨S + 1, 0, none⟩ = some (.int .i64 1) := by rw [← HKN.out]; exact (HK2.out.below HB4.out (by omega)).cell 0
     clear hkn hk1 hk6
     have hkz := HK5.out.below HB5.out (by omega)
     have z0 : (w4.alloc (.cells #[.int .i64 xs, .int .i64 xmin, .int .i64 xmax] 2)).cell? ⟨S + 4, 0, none⟩ = some (.bool false) := hkz.cell 0
     have z1 : (w4.alloc (.cells #[.int .i64 xs, .int .i64 xmin, .int .i64 xmax] 2)).cell? ⟨S + 4, 1, none⟩ = some (.int .i64 0) := hkz.cell 1
     have z2 : (w4.alloc (.cells #[.int .i64 xs, .int .i64 xmin, .int .i64 xmax] 2)).cell? ⟨S + 4, 2, none⟩ = some (.float .f64 0) := hkz.cell 2
     have zf : ∀ o, (w4.alloc (.cells #[.int .i64 xs, .int .i64 xmin, .int .i64 xmax] 2)).frozen? ⟨S + 4, o, none⟩ = false := fun o => hkz.frozen o
     have HKZ := Lib.hid (hkz.three (.bool false) (.int .i64 xs) (.float .f64 0))
     have HRZ := Lib.hid (RDVal.mk (P := DVal s k (mk : Int) c a (rvOf s k (mk : Int) c)) (r := false) (n := xs) (z := 0) (k := 0) (.inr (.inr (.inr (.inr (.inl ⟨HOK.out, rfl, HK0.out, HMI.out, by rw [Int.toNat_natCast, HX.out]; exact .inl ⟨HKN.out, rfl, rfl, rfl⟩⟩))))) HSS.out HBW.out (Nat.le_add_right S 5) HB5.out)
     clear hkz
     go_wp2_with fail
     refine bodyPost_ret ?_ ?_ HRZ.out
     rotate_left
     ·rfl
     ·exact rdval_results rfl rfl HKZ.out
    ·have HKN := Lib.hid hkn
     have x20 : w4.cell? ⟨S + 1, 0, none⟩ = some (.int .i64 2) := by rw [← HKN.out]; exact (HK2.out.below HB4.out (by omega)).cell 0
     clear hkn hk1 hk6
     have hkz := HK5.out.below HB5.out (by omega)
     have z0 : (w4.alloc (.cells #[.int .i64 xs, .int .i64 xmin, .int .i64 xmax] 2)).cell? ⟨S + 4, 0, none⟩ = some (.bool false) := hkz.cell 0
     have z1 : (w4.alloc (.cells #[.int .i64 xs, .int .i64 xmin, .int .i64 xmax] 2)).cell? ⟨S + 4, 1, none⟩ = some (.int .i64 0) := hkz.cell 1
     have z2 : (w4.alloc (.cells #[.int .i64 xs, .int .i64 xmin, .int .i64 xmax] 2)).cell? ⟨S + 4, 2, none⟩ = some (.float .f64 0) := hkz.cell 2
     have zf : ∀ o, (w4.alloc (.cells #[.int .i64 xs, .int .i64 xmin, .int .i64 xmax] 2)).frozen? ⟨S + 4, o, none⟩ = false := fun o => hkz.frozen o
     have HKZ := Lib.hid (hkz.three (.bool false) (.int .i64 xmin) (.float .f64 0))
     have HRZ := Lib.hid (RDVal.mk (P := DVal s k (mk : Int) c a (rvOf s k (mk : Int) c)) (r := false) (n := xmin) (z := 0) (k := 0) (.inr (.inr (.inr (.inr (.inl ⟨HOK.out, rfl, HK0.out, HMI.out, by rw [Int.toNat_natCast, HX.out]; exact .inr (.inl ⟨HKN.out, rfl, rfl, rfl⟩)⟩))))) HSS.out HBW.out (Nat.le_add_right S 5) HB5.out)
     clear hkz
     go_wp2_with fail
     refine bodyPost_ret ?_ ?_ HRZ.out
     rotate_left
     ·rfl
     ·exact rdval_results rfl rfl HKZ.out
    ·have HKN := Lib.hid hkn
     have x20 : w4.cell? ⟨S + 1, 0, none⟩ = some (.int .i64 3) := by rw [← HKN.out]; exact (HK2.out.below HB4.out (by omega)).cell 0
     clear hkn hk1 hk6
     have hkz := HK5.out.below HB5.out (by omega)
     have z0 : (w4.alloc (.cells #[.int .i64 xs, .int .i64 xmin, .int .i64 xmax] 2)).cell? ⟨S + 4, 0, none⟩ = some (.bool false) := hkz.cell 0
     have z1 : (w4.alloc (.cells #[.int .i64 xs, .int .i64 xmin, .int .i64 xmax] 2)).cell? ⟨S + 4, 1, none⟩ = some (.int .i64 0) := hkz.cell 1
     have z2 : (w4.alloc (.cells #[.int .i64 xs, .int .i64 xmin, .int .i64 xmax] 2)).cell? ⟨S + 4, 2, none⟩ = some (.float .f64 0) := hkz.cell 2
     have zf : ∀ o, (w4.alloc (.cells #[.int .i64 xs, .int .i64 xmin, .int .i64 xmax] 2)).frozen? ⟨S + 4, o, none⟩ = false := fun o => hkz.frozen o
     have HKZ := Lib.hid (hkz.three (.bool false) (.int .i64 xmax) (.float .f64 0))
     have HRZ := Lib.hid (RDVal.mk (P := DVal s k (mk : Int) c a (rvOf s k (mk : Int) c)) (r := false) (n := xmax) (z := 0) (k := 0) (.inr (.inr (.inr (.inr (.inl ⟨HOK.out, rfl, HK0.out, HMI.out, by rw [Int.toNat_natCast, HX.out]; exact .inr (.inr (.inl ⟨HKN.out, rfl, rfl, rfl⟩))⟩))))) HSS.out HBW.out (Nat.le_add_right S 5) HB5.out)
     clear hkz
     go_wp2_with fail
     refine bodyPost_ret ?_ ?_ HRZ.out
     rotate_left
     ·rfl
     ·exact rdval_results rfl rfl HKZ.out
   ·as_aux_lemma =>
    obtain rfl : RB = true := by rw [HRW.out]; exact decide_eq_true (by omega)
    have HO := Lib.hid (Blk.new w3 40 #[.bool true, .int .i64 0, .float .f64 0])
    have HB4 := Lib.hid (HB3.out.alloc hSw (.cells #[.bool true, .int .i64 0, .float .f64 0] 40))
    have hOS : S + 5 ≤ w3.heap.size := hSw
    have hcw4 : ∀ i, i < cn1 * 5 → (w3.alloc (.cells #[.bool true, .int .i64 0, .float .f64 0] 40)).cell? ⟨b, off + i, none⟩ = some ((whlCells c.ints).getD i undef) := fun i hi => by rw [((Below.refl w3.heap.size w3).alloc (Nat.le_refl _) _).cell (p := ⟨b, off + i, none⟩) hbl]; exact hcw i hi
    go_upto_region 13 with fail
    generalize (w3.alloc (.cells #[.bool true, .int .i64 0, .float .f64 0] 40)) = w4 at *
    clear hcw hbl
    generalize w3.heap.size = O at *
    have c0 := hcw4 (mk * 5) (by show mk * 5 < cn1 * 5; omega)
    have c1 := hcw4 (mk * 5 + 1) (by show mk * 5 + 1 < cn1 * 5; omega)
    have c2 := hcw4 (mk * 5 + 2) (by show mk * 5 + 2 < cn1 * 5; omega)
    have c3 := hcw4 (mk * 5 + 3) (by show mk * 5 + 3 < cn1 * 5; omega)
    have c4 := hcw4 (mk * 5 + 4) (by show mk * 5 + 4 < cn1 * 5; omega)
    rw [p0] at c0
    rw [p1, ← Nat.add_assoc] at c1
    rw [p2, ← Nat.add_assoc] at c2
    rw [p3, ← Nat.add_assoc] at c3
    rw [p4, ← Nat.add_assoc] at c4
    have x11 : w4.cell? ⟨S, 1, none⟩ = some (.slice ai ni ci) := (HK1.out.below HB4.out (by omega)).cell 1
    have x21 : w4.cell? ⟨S + 1, 1, none⟩ = some (.int .i64 (mk : Int)) := (HK2.out.below HB4.out (by omega)).cell 1
    have x32 : w4.cell? ⟨S + 2, 2, none⟩ = some (.slice (some ⟨b, off, none⟩) cn1 cc1) := (HK3.out.below HB4.out (by omega)).cell 2
    have t1 : decide (mk < ni) = true := decide_eq_true (by omega)
    have t1' : decide ((mk : Int) < (ni : Int)) = true := decide_eq_true hmlt'
    have HO4 := Lib.hid (HO.out.alloc (.cells #[.int .i64 xs, .int .i64 xa, .slice xqa xqn xqc, .int .i64 xmin, .int .i64 xmax] 59))
    have HX4 := Lib.hid (Blk.new w4 59 #[.int .i64 xs, .int .i64 xa, .slice xqa xqn xqc, .int .i64 xmin, .int .i64 xmax])
    have hS4 : S + 5 ≤ w4.heap.size := by have := HB4.out.size; rw [HSZ.out] at this; exact this
    have HB5 := Lib.hid (HB4.out.alloc hS4 (.cells #[.int .i64 xs, .int .i64 xa, .slice xqa xqn xqc, .int .i64 xmin, .int .i64 xmax] 59))
    clear p0 p1 p2 p3 p4 hcw4
    go_upto_region 15 with fail
    generalize (w4.alloc (.cells #[.int .i64 xs, .int .i64 xa, .slice xqa xqn xqc, .int .i64 xmin, .int .i64 xmax] 59)) = w5 at *
    generalize w4.heap.size = Q at *
    clear x11 x21 x32 c0 c1 c2 c3 c4 t1 t1'
    have hS5 : S + 5 ≤ w5.heap.size := by have := HB5.out.size; rw [HSZ.out] at this; exact this
    have y0 : w5.cell? ⟨Q, 0, none⟩ = some (.int .i64 xs) := HX4.out.cell 0
    have y2 : w5.cell? ⟨Q, 2, none⟩ = some (.slice xqa xqn xqc) := HX4.out.cell 2
    have x31 : w5.cell? ⟨S + 2, 1, none⟩ = some (.int .i64 cq) := (HK3.out.below HB5.out (by omega)).cell 1
    have hcase : k = 4 ∨ k = 5 ∨ k = 6 := by omega
    clear hk4
    rcases hcase with hkn | hkn | hkn
    ·as_aux_lemma =>
     have HKN := Lib.hid hkn
     have x20 : w5.cell? ⟨S + 1, 0, none⟩ = some (.int .i64 4) := by rw [← HKN.out]; exact (HK2.out.below HB5.out (by omega)).cell 0
     clear hkn hk1 hk6
     have HMC := Lib.hid (fun w => rmean_any xs cq w HW.out.2.2.1.1 HW.out.2.2.1.2 HCQ.out.1 HCQ.out.2)
     go_wp2_with fail
     refine (HMC.out _).mono ?_; rintro e w9 ⟨z, rfl, hz, hb9⟩
     have HZZ := Lib.hid hz
     have HB9 := Lib.hid (HB5.out.trans (hb9.mono hS5))
     have HOW := Lib.hid (HO4.out.below hb9 HO4.out.lt)
     clear hz hb9 x20 x31 y0 y2 HMC
     have of : ∀ o, w9.frozen? ⟨O, o, none⟩ = false := fun o => HOW.out.frozen o
     have HB8 := Lib.hid (HB9.out.setCell (p := ⟨O, 2, none⟩) hOS (.float .f64 z))
     have HO8 : Hid (Blk (w9.setCell ⟨O, 2, none⟩ (.float .f64 z)) O 40 #[.bool true, .int .i64 0, .float .f64 z]) := Lib.hid ((HOW.out.set_ 2 (.float .f64 z)).to rfl)
     have o2 : w9.cell? ⟨O, 2, none⟩ = some (.float .f64 0) := HOW.out.cell 2
     go_upto_region 21 with fail
     generalize (w9.setCell ⟨O, 2, none⟩ (.float .f64 z)) = w8 at *
     clear of o2
     have p0 : w8.cell? ⟨O, 0, none⟩ = some (.bool true) := HO8.out.cell 0
     have p1 : w8.cell? ⟨O, 1, none⟩ = some (.int .i64 0) := HO8.out.cell 1
     have p2 : w8.cell? ⟨O, 2, none⟩ = some (.float .f64 z) := HO8.out.cell 2
     have hkz := HK5.out.below HB8.out (by omega)
     have z0 : w8.cell? ⟨S + 4, 0, none⟩ = some (.bool false) := hkz.cell 0
     have z1 : w8.cell? ⟨S + 4, 1, none⟩ = some (.int .i64 0) := hkz.cell 1
     have z2 : w8.cell? ⟨S + 4, 2, none⟩ = some (.float .f64 0) := hkz.cell 2
     have zf : ∀ o, w8.frozen? ⟨S + 4, o, none⟩ = false := fun o => hkz.frozen o
     have HKZ := Lib.hid (hkz.three (.bool true) (.int .i64 0) (.float .f64 z))
     have HRZ := Lib.hid (RDVal.mk (P := DVal s k (mk : Int) c a (rvOf s k (mk : Int) c)) (r := true) (n := 0) (z := z) (k := 0) (.inr (.inr (.inr (.inr (.inl ⟨HOK.out, rfl, HK0.out, HMI.out, by rw [Int.toNat_natCast, HX.out]; exact .inr (.inr (.inr (.inl ⟨HKN.out, rfl, rfl, (by show IsMean _ c.count z; rw [HV.out.2.1]; exact HZZ.out)⟩)))⟩))))) HSS.out HBW.out (Nat.le_add_right S 5) HB8.out)
     clear hkz
     go_wp2_with fail
     refine bodyPost_ret ?_ ?_ HRZ.out
     rotate_left
     ·rfl
     ·exact rdval_results rfl rfl HKZ.out
    ·as_aux_lemma =>
     have HKN := Lib.hid hkn
     have x20 : w5.cell? ⟨S + 1, 0, none⟩ = some (.int .i64 5) := by rw [← HKN.out]; exact (HK2.out.below HB5.out (by omega)).cell 0
     clear hkn hk1 hk6
     obtain ⟨KQ, hKQ, hSQ, hVQ⟩ := sq_bound HW.out.2.1 (by rw [HW.out.1.1]; exact HQL.out)
     obtain ⟨SQ, hSQ'⟩ : ∃ x, (V 4294967296 xq).toNat = x := ⟨_, rfl⟩
     rw [hSQ'] at hSQ hVQ
     have HMC := Lib.hid (rdev_any cq xs xqa xqn xqc SQ KQ xq w5 (HW.out.1.below HB5.out (Nat.le_of_eq HSZ.out)) HW.out.2.1 hVQ (Nat.le_trans HQL.out (by decide)) hSQ hKQ HW.out.2.2.1.1 HW.out.2.2.1.2 HCQ.out.1 HCQ.out.2)
     have HSQ := Lib.hid hSQ'
     clear hKQ hSQ hVQ hSQ'
     go_wp2_with fail
     refine (HMC.out).mono ?_; rintro e w9 ⟨z, rfl, hz, hb9⟩
     have HZZ := Lib.hid (show IsDev cq xs (V 4294967296 xq).toNat z by rw [HSQ.out]; exact hz)
     have HB9 := Lib.hid (HB5.out.trans (hb9.mono hS5))
     have HOW := Lib.hid (HO4.out.below hb9 HO4.out.lt)
     clear hz hb9 x20 x31 y0 y2 HMC
     have of : ∀ o, w9.frozen? ⟨O, o, none⟩ = false := fun o => HOW.out.frozen o
     have HB8 := Lib.hid (HB9.out.setCell (p := ⟨O, 2, none⟩) hOS (.float .f64 z))
     have HO8 : Hid (Blk (w9.setCell ⟨O, 2, none⟩ (.float .f64 z)) O 40 #[.bool true, .int .i64 0, .float .f64 z]) := Lib.hid ((HOW.out.set_ 2 (.float .f64 z)).to rfl)
     have o2 : w9.cell? ⟨O, 2, none⟩ = some (.float .f64 0) := HOW.out.cell 2
     go_upto_region 21 with fail
     generalize (w9.setCell ⟨O, 2, none⟩ (.float .f64 z)) = w8 at *
     clear of o2
     have p0 : w8.cell? ⟨O, 0, none⟩ = some (.bool true) := HO8.out.cell 0
     have p1 : w8.cell? ⟨O, 1, none⟩ = some (.int .i64 0) := HO8.out.cell 1
     have p2 : w8.cell? ⟨O, 2, none⟩ = some (.float .f64 z) := HO8.out.cell 2
     have hkz := HK5.out.below HB8.out (by omega)
     have z0 : w8.cell? ⟨S + 4, 0, none⟩ = some (.bool false) := hkz.cell 0
     have z1 : w8.cell? ⟨S + 4, 1, none⟩ = some (.int .i64 0) := hkz.cell 1
     have z2 : w8.cell? ⟨S + 4, 2, none⟩ = some (.float .f64 0) := hkz.cell 2
     have zf : ∀ o, w8.frozen? ⟨S + 4, o, none⟩ = false := fun o => hkz.frozen o
     have HKZ := Lib.hid (hkz.three (.bool true) (.int .i64 0) (.float .f64 z))
     have HRZ := Lib.hid (RDVal.mk (P := DVal s k (mk : Int) c a (rvOf s k (mk : Int) c)) (r := true) (n := 0) (z := z) (k := 0) (.inr (.inr (.inr (.inr (.inl ⟨HOK.out, rfl, HK0.out, HMI.out, by rw [Int.toNat_natCast, HX.out]; exact .inr (.inr (.inr (.inr (.inl ⟨HKN.out, rfl, rfl, (by show IsDev c.count _ _ z; rw [HV.out.2.1]; exact HZZ.out)⟩))))⟩))))) HSS.out HBW.out (Nat.le_add_right S 5) HB8.out)
     clear hkz
     go_wp2_with fail
     refine bodyPost_ret ?_ ?_ HRZ.out
     rotate_left
     ·rfl
     ·exact rdval_results rfl rfl HKZ.out
    ·as_aux_lemma =>
     have HKN := Lib.hid hkn
     have x20 : w5.cell? ⟨S + 1, 0, none⟩ = some (.int .i64 6) := by rw [← HKN.out]; exact (HK2.out.below HB5.out (by omega)).cell 0
     clear hkn hk1 hk6
     have hml2 : mk < an1 := by have := HLL.out; omega
     obtain ⟨b', off', e', hbl', hcw'⟩ := (HA.out.1.below HB5.out (Nat.le_of_eq HSZ.out)).at (by show 0 < an1; omega)
     simp only at e'
     subst e'
     have c0 := hcw' (mk * 5) (by show mk * 5 < an1 * 5; omega)
     obtain ⟨p0, -⟩ := whlCells_get (ds := a.ints) (i := mk) (by rw [HLN.out.2.2.2.2.1]; exact hml2)
     have HW2 := Lib.hid (HA.out.2.2.2.2.2.2.1 (whlAt a.ints mk) (whlAt_mem (by rw [HLN.out.2.2.2.2.1]; exact hml2)))
     obtain ⟨Y, hY⟩ : ∃ x, whlAt a.ints mk = x := ⟨_, rfl⟩
     rw [hY] at p0 HW2
     obtain ⟨ys, ya, yq, yqa, yqn, yqc, ymin, ymax⟩ := Y
     simp only at p0
     rw [p0] at c0
     have HY := Lib.hid hY
     clear p0 hY hcw' hbl'
     have x21 : w5.cell? ⟨S + 1, 1, none⟩ = some (.int .i64 (mk : Int)) := (HK2.out.below HB5.out (by omega)).cell 1
     have x42 : w5.cell? ⟨S + 3, 2, none⟩ = some (.slice (some ⟨b', off', none⟩) an1 ac1) := (HK4.out.below HB5.out (by omega)).cell 2
     have HMC := Lib.hid (fun w => rmean_any xs ys w HW.out.2.2.1.1 HW.out.2.2.1.2 HW2.out.2.2.1.1 HW2.out.2.2.1.2)
     go_upto_region 16 with fail
     go_still_tail 9, (by kernel_rfl)
     change wpList _ _ _ _ _ w5.drew
     have HB6 := Lib.hid (HB5.out.drew)
     have HO6 := Lib.hid (HO4.out.drew)
     clear x20 x21 x31 x42 c0 y0 y2 hS5
     generalize w5.drew = w6 at *
     go_wp2_with fail
     refine (HMC.out _).mono ?_; rintro e w9 ⟨z, rfl, hz, hb9⟩
     have HZZ := Lib.hid hz
     have HB9 := Lib.hid (HB6.out.trans (hb9.mono (by have := HB6.out.size; rw [HSZ.out] at this; exact this)))
     have HOW := Lib.hid (HO6.out.below hb9 HO6.out.lt)
     clear hz hb9 HMC
     have of : ∀ o, w9.frozen? ⟨O, o, none⟩ = false := fun o => HOW.out.frozen o
     have HB8 := Lib.hid (HB9.out.setCell (p := ⟨O, 2, none⟩) hOS (.float .f64 z))
     have HO8 : Hid (Blk (w9.setCell ⟨O, 2, none⟩ (.float .f64 z)) O 40 #[.bool true, .int .i64 0, .float .f64 z]) := Lib.hid ((HOW.out.set_ 2 (.float .f64 z)).to rfl)
     have o2 : w9.cell? ⟨O, 2, none⟩ = some (.float .f64 0) := HOW.out.cell 2
     go_upto_region 21 with fail
     generalize (w9.setCell ⟨O, 2, none⟩ (.float .f64 z)) = w8 at *
     clear of o2
     have p0 : w8.cell? ⟨O, 0, none⟩ = some (.bool true) := HO8.out.cell 0
     have p1 : w8.cell? ⟨O, 1, none⟩ = some (.int .i64 0) := HO8.out.cell 1
     have p2 : w8.cell? ⟨O, 2, none⟩ = some (.float .f64 z) := HO8.out.cell 2
     have hkz := HK5.out.below HB8.out (by omega)
     have z0 : w8.cell? ⟨S + 4, 0, none⟩ = some (.bool false) := hkz.cell 0
     have z1 : w8.cell? ⟨S + 4, 1, none⟩ = some (.int .i64 0) := hkz.cell 1
     have z2 : w8.cell? ⟨S + 4, 2, none⟩ = some (.float .f64 0) := hkz.cell 2
     have zf : ∀ o, w8.frozen? ⟨S + 4, o, none⟩ = false := fun o => hkz.frozen o
     have HKZ := Lib.hid (hkz.three (.bool true) (.int .i64 0) (.float .f64 z))
     have HRZ := Lib.hid (RDVal.mk (P := DVal s k (mk : Int) c a (rvOf s k (mk : Int) c)) (r := true) (n := 0) (z := z) (k := 0) (.inr (.inr (.inr (.inr (.inl ⟨HOK.out, rfl, HK0.out, HMI.out, by rw [Int.toNat_natCast, HX.out, HY.out]; exact .inr (.inr (.inr (.inr (.inr ⟨HKN.out, rfl, rfl, HZZ.out⟩))))⟩))))) HSS.out HBW.out (Nat.le_add_right S 5) HB8.out)
     clear hkz
     go_wp2_with fail
     refine bodyPost_ret ?_ ?_ HRZ.out
     rotate_left
     ·rfl
     ·exact rdval_results rfl rfl HKZ.out
end Go.Proofs.YtdbkgpakpadloaaGreat
