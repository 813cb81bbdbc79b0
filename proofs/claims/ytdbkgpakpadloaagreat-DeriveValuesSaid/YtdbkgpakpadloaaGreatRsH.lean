/- The walk of the law DeriveValues. No conditions but those stated. -/
import Derived.Test.YtdbkgpakpadloaaGreatRsG
import Derived.Test.YtdbkgpakpadloaaGreatMDer
import Derived.Test.YtdbkgpakpadloaaGreatMReg
import Derived.Test.YtdbkgpakpadloaaGreatOpnC
namespace Go.Proofs.YtdbkgpakpadloaaGreat
open Go.RowKit Ieee
attribute [local go_sem] run_store_float

def RelLt (s : Sch) (m : Int) (c : CellV) : Prop := (relAt c.nums (m - s.ints.length).toNat).min < 18446744073709551616 ∧ (relAt c.nums (m - s.ints.length).toNat).max < 18446744073709551616
theorem rel_lt {w : World} {l : CellL} {c : CellV} (h : CellAt w l c) (s : Sch) (m : Int) : RelLt s m c := by
 unfold RelLt
 rcases Nat.lt_or_ge (m - s.ints.length).toNat c.nums.length with h1 | h1
 ·exact (h.2.2.2.2.2.2.2 _ (relAt_mem h1)).2.2
 ·unfold relAt; rw [List.getD_eq_getElem?_getD, List.getElem?_eq_none h1]; exact ⟨by decide, by decide⟩
theorem DVal.lt {s : Sch} {k m : Int} {c a : CellV} {r : Bool} {n : Int} {z e : Nat} (h : DVal s k m c a (rvOf s k m c) r n z e) (hl : RelLt s m c) : z < 18446744073709551616 := by
 rcases h with ⟨-, -, -, -, rfl⟩ | ⟨-, -, -, -, -, rfl⟩ | ⟨-, -, -, -, -, -, rfl⟩ | ⟨-, -, -, -, -, rfl⟩ | ⟨-, -, -, -, h⟩ | ⟨-, -, -, -, h⟩
 ·decide
 ·decide
 ·decide
 ·decide
 ·rcases h with ⟨-, -, -, rfl⟩ | ⟨-, -, -, rfl⟩ | ⟨-, -, -, rfl⟩ | ⟨-, -, -, h⟩ | ⟨-, -, -, h⟩ | ⟨-, -, -, h⟩
  ·decide
  ·decide
  ·decide
  ·exact h.lt
  ·exact h.1
  ·exact h.lt
 ·obtain ⟨-, -, h⟩ := h
  rcases h with ⟨-, rfl⟩ | ⟨-, rfl⟩ | ⟨-, h⟩ | ⟨-, h⟩
  ·exact hl.1
  ·exact hl.2
  ·exact h.1
  ·exact h.1
theorem vSame_n {n : Int} : vSame false false n n 0 0 = true := vSame_self _ _ _
theorem vSame_x {x y : Nat} (h : keyN x = keyN y) : vSame true true 0 0 x y = true := by unfold vSame; simp [h]
theorem DVal.same {s : Sch} {k m : Int} {c a : CellV} {r r' : Bool} {n n' : Int} {z z' e e' : Nat} (h : DVal s k m c a (rvOf s k m c) r n z e) (j : DVal s k m c a (rvOf s k m c) r' n' z' e') :
  e = e' ∧ vSame r r' n n' z z' = true ∧ (r = false → z = 0) ∧ (r = true → n = 0) := by
 have hno : ∀ {P : Prop}, true = false → P := fun h => by cases h
 have hno2 : ∀ {P : Prop}, false = true → P := fun h => by cases h
 rcases h with ⟨a1, rfl, rfl, rfl, rfl⟩ | ⟨a1, a2, rfl, rfl, rfl, rfl⟩ | ⟨a1, a2, a3, rfl, rfl, rfl, rfl⟩ | ⟨a1, rfl, a2, rfl, rfl, rfl⟩ | ⟨a1, rfl, a2, a3, a4⟩ | ⟨a1, rfl, a2, a3, a4⟩ <;>
  rcases j with ⟨b1, rfl, rfl, rfl, rfl⟩ | ⟨b1, b2, rfl, rfl, rfl, rfl⟩ | ⟨b1, b2, b3, rfl, rfl, rfl, rfl⟩ | ⟨b1, rfl, b2, rfl, rfl, rfl⟩ | ⟨b1, rfl, b2, b3, b4⟩ | ⟨b1, rfl, b2, b3, b4⟩ <;>
  first
  | exact absurd b1 a1
  | exact absurd a1 b1
  | exact absurd b1.1 a1
  | exact absurd a1.1 b1
  | exact ⟨rfl, vSame_n, fun _ => rfl, hno2⟩
  | (rw [a2] at b2; cases b2; done)
  | (rw [a1.2.1] at b2; cases b2; done)
  | (rw [b1.2.1] at a2; cases a2; done)
  | (rw [a3] at b3; cases b3; done)
  | (rw [a1.2.2] at b3; cases b3; done)
  | (rw [b1.2.2] at a3; cases a3; done)
  | exact absurd a2 b2
  | exact absurd b2 a2
  | omega
  | skip
 ·refine ⟨rfl, ?_⟩
  rcases a4 with ⟨a5, rfl, rfl, rfl⟩ | ⟨a5, rfl, rfl, rfl⟩ | ⟨a5, rfl, rfl, rfl⟩ | ⟨a5, rfl, rfl, a6⟩ | ⟨a5, rfl, rfl, a6⟩ | ⟨a5, rfl, rfl, a6⟩ <;>
   rcases b4 with ⟨b5, rfl, rfl, rfl⟩ | ⟨b5, rfl, rfl, rfl⟩ | ⟨b5, rfl, rfl, rfl⟩ | ⟨b5, rfl, rfl, b6⟩ | ⟨b5, rfl, rfl, b6⟩ | ⟨b5, rfl, rfl, b6⟩ <;>
   first
   | omega
   | exact ⟨vSame_n, fun _ => rfl, hno2⟩
   | exact ⟨vSame_x (a6.one b6), hno, fun _ => rfl⟩
 ·obtain ⟨rfl, rfl, a5⟩ := a4
  obtain ⟨rfl, rfl, b5⟩ := b4
  exact ⟨rfl, vSame_x (a5.one b5), hno, fun _ => rfl⟩
theorem real_same {s : Sch} {k m : Int} (hc : chkS s = 0) (hk : colB s.ints.length s.nums.length k m = true) : realB s k m = rrealB s k m := by
 unfold realB mayB rrealB
 rw [decide_eq_true hc, hk]
 by_cases h0 : k = 0
 ·subst h0; simp
 ·obtain ⟨-, -, h1, -⟩ := col_says hk h0
  rw [Bool.eq_iff_iff]
  simp [h0]
  omega
theorem real_call (s : Sch) (k m : Int) (c : CellV) (h : I64 c.count) : RealCall s k m c (rvOf s k m c) := by
 intro h1 h2 _ _ w' hr
 exact ofreal_any w' k _ _ _ _ _ _ c.count h1 h2 hr.1 hr.2.1 h ⟨hr.2.2.1, hr.2.2.2⟩

set_option maxRecDepth 100000 in
set_option maxHeartbeats 16000000 in
theorem walk_dervals (l : SchL) (s : Sch) (k m : Int) (lc : CellL) (c : CellV) (la : CellL) (a : CellV) (w : World) (h : SchAt w l s) (hkm : (-9223372036854775808 ≤ k ∧ k ≤ 9223372036854775807) ∧ (-9223372036854775808 ≤ m ∧ m ≤ 9223372036854775807)) (hc : CellAt w lc c) (ha : CellAt w la a) :
  Calls Tryz.prog 3 #[l.val, .agg #[.int .i64 k, .int .i64 m], .agg #[.int .u64 c.key, .int .i64 c.count, .slice lc.ai lc.ni lc.ci, .slice lc.an lc.nn lc.cn, .int .u64 a.key, .int .i64 a.count, .slice la.ai la.ni la.ci, .slice la.an la.nn la.cn]] w fun e w' => e = .returned (.bool true) ∧ Below w.heap.size w w' := by
 have HRL := Lib.hid (rel_lt hc s m)
 have HRE := Lib.hid (real_call s k m c hc.2.2.2.2.2.1)
 obtain ⟨ad, nd, cd, ai, ni, ci, an, nn, cn, av, nv, cv⟩ := l
 obtain ⟨ci1, cn1, cc1, ci2, cn2, cc2⟩ := lc
 obtain ⟨ai1, an1, ac1, ai2, an2, ac2⟩ := la
 obtain ⟨ck, hck⟩ : ∃ x, c.key = x := ⟨_, rfl⟩
 obtain ⟨cq, hcq⟩ : ∃ x, c.count = x := ⟨_, rfl⟩
 obtain ⟨ak, hak⟩ : ∃ x, a.key = x := ⟨_, rfl⟩
 obtain ⟨aq, haq⟩ : ∃ x, a.count = x := ⟨_, rfl⟩
 unfold SchL.val
 simp only
 rw [hck, hcq, hak, haq]
 have HV := Lib.hid (And.intro hck (And.intro hcq (And.intro hak haq)))
 obtain ⟨W, hW⟩ : ∃ W, allocs w [(#[.slice ad nd cd, .slice ai ni ci, .slice an nn cn, .slice av nv cv], 26), (#[.int .i64 k, .int .i64 m], 28), (#[.int .u64 ck, .int .i64 cq, .slice ci1 cn1 cc1, .slice ci2 cn2 cc2, .int .u64 ak, .int .i64 aq, .slice ai1 an1 ac1, .slice ai2 an2 ac2], 34)] = W := ⟨_, rfl⟩
 have hbk := fun i x hx => allocs_blk [(#[.slice ad nd cd, .slice ai ni ci, .slice an nn cn, .slice av nv cv], 26), (#[.int .i64 k, .int .i64 m], 28), (#[.int .u64 ck, .int .i64 cq, .slice ci1 cn1 cc1, .slice ci2 cn2 cc2, .int .u64 ak, .int .i64 aq, .slice ai1 an1 ac1, .slice ai2 an2 ac2], 34)] w i x hx
 obtain ⟨hbw, hsz⟩ := allocs_below [(#[.slice ad nd cd, .slice ai ni ci, .slice an nn cn, .slice av nv cv], 26), (#[.int .i64 k, .int .i64 m], 28), (#[.int .u64 ck, .int .i64 cq, .slice ci1 cn1 cc1, .slice ci2 cn2 cc2, .int .u64 ak, .int .i64 aq, .slice ai1 an1 ac1, .slice ai2 an2 ac2], 34)] w
 rw [hW] at hbk hbw hsz
 have b0 := hbk 0 _ rfl
 have b1 := hbk 1 _ rfl
 have b2 := hbk 2 _ rfl
 simp only [allocs] at hW
 have HS := Lib.hid (h.below hbw (Nat.le_refl _))
 have HC := Lib.hid (hc.below hbw (Nat.le_refl _))
 have HA := Lib.hid (ha.below hbw (Nat.le_refl _))
 have HBW := Lib.hid hbw
 have HKM := Lib.hid hkm
 have HK1 := Lib.hid b0
 have HK2 := Lib.hid b1
 have HK3 := Lib.hid b2
 have HSZ := Lib.hid (show W.heap.size = w.heap.size + 3 from hsz)
 have HW := Lib.hid hW
 clear h hc ha hkm hbw hbk hsz b0 b1 b2 hW hck hcq hak haq
 go_enter Tryz.func3, Tryz.ntmps3
 go_upto_region 1 with fail
 rw [HW.out]
 generalize W = w0 at *
 generalize hS : w.heap.size = S at *
 have HSS := Lib.hid hS
 clear hS HW
 have HB0 := Lib.hid (Below.refl (S + 3) w0)
 have x0 : w0.cell? ⟨S, 0, none⟩ = some (.slice ad nd cd) := (HK1.out.below HB0.out (by omega)).cell 0
 have x1 : w0.cell? ⟨S, 1, none⟩ = some (.slice ai ni ci) := (HK1.out.below HB0.out (by omega)).cell 1
 have x2 : w0.cell? ⟨S, 2, none⟩ = some (.slice an nn cn) := (HK1.out.below HB0.out (by omega)).cell 2
 have x3 : w0.cell? ⟨S, 3, none⟩ = some (.slice av nv cv) := (HK1.out.below HB0.out (by omega)).cell 3
 go_wp2_with fail
 refine (rlight_any _ ⟨ad, nd, cd, ai, ni, ci, an, nn, cn, av, nv, cv⟩ s (HS.out.below HB0.out (Nat.le_of_eq HSZ.out))).mono ?_; rintro e w1 ⟨b1, rfl, -, hb1⟩
 have HB1 := Lib.hid (HB0.out.trans (hb1.mono (Nat.le_of_eq HSZ.out.symm)))
 clear hb1
 clear x0 x1 x2 x3
 rcases b1 with _ | _
 ·go_wp2_with fail
  refine (awake_der _).mono ?_; rintro e w9 ⟨rfl, hb9⟩
  have HB9 := Lib.hid (HB1.out.trans (hb9.mono (by have := HB1.out.size; rw [HSZ.out] at this; exact this)))
  clear hb9
  go_wp2_with fail
  go_ret
  exact ⟨rfl, by rw [HSS.out]; exact HBW.out.trans (HB9.out.mono (Nat.le_add_right S 3))⟩
 have q0 : w1.cell? ⟨S + 2, 0, none⟩ = some (.int .u64 ck) := (HK3.out.below HB1.out (by omega)).cell 0
 have q1 : w1.cell? ⟨S + 2, 1, none⟩ = some (.int .i64 cq) := (HK3.out.below HB1.out (by omega)).cell 1
 have q2 : w1.cell? ⟨S + 2, 2, none⟩ = some (.slice ci1 cn1 cc1) := (HK3.out.below HB1.out (by omega)).cell 2
 have q3 : w1.cell? ⟨S + 2, 3, none⟩ = some (.slice ci2 cn2 cc2) := (HK3.out.below HB1.out (by omega)).cell 3
 have q4 : w1.cell? ⟨S + 2, 4, none⟩ = some (.int .u64 ak) := (HK3.out.below HB1.out (by omega)).cell 4
 have q5 : w1.cell? ⟨S + 2, 5, none⟩ = some (.int .i64 aq) := (HK3.out.below HB1.out (by omega)).cell 5
 have q6 : w1.cell? ⟨S + 2, 6, none⟩ = some (.slice ai1 an1 ac1) := (HK3.out.below HB1.out (by omega)).cell 6
 have q7 : w1.cell? ⟨S + 2, 7, none⟩ = some (.slice ai2 an2 ac2) := (HK3.out.below HB1.out (by omega)).cell 7
 have HCALL := Lib.hid (clight_any w1 ⟨ci1, cn1, cc1, ci2, cn2, cc2⟩ c (HC.out.below HB1.out (Nat.le_of_eq HSZ.out)))
 unfold CellL.val at HCALL
 simp only at HCALL
 rw [HV.out.1, HV.out.2.1] at HCALL
 go_wp2_with fail
 refine (HCALL.out).mono ?_; rintro e w2 ⟨b1, rfl, hlc0, hb1⟩
 have HB2 := Lib.hid (HB1.out.trans (hb1.mono (by have := HB1.out.size; rw [HSZ.out] at this; exact this)))
 have HLC0 := Lib.hid hlc0
 clear hb1 hlc0 HCALL
 clear q0 q1 q2 q3 q4 q5 q6 q7
 rcases b1 with _ | _
 ·go_wp2_with fail
  refine (awake_der _).mono ?_; rintro e w9 ⟨rfl, hb9⟩
  have HB9 := Lib.hid (HB2.out.trans (hb9.mono (by have := HB2.out.size; rw [HSZ.out] at this; exact this)))
  clear hb9
  go_wp2_with fail
  go_ret
  exact ⟨rfl, by rw [HSS.out]; exact HBW.out.trans (HB9.out.mono (Nat.le_add_right S 3))⟩
 have q0 : w2.cell? ⟨S + 2, 0, none⟩ = some (.int .u64 ck) := (HK3.out.below HB2.out (by omega)).cell 0
 have q1 : w2.cell? ⟨S + 2, 1, none⟩ = some (.int .i64 cq) := (HK3.out.below HB2.out (by omega)).cell 1
 have q2 : w2.cell? ⟨S + 2, 2, none⟩ = some (.slice ci1 cn1 cc1) := (HK3.out.below HB2.out (by omega)).cell 2
 have q3 : w2.cell? ⟨S + 2, 3, none⟩ = some (.slice ci2 cn2 cc2) := (HK3.out.below HB2.out (by omega)).cell 3
 have q4 : w2.cell? ⟨S + 2, 4, none⟩ = some (.int .u64 ak) := (HK3.out.below HB2.out (by omega)).cell 4
 have q5 : w2.cell? ⟨S + 2, 5, none⟩ = some (.int .i64 aq) := (HK3.out.below HB2.out (by omega)).cell 5
 have q6 : w2.cell? ⟨S + 2, 6, none⟩ = some (.slice ai1 an1 ac1) := (HK3.out.below HB2.out (by omega)).cell 6
 have q7 : w2.cell? ⟨S + 2, 7, none⟩ = some (.slice ai2 an2 ac2) := (HK3.out.below HB2.out (by omega)).cell 7
 have HCALL := Lib.hid (clight_any w2 ⟨ai1, an1, ac1, ai2, an2, ac2⟩ a (HA.out.below HB2.out (Nat.le_of_eq HSZ.out)))
 unfold CellL.val at HCALL
 simp only at HCALL
 rw [HV.out.2.2.1, HV.out.2.2.2] at HCALL
 go_wp2_with fail
 refine (HCALL.out).mono ?_; rintro e w3 ⟨b1, rfl, hlc1, hb1⟩
 have HB3 := Lib.hid (HB2.out.trans (hb1.mono (by have := HB2.out.size; rw [HSZ.out] at this; exact this)))
 have HLC1 := Lib.hid hlc1
 clear hb1 hlc1 HCALL
 clear q0 q1 q2 q3 q4 q5 q6 q7
 rcases b1 with _ | _
 ·go_wp2_with fail
  refine (awake_der _).mono ?_; rintro e w9 ⟨rfl, hb9⟩
  have HB9 := Lib.hid (HB3.out.trans (hb9.mono (by have := HB3.out.size; rw [HSZ.out] at this; exact this)))
  clear hb9
  go_wp2_with fail
  go_ret
  exact ⟨rfl, by rw [HSS.out]; exact HBW.out.trans (HB9.out.mono (Nat.le_add_right S 3))⟩
 have HL0 : Hid (LightC c) := Lib.hid (HLC0.out (by trivial))
 clear HLC0 HLC1
 have x0 : w3.cell? ⟨S, 0, none⟩ = some (.slice ad nd cd) := (HK1.out.below HB3.out (by omega)).cell 0
 have x1 : w3.cell? ⟨S, 1, none⟩ = some (.slice ai ni ci) := (HK1.out.below HB3.out (by omega)).cell 1
 have x2 : w3.cell? ⟨S, 2, none⟩ = some (.slice an nn cn) := (HK1.out.below HB3.out (by omega)).cell 2
 have x3 : w3.cell? ⟨S, 3, none⟩ = some (.slice av nv cv) := (HK1.out.below HB3.out (by omega)).cell 3
 have y0 : w3.cell? ⟨S + 1, 0, none⟩ = some (.int .i64 k) := (HK2.out.below HB3.out (by omega)).cell 0
 have y1 : w3.cell? ⟨S + 1, 1, none⟩ = some (.int .i64 m) := (HK2.out.below HB3.out (by omega)).cell 1
 have q0 : w3.cell? ⟨S + 2, 0, none⟩ = some (.int .u64 ck) := (HK3.out.below HB3.out (by omega)).cell 0
 have q1 : w3.cell? ⟨S + 2, 1, none⟩ = some (.int .i64 cq) := (HK3.out.below HB3.out (by omega)).cell 1
 have q2 : w3.cell? ⟨S + 2, 2, none⟩ = some (.slice ci1 cn1 cc1) := (HK3.out.below HB3.out (by omega)).cell 2
 have q3 : w3.cell? ⟨S + 2, 3, none⟩ = some (.slice ci2 cn2 cc2) := (HK3.out.below HB3.out (by omega)).cell 3
 have q4 : w3.cell? ⟨S + 2, 4, none⟩ = some (.int .u64 ak) := (HK3.out.below HB3.out (by omega)).cell 4
 have q5 : w3.cell? ⟨S + 2, 5, none⟩ = some (.int .i64 aq) := (HK3.out.below HB3.out (by omega)).cell 5
 have q6 : w3.cell? ⟨S + 2, 6, none⟩ = some (.slice ai1 an1 ac1) := (HK3.out.below HB3.out (by omega)).cell 6
 have q7 : w3.cell? ⟨S + 2, 7, none⟩ = some (.slice ai2 an2 ac2) := (HK3.out.below HB3.out (by omega)).cell 7
 have HCALL := Lib.hid (dvalue_any w3 ⟨ad, nd, cd, ai, ni, ci, an, nn, cn, av, nv, cv⟩ s k m ⟨ci1, cn1, cc1, ci2, cn2, cc2⟩ ⟨ai1, an1, ac1, ai2, an2, ac2⟩ c a (rvOf s k m c) (HS.out.below HB3.out (Nat.le_of_eq HSZ.out)) HKM.out.1 HKM.out.2 (HC.out.below HB3.out (Nat.le_of_eq HSZ.out)) (HA.out.below HB3.out (Nat.le_of_eq HSZ.out)) (Lib.hid HL0.out.1) HRE.out)
 unfold SchL.val CellL.val at HCALL
 simp only at HCALL
 rw [HV.out.1, HV.out.2.1, HV.out.2.2.1, HV.out.2.2.2] at HCALL
 go_wp2_with fail
 refine (HCALL.out).mono ?_; rintro e w4 ⟨r1, n1, z1, k1, rfl, hP1, hb4⟩
 have HP1 := Lib.hid hP1
 have hb5 := HB3.out.trans (hb4.mono (by have := HB3.out.size; rw [HSZ.out] at this; exact this))
 have HVB1 := Lib.hid (Blk.new w4 40 #[.bool r1, .int .i64 n1, .float .f64 z1])
 have HB5 := Lib.hid (hb5.alloc (by have := hb5.size; rw [HSZ] at this; exact this) (.cells #[.bool r1, .int .i64 n1, .float .f64 z1] 40))
 clear hP1 hb4 hb5 HCALL
 clear x0 x1 x2 x3 y0 y1 q0 q1 q2 q3 q4 q5 q6 q7
 go_upto_region 4 with fail
 generalize (w4.alloc (.cells #[.bool r1, .int .i64 n1, .float .f64 z1] 40)) = w5 at *
 generalize w4.heap.size = U1 at *
 have x0 : w5.cell? ⟨S, 0, none⟩ = some (.slice ad nd cd) := (HK1.out.below HB5.out (by omega)).cell 0
 have x1 : w5.cell? ⟨S, 1, none⟩ = some (.slice ai ni ci) := (HK1.out.below HB5.out (by omega)).cell 1
 have x2 : w5.cell? ⟨S, 2, none⟩ = some (.slice an nn cn) := (HK1.out.below HB5.out (by omega)).cell 2
 have x3 : w5.cell? ⟨S, 3, none⟩ = some (.slice av nv cv) := (HK1.out.below HB5.out (by omega)).cell 3
 have y0 : w5.cell? ⟨S + 1, 0, none⟩ = some (.int .i64 k) := (HK2.out.below HB5.out (by omega)).cell 0
 have y1 : w5.cell? ⟨S + 1, 1, none⟩ = some (.int .i64 m) := (HK2.out.below HB5.out (by omega)).cell 1
 have q0 : w5.cell? ⟨S + 2, 0, none⟩ = some (.int .u64 ck) := (HK3.out.below HB5.out (by omega)).cell 0
 have q1 : w5.cell? ⟨S + 2, 1, none⟩ = some (.int .i64 cq) := (HK3.out.below HB5.out (by omega)).cell 1
 have q2 : w5.cell? ⟨S + 2, 2, none⟩ = some (.slice ci1 cn1 cc1) := (HK3.out.below HB5.out (by omega)).cell 2
 have q3 : w5.cell? ⟨S + 2, 3, none⟩ = some (.slice ci2 cn2 cc2) := (HK3.out.below HB5.out (by omega)).cell 3
 have q4 : w5.cell? ⟨S + 2, 4, none⟩ = some (.int .u64 ak) := (HK3.out.below HB5.out (by omega)).cell 4
 have q5 : w5.cell? ⟨S + 2, 5, none⟩ = some (.int .i64 aq) := (HK3.out.below HB5.out (by omega)).cell 5
 have q6 : w5.cell? ⟨S + 2, 6, none⟩ = some (.slice ai1 an1 ac1) := (HK3.out.below HB5.out (by omega)).cell 6
 have q7 : w5.cell? ⟨S + 2, 7, none⟩ = some (.slice ai2 an2 ac2) := (HK3.out.below HB5.out (by omega)).cell 7
 have HCALL := Lib.hid (rdvalue_any w5 ⟨ad, nd, cd, ai, ni, ci, an, nn, cn, av, nv, cv⟩ s k m ⟨ci1, cn1, cc1, ci2, cn2, cc2⟩ ⟨ai1, an1, ac1, ai2, an2, ac2⟩ c a (HS.out.below HB5.out (Nat.le_of_eq HSZ.out)) HKM.out.1 HKM.out.2 (HC.out.below HB5.out (Nat.le_of_eq HSZ.out)) (HA.out.below HB5.out (Nat.le_of_eq HSZ.out)) (Lib.hid HL0.out.1))
 unfold SchL.val CellL.val at HCALL
 simp only at HCALL
 rw [HV.out.1, HV.out.2.1, HV.out.2.2.1, HV.out.2.2.2] at HCALL
 go_wp2_with fail
 refine (HCALL.out).mono ?_; rintro e w6 ⟨r2, n2, z2, k2, rfl, hP2, hb4⟩
 have HP2 := Lib.hid hP2
 have hb5 := HB5.out.trans (hb4.mono (by have := HB5.out.size; rw [HSZ.out] at this; exact this))
 have HVB2 := Lib.hid (Blk.new w6 40 #[.bool r2, .int .i64 n2, .float .f64 z2])
 have HVB1' := Lib.hid ((HVB1.out.below hb4 HVB1.out.lt).alloc (.cells #[.bool r2, .int .i64 n2, .float .f64 z2] 40))
 have HB7 := Lib.hid (hb5.alloc (by have := hb5.size; rw [HSZ] at this; exact this) (.cells #[.bool r2, .int .i64 n2, .float .f64 z2] 40))
 clear hP2 hb4 hb5 HCALL
 clear x0 x1 x2 x3 y0 y1 q0 q1 q2 q3 q4 q5 q6 q7
 go_upto_region 5 with fail
 generalize (w6.alloc (.cells #[.bool r2, .int .i64 n2, .float .f64 z2] 40)) = w7 at *
 generalize w6.heap.size = U2 at *
 obtain ⟨hk12, hvs, hr0, hr1⟩ := HP1.out.same HP2.out
 have hz1 := HP1.out.lt HRL.out
 have hz2 := HP2.out.lt HRL.out
 obtain rfl := hk12
 have HVS := Lib.hid (fun w => vsame_any r1 r2 n1 n2 z1 z2 w hz1 hz2)
 rw [hvs] at HVS
 have HR0 := Lib.hid hr0
 have HR1 := Lib.hid hr1
 clear hvs hr0 hr1 hz1 hz2
 have hkk : ((k1 : Int) != (k1 : Int)) = false := by simp
 obtain ⟨Z, hZ⟩ : ∃ b, (FloatKind.f64.format.order z1 0 != some .eq) = b := ⟨_, rfl⟩
 obtain ⟨Y, hY⟩ : ∃ b, (n1 != 0) = b := ⟨_, rfl⟩
 have HZ0 : Hid (r1 = false → Z = false) := Lib.hid (fun h => by rw [← hZ, HR0.out h]; decide)
 have HY0 : Hid (r1 = true → Y = false) := Lib.hid (fun h => by rw [← hY, HR1.out h]; decide)
 have a0 : w7.cell? ⟨U1, 0, none⟩ = some (.bool r1) := HVB1'.out.cell 0
 have a1 : w7.cell? ⟨U1, 1, none⟩ = some (.int .i64 n1) := HVB1'.out.cell 1
 have a2 : w7.cell? ⟨U1, 2, none⟩ = some (.float .f64 z1) := HVB1'.out.cell 2
 have b0 : w7.cell? ⟨U2, 0, none⟩ = some (.bool r2) := HVB2.out.cell 0
 have b1 : w7.cell? ⟨U2, 1, none⟩ = some (.int .i64 n2) := HVB2.out.cell 1
 have b2 : w7.cell? ⟨U2, 2, none⟩ = some (.float .f64 z2) := HVB2.out.cell 2
 have hU1 : U1 < w7.heap.size := HVB1'.out.lt
 go_wp2_with fail
 refine (HVS.out _).mono ?_; rintro e w8 ⟨rfl, hb8⟩
 clear a0 a1 a2 b0 b1 b2
 have a0 : w8.cell? ⟨U1, 0, none⟩ = some (.bool r1) := (HVB1'.out.below hb8 hU1).cell 0
 have a1 : w8.cell? ⟨U1, 1, none⟩ = some (.int .i64 n1) := (HVB1'.out.below hb8 hU1).cell 1
 have a2 : w8.cell? ⟨U1, 2, none⟩ = some (.float .f64 z1) := (HVB1'.out.below hb8 hU1).cell 2
 have HB8 := Lib.hid (HB7.out.trans (hb8.mono (by have := HB7.out.size; rw [HSZ.out] at this; exact this)))
 clear hb8 hU1
 have x0 : w8.cell? ⟨S, 0, none⟩ = some (.slice ad nd cd) := (HK1.out.below HB8.out (by omega)).cell 0
 have x1 : w8.cell? ⟨S, 1, none⟩ = some (.slice ai ni ci) := (HK1.out.below HB8.out (by omega)).cell 1
 have x2 : w8.cell? ⟨S, 2, none⟩ = some (.slice an nn cn) := (HK1.out.below HB8.out (by omega)).cell 2
 have x3 : w8.cell? ⟨S, 3, none⟩ = some (.slice av nv cv) := (HK1.out.below HB8.out (by omega)).cell 3
 have y0 : w8.cell? ⟨S + 1, 0, none⟩ = some (.int .i64 k) := (HK2.out.below HB8.out (by omega)).cell 0
 have y1 : w8.cell? ⟨S + 1, 1, none⟩ = some (.int .i64 m) := (HK2.out.below HB8.out (by omega)).cell 1
 obtain ⟨K, hK⟩ : ∃ K, chkS s = K := ⟨_, rfl⟩
 have HK := Lib.hid hK
 have HCK := Lib.hid (rchk_any w8 ⟨ad, nd, cd, ai, ni, ci, an, nn, cn, av, nv, cv⟩ s (HS.out.below HB8.out (Nat.le_of_eq HSZ.out)))
 unfold RChk at HCK
 rw [hK] at HCK
 clear hK
 rcases r1 with _ | _
 ·obtain rfl := HZ0.out rfl
  clear HZ0 HY0
  go_wp2_with fail
  refine (HCK.out).mono ?_; rintro e w10 ⟨rfl, hb10⟩
  have HB10 := Lib.hid (HB8.out.trans (hb10.mono (by have := HB8.out.size; rw [HSZ.out] at this; exact this)))
  clear hb10 a0 a1 a2 hZ hY hkk
  clear x0 x1 x2 x3 y0 y1
  by_cases hk0 : K = 0
  case neg =>
   have t0 : ((K : Int) != 0) = true := by simp; omega
   have HKN := Lib.hid hk0
   clear hk0
   have HDR := Lib.hid (fun w' (h1 : SchAt w' ⟨ad, nd, cd, ai, ni, ci, an, nn, cn, av, nv, cv⟩ s) => dkind_any w' _ s k m h1 HKM.out.1 HKM.out.2)
   have hrb : realB s k m = false := by unfold realB mayB; rw [decide_eq_false (by rw [HK.out]; exact HKN.out)]; rfl
   rw [hrb] at HDR
   clear hrb
   have x0 : w10.cell? ⟨S, 0, none⟩ = some (.slice ad nd cd) := (HK1.out.below HB10.out (by omega)).cell 0
   have x1 : w10.cell? ⟨S, 1, none⟩ = some (.slice ai ni ci) := (HK1.out.below HB10.out (by omega)).cell 1
   have x2 : w10.cell? ⟨S, 2, none⟩ = some (.slice an nn cn) := (HK1.out.below HB10.out (by omega)).cell 2
   have x3 : w10.cell? ⟨S, 3, none⟩ = some (.slice av nv cv) := (HK1.out.below HB10.out (by omega)).cell 3
   have y0 : w10.cell? ⟨S + 1, 0, none⟩ = some (.int .i64 k) := (HK2.out.below HB10.out (by omega)).cell 0
   have y1 : w10.cell? ⟨S + 1, 1, none⟩ = some (.int .i64 m) := (HK2.out.below HB10.out (by omega)).cell 1
   go_wp2_with fail
   refine (HDR.out _ (HS.out.below HB10.out (Nat.le_of_eq HSZ.out))).mono ?_; rintro e w11 ⟨rfl, hbn⟩
   have HB11 := Lib.hid (HB10.out.trans (hbn.mono (by have := HB10.out.size; rw [HSZ.out] at this; exact this)))
   clear hbn
   clear x0 x1 x2 x3 y0 y1
   go_wp2_with fail
   refine (awake_der _).mono ?_; rintro e w9 ⟨rfl, hb9⟩
   have HB9 := Lib.hid (HB11.out.trans (hb9.mono (by have := HB11.out.size; rw [HSZ.out] at this; exact this)))
   clear hb9
   go_wp2_with fail
   go_ret
   exact ⟨rfl, by rw [HSS.out]; exact HBW.out.trans (HB9.out.mono (Nat.le_add_right S 3))⟩
  subst hk0
  obtain ⟨d1, d2, d3, d4⟩ := chk_dims HK.out
  have x0 : w10.cell? ⟨S, 0, none⟩ = some (.slice ad nd cd) := (HK1.out.below HB10.out (by omega)).cell 0
  have x1 : w10.cell? ⟨S, 1, none⟩ = some (.slice ai ni ci) := (HK1.out.below HB10.out (by omega)).cell 1
  have x2 : w10.cell? ⟨S, 2, none⟩ = some (.slice an nn cn) := (HK1.out.below HB10.out (by omega)).cell 2
  have x3 : w10.cell? ⟨S, 3, none⟩ = some (.slice av nv cv) := (HK1.out.below HB10.out (by omega)).cell 3
  have y0 : w10.cell? ⟨S + 1, 0, none⟩ = some (.int .i64 k) := (HK2.out.below HB10.out (by omega)).cell 0
  have y1 : w10.cell? ⟨S + 1, 1, none⟩ = some (.int .i64 m) := (HK2.out.below HB10.out (by omega)).cell 1
  obtain ⟨MB, hMB⟩ : ∃ b, colB s.ints.length s.nums.length k m = b := ⟨_, rfl⟩
  have HMB := Lib.hid hMB
  have HCALL := Lib.hid (rcolumn_any w10 ⟨ad, nd, cd, ai, ni, ci, an, nn, cn, av, nv, cv⟩ s k m (HS.out.below HB10.out (Nat.le_of_eq HSZ.out)) HKM.out.1 HKM.out.2 (by omega) (by omega))
  rw [hMB] at HCALL
  clear hMB d1 d2 d3 d4
  go_wp2_with fail
  refine (HCALL.out).mono ?_; rintro e w11 ⟨rfl, hb11⟩
  have HB11 := Lib.hid (HB10.out.trans (hb11.mono (by have := HB10.out.size; rw [HSZ.out] at this; exact this)))
  clear hb11 HCALL
  clear x0 x1 x2 x3 y0 y1
  rcases MB with _ | _
  ·have HDR := Lib.hid (fun w' (h1 : SchAt w' ⟨ad, nd, cd, ai, ni, ci, an, nn, cn, av, nv, cv⟩ s) => dkind_any w' _ s k m h1 HKM.out.1 HKM.out.2)
   have hrb : realB s k m = false := by unfold realB mayB; rw [HMB.out]; simp
   rw [hrb] at HDR
   clear hrb
   have x0 : w11.cell? ⟨S, 0, none⟩ = some (.slice ad nd cd) := (HK1.out.below HB11.out (by omega)).cell 0
   have x1 : w11.cell? ⟨S, 1, none⟩ = some (.slice ai ni ci) := (HK1.out.below HB11.out (by omega)).cell 1
   have x2 : w11.cell? ⟨S, 2, none⟩ = some (.slice an nn cn) := (HK1.out.below HB11.out (by omega)).cell 2
   have x3 : w11.cell? ⟨S, 3, none⟩ = some (.slice av nv cv) := (HK1.out.below HB11.out (by omega)).cell 3
   have y0 : w11.cell? ⟨S + 1, 0, none⟩ = some (.int .i64 k) := (HK2.out.below HB11.out (by omega)).cell 0
   have y1 : w11.cell? ⟨S + 1, 1, none⟩ = some (.int .i64 m) := (HK2.out.below HB11.out (by omega)).cell 1
   go_wp2_with fail
   refine (HDR.out _ (HS.out.below HB11.out (Nat.le_of_eq HSZ.out))).mono ?_; rintro e w12 ⟨rfl, hbn⟩
   have HB12 := Lib.hid (HB11.out.trans (hbn.mono (by have := HB11.out.size; rw [HSZ.out] at this; exact this)))
   clear hbn
   clear x0 x1 x2 x3 y0 y1
   go_wp2_with fail
   refine (awake_der _).mono ?_; rintro e w9 ⟨rfl, hb9⟩
   have HB9 := Lib.hid (HB12.out.trans (hb9.mono (by have := HB12.out.size; rw [HSZ.out] at this; exact this)))
   clear hb9
   go_wp2_with fail
   go_ret
   exact ⟨rfl, by rw [HSS.out]; exact HBW.out.trans (HB9.out.mono (Nat.le_add_right S 3))⟩
  ·have HDR := Lib.hid (fun w' (h1 : SchAt w' ⟨ad, nd, cd, ai, ni, ci, an, nn, cn, av, nv, cv⟩ s) => dkind_any w' _ s k m h1 HKM.out.1 HKM.out.2)
   have HRR := Lib.hid (fun w' (h1 : SchAt w' ⟨ad, nd, cd, ai, ni, ci, an, nn, cn, av, nv, cv⟩ s) => rreal_any w' _ s k m h1 HKM.out.1 HKM.out.2)
   have hrr : realB s k m = rrealB s k m := real_same HK.out HMB.out
   rw [hrr] at HDR
   clear hrr
   obtain ⟨RB, hRB⟩ : ∃ b, rrealB s k m = b := ⟨_, rfl⟩
   rw [hRB] at HDR HRR
   clear hRB
   have hBB : (RB == RB) = true := by simp
   go_upto_region 9 with fail
   have HB11d := Lib.hid HB11.out.drew
   refine wp_regionN (fun w' => w'.cell? ⟨S, 0, none⟩ = some (.slice ad nd cd) ∧ w'.cell? ⟨S, 1, none⟩ = some (.slice ai ni ci) ∧ w'.cell? ⟨S, 2, none⟩ = some (.slice an nn cn) ∧ w'.cell? ⟨S, 3, none⟩ = some (.slice av nv cv) ∧ w'.cell? ⟨S + 1, 0, none⟩ = some (.int .i64 k) ∧ w'.cell? ⟨S + 1, 1, none⟩ = some (.int .i64 m)) [] (by kernel_rfl) (by exact ⟨(HK1.out.below HB11.out (by omega)).cell 0, (HK1.out.below HB11.out (by omega)).cell 1, (HK1.out.below HB11.out (by omega)).cell 2, (HK1.out.below HB11.out (by omega)).cell 3, (HK2.out.below HB11.out (by omega)).cell 0, (HK2.out.below HB11.out (by omega)).cell 1⟩) (fun hHeld => ?_)
   refine wpAnyN_t 0 ⟨some 91, _, _, _, _, _⟩ ?_ rfl ?_ ?_
   rotate_left 1
   ·(intro w hSw; (try dsimp only at hSw); go_simp; try with_reducible rfl)
   try simp only [Act.put, putA, putB, putC]
   refine wpAnyN_t 1 ⟨some 92, _, _, _, _, _⟩ ?_ rfl ?_ ?_
   rotate_left 1
   ·(intro w hSw; (try dsimp only at hSw); go_simp; try with_reducible rfl)
   try simp only [Act.put, putA, putB, putC]
   refine wpAnyN_t 3 ⟨some 94, _, _, _, _, _⟩ ?_ rfl ?_ ?_
   rotate_left 1
   ·(intro w hSw; (try dsimp only at hSw); go_simp; try with_reducible rfl)
   try simp only [Act.put, putA, putB, putC]
   refine wpAnyN_t 4 ⟨some 95, _, _, _, _, _⟩ ?_ rfl ?_ ?_
   rotate_left 1
   ·(intro w hSw; (try dsimp only at hSw); go_simp; try with_reducible rfl)
   try simp only [Act.put, putA, putB, putC]
   refine wpAnyN_one (i := 2) (o := ⟨some 93, _, _, _, _, _⟩) (by kernel_rfl) rfl (fun K hK => ?_)
   go_simp
   refine (HDR.out _ (HS.out.below HB11d.out (Nat.le_of_eq HSZ.out))).mono ?_
   rintro e w12 ⟨rfl, hbb⟩
   have HB12 := Lib.hid (HB11d.out.trans (hbb.mono (by have := HB11d.out.size; rw [HSZ.out] at this; exact this)))
   clear hbb
   refine hK.out _ _ (by exact ⟨(HK1.out.below HB12.out (by omega)).cell 0, (HK1.out.below HB12.out (by omega)).cell 1, (HK1.out.below HB12.out (by omega)).cell 2, (HK1.out.below HB12.out (by omega)).cell 3, (HK2.out.below HB12.out (by omega)).cell 0, (HK2.out.below HB12.out (by omega)).cell 1⟩) ?_
   clear hK K hHeld
   intro hHeld
   try simp only [Act.put, putA, putB, putC]
   refine wpAnyN_one (i := 5) (o := ⟨some 96, _, _, _, _, _⟩) (by kernel_rfl) rfl (fun K hK => ?_)
   go_simp
   refine (HRR.out _ (HS.out.below HB12.out (Nat.le_of_eq HSZ.out))).mono ?_
   rintro e w13 ⟨rfl, hbb⟩
   have HB13 := Lib.hid (HB12.out.trans (hbb.mono (by have := HB12.out.size; rw [HSZ.out] at this; exact this)))
   clear hbb
   refine hK.out _ _ (by exact ⟨(HK1.out.below HB13.out (by omega)).cell 0, (HK1.out.below HB13.out (by omega)).cell 1, (HK1.out.below HB13.out (by omega)).cell 2, (HK1.out.below HB13.out (by omega)).cell 3, (HK2.out.below HB13.out (by omega)).cell 0, (HK2.out.below HB13.out (by omega)).cell 1⟩) ?_
   clear hK K hHeld
   intro hHeld
   try simp only [Act.put, putA, putB, putC]
   refine wpAnyN_t 6 ⟨some 97, _, _, _, _, _⟩ ?_ rfl ?_ ?_
   rotate_left 1
   ·(intro w hSw; (try dsimp only at hSw); go_simp; try with_reducible rfl)
   try simp only [Act.put, putA, putB, putC]
   refine wpAnyN_t 7 ⟨some 98, _, _, _, _, _⟩ ?_ rfl ?_ ?_
   rotate_left 1
   ·(intro w hSw; (try dsimp only at hSw); go_simp; try with_reducible rfl)
   try simp only [Act.put, putA, putB, putC]
   refine wpAnyN_one (i := 8) (o := ⟨some 99, _, _, _, _, _⟩) (by kernel_rfl) rfl (fun K hK => ?_)
   go_simp
   refine (awake_der _).mono ?_
   rintro e w14 ⟨rfl, hbb⟩
   have HB14 := Lib.hid (HB13.out.trans (hbb.mono (by have := HB13.out.size; rw [HSZ.out] at this; exact this)))
   clear hbb
   refine hK.out _ _ (by exact ⟨(HK1.out.below HB14.out (by omega)).cell 0, (HK1.out.below HB14.out (by omega)).cell 1, (HK1.out.below HB14.out (by omega)).cell 2, (HK1.out.below HB14.out (by omega)).cell 3, (HK2.out.below HB14.out (by omega)).cell 0, (HK2.out.below HB14.out (by omega)).cell 1⟩) ?_
   clear hK K hHeld
   intro hHeld
   try simp only [Act.put, putA, putB, putC]
   refine wpAnyN_t 9 ⟨some 100, _, _, _, _, _⟩ ?_ rfl ?_ ?_
   rotate_left 1
   ·(intro w hSw; (try dsimp only at hSw); go_simp; try with_reducible rfl)
   try simp only [Act.put, putA, putB, putC]
   refine wpAnyN_t 10 ⟨some 6, _, _, _, _, _⟩ ?_ rfl ?_ ?_
   rotate_left 1
   ·(intro w hSw; (try dsimp only at hSw); go_simp; try with_reducible rfl)
   try simp only [Act.put, putA, putB, putC]
   refine wpAnyN_end (by kernel_rfl) ?_
   go_wp2_with fail
   go_ret
   exact ⟨rfl, by rw [HSS.out]; exact HBW.out.trans (HB14.out.mono (Nat.le_add_right S 3))⟩
 ·obtain rfl := HY0.out rfl
  clear HZ0 HY0
  go_wp2_with fail
  refine (HCK.out).mono ?_; rintro e w10 ⟨rfl, hb10⟩
  have HB10 := Lib.hid (HB8.out.trans (hb10.mono (by have := HB8.out.size; rw [HSZ.out] at this; exact this)))
  clear hb10 a0 a1 a2 hZ hY hkk
  clear x0 x1 x2 x3 y0 y1
  by_cases hk0 : K = 0
  case neg =>
   have t0 : ((K : Int) != 0) = true := by simp; omega
   have HKN := Lib.hid hk0
   clear hk0
   have HDR := Lib.hid (fun w' (h1 : SchAt w' ⟨ad, nd, cd, ai, ni, ci, an, nn, cn, av, nv, cv⟩ s) => dkind_any w' _ s k m h1 HKM.out.1 HKM.out.2)
   have hrb : realB s k m = false := by unfold realB mayB; rw [decide_eq_false (by rw [HK.out]; exact HKN.out)]; rfl
   rw [hrb] at HDR
   clear hrb
   have x0 : w10.cell? ⟨S, 0, none⟩ = some (.slice ad nd cd) := (HK1.out.below HB10.out (by omega)).cell 0
   have x1 : w10.cell? ⟨S, 1, none⟩ = some (.slice ai ni ci) := (HK1.out.below HB10.out (by omega)).cell 1
   have x2 : w10.cell? ⟨S, 2, none⟩ = some (.slice an nn cn) := (HK1.out.below HB10.out (by omega)).cell 2
   have x3 : w10.cell? ⟨S, 3, none⟩ = some (.slice av nv cv) := (HK1.out.below HB10.out (by omega)).cell 3
   have y0 : w10.cell? ⟨S + 1, 0, none⟩ = some (.int .i64 k) := (HK2.out.below HB10.out (by omega)).cell 0
   have y1 : w10.cell? ⟨S + 1, 1, none⟩ = some (.int .i64 m) := (HK2.out.below HB10.out (by omega)).cell 1
   go_wp2_with fail
   refine (HDR.out _ (HS.out.below HB10.out (Nat.le_of_eq HSZ.out))).mono ?_; rintro e w11 ⟨rfl, hbn⟩
   have HB11 := Lib.hid (HB10.out.trans (hbn.mono (by have := HB10.out.size; rw [HSZ.out] at this; exact this)))
   clear hbn
   clear x0 x1 x2 x3 y0 y1
   go_wp2_with fail
   refine (awake_der _).mono ?_; rintro e w9 ⟨rfl, hb9⟩
   have HB9 := Lib.hid (HB11.out.trans (hb9.mono (by have := HB11.out.size; rw [HSZ.out] at this; exact this)))
   clear hb9
   go_wp2_with fail
   go_ret
   exact ⟨rfl, by rw [HSS.out]; exact HBW.out.trans (HB9.out.mono (Nat.le_add_right S 3))⟩
  subst hk0
  obtain ⟨d1, d2, d3, d4⟩ := chk_dims HK.out
  have x0 : w10.cell? ⟨S, 0, none⟩ = some (.slice ad nd cd) := (HK1.out.below HB10.out (by omega)).cell 0
  have x1 : w10.cell? ⟨S, 1, none⟩ = some (.slice ai ni ci) := (HK1.out.below HB10.out (by omega)).cell 1
  have x2 : w10.cell? ⟨S, 2, none⟩ = some (.slice an nn cn) := (HK1.out.below HB10.out (by omega)).cell 2
  have x3 : w10.cell? ⟨S, 3, none⟩ = some (.slice av nv cv) := (HK1.out.below HB10.out (by omega)).cell 3
  have y0 : w10.cell? ⟨S + 1, 0, none⟩ = some (.int .i64 k) := (HK2.out.below HB10.out (by omega)).cell 0
  have y1 : w10.cell? ⟨S + 1, 1, none⟩ = some (.int .i64 m) := (HK2.out.below HB10.out (by omega)).cell 1
  obtain ⟨MB, hMB⟩ : ∃ b, colB s.ints.length s.nums.length k m = b := ⟨_, rfl⟩
  have HMB := Lib.hid hMB
  have HCALL := Lib.hid (rcolumn_any w10 ⟨ad, nd, cd, ai, ni, ci, an, nn, cn, av, nv, cv⟩ s k m (HS.out.below HB10.out (Nat.le_of_eq HSZ.out)) HKM.out.1 HKM.out.2 (by omega) (by omega))
  rw [hMB] at HCALL
  clear hMB d1 d2 d3 d4
  go_wp2_with fail
  refine (HCALL.out).mono ?_; rintro e w11 ⟨rfl, hb11⟩
  have HB11 := Lib.hid (HB10.out.trans (hb11.mono (by have := HB10.out.size; rw [HSZ.out] at this; exact this)))
  clear hb11 HCALL
  clear x0 x1 x2 x3 y0 y1
  rcases MB with _ | _
  ·have HDR := Lib.hid (fun w' (h1 : SchAt w' ⟨ad, nd, cd, ai, ni, ci, an, nn, cn, av, nv, cv⟩ s) => dkind_any w' _ s k m h1 HKM.out.1 HKM.out.2)
   have hrb : realB s k m = false := by unfold realB mayB; rw [HMB.out]; simp
   rw [hrb] at HDR
   clear hrb
   have x0 : w11.cell? ⟨S, 0, none⟩ = some (.slice ad nd cd) := (HK1.out.below HB11.out (by omega)).cell 0
   have x1 : w11.cell? ⟨S, 1, none⟩ = some (.slice ai ni ci) := (HK1.out.below HB11.out (by omega)).cell 1
   have x2 : w11.cell? ⟨S, 2, none⟩ = some (.slice an nn cn) := (HK1.out.below HB11.out (by omega)).cell 2
   have x3 : w11.cell? ⟨S, 3, none⟩ = some (.slice av nv cv) := (HK1.out.below HB11.out (by omega)).cell 3
   have y0 : w11.cell? ⟨S + 1, 0, none⟩ = some (.int .i64 k) := (HK2.out.below HB11.out (by omega)).cell 0
   have y1 : w11.cell? ⟨S + 1, 1, none⟩ = some (.int .i64 m) := (HK2.out.below HB11.out (by omega)).cell 1
   go_wp2_with fail
   refine (HDR.out _ (HS.out.below HB11.out (Nat.le_of_eq HSZ.out))).mono ?_; rintro e w12 ⟨rfl, hbn⟩
   have HB12 := Lib.hid (HB11.out.trans (hbn.mono (by have := HB11.out.size; rw [HSZ.out] at this; exact this)))
   clear hbn
   clear x0 x1 x2 x3 y0 y1
   go_wp2_with fail
   refine (awake_der _).mono ?_; rintro e w9 ⟨rfl, hb9⟩
   have HB9 := Lib.hid (HB12.out.trans (hb9.mono (by have := HB12.out.size; rw [HSZ.out] at this; exact this)))
   clear hb9
   go_wp2_with fail
   go_ret
   exact ⟨rfl, by rw [HSS.out]; exact HBW.out.trans (HB9.out.mono (Nat.le_add_right S 3))⟩
  ·have HDR := Lib.hid (fun w' (h1 : SchAt w' ⟨ad, nd, cd, ai, ni, ci, an, nn, cn, av, nv, cv⟩ s) => dkind_any w' _ s k m h1 HKM.out.1 HKM.out.2)
   have HRR := Lib.hid (fun w' (h1 : SchAt w' ⟨ad, nd, cd, ai, ni, ci, an, nn, cn, av, nv, cv⟩ s) => rreal_any w' _ s k m h1 HKM.out.1 HKM.out.2)
   have hrr : realB s k m = rrealB s k m := real_same HK.out HMB.out
   rw [hrr] at HDR
   clear hrr
   obtain ⟨RB, hRB⟩ : ∃ b, rrealB s k m = b := ⟨_, rfl⟩
   rw [hRB] at HDR HRR
   clear hRB
   have hBB : (RB == RB) = true := by simp
   go_upto_region 9 with fail
   have HB11d := Lib.hid HB11.out.drew
   refine wp_regionN (fun w' => w'.cell? ⟨S, 0, none⟩ = some (.slice ad nd cd) ∧ w'.cell? ⟨S, 1, none⟩ = some (.slice ai ni ci) ∧ w'.cell? ⟨S, 2, none⟩ = some (.slice an nn cn) ∧ w'.cell? ⟨S, 3, none⟩ = some (.slice av nv cv) ∧ w'.cell? ⟨S + 1, 0, none⟩ = some (.int .i64 k) ∧ w'.cell? ⟨S + 1, 1, none⟩ = some (.int .i64 m)) [] (by kernel_rfl) (by exact ⟨(HK1.out.below HB11.out (by omega)).cell 0, (HK1.out.below HB11.out (by omega)).cell 1, (HK1.out.below HB11.out (by omega)).cell 2, (HK1.out.below HB11.out (by omega)).cell 3, (HK2.out.below HB11.out (by omega)).cell 0, (HK2.out.below HB11.out (by omega)).cell 1⟩) (fun hHeld => ?_)
   refine wpAnyN_t 0 ⟨some 91, _, _, _, _, _⟩ ?_ rfl ?_ ?_
   rotate_left 1
   ·(intro w hSw; (try dsimp only at hSw); go_simp; try with_reducible rfl)
   try simp only [Act.put, putA, putB, putC]
   refine wpAnyN_t 1 ⟨some 92, _, _, _, _, _⟩ ?_ rfl ?_ ?_
   rotate_left 1
   ·(intro w hSw; (try dsimp only at hSw); go_simp; try with_reducible rfl)
   try simp only [Act.put, putA, putB, putC]
   refine wpAnyN_t 3 ⟨some 94, _, _, _, _, _⟩ ?_ rfl ?_ ?_
   rotate_left 1
   ·(intro w hSw; (try dsimp only at hSw); go_simp; try with_reducible rfl)
   try simp only [Act.put, putA, putB, putC]
   refine wpAnyN_t 4 ⟨some 95, _, _, _, _, _⟩ ?_ rfl ?_ ?_
   rotate_left 1
   ·(intro w hSw; (try dsimp only at hSw); go_simp; try with_reducible rfl)
   try simp only [Act.put, putA, putB, putC]
   refine wpAnyN_one (i := 2) (o := ⟨some 93, _, _, _, _, _⟩) (by kernel_rfl) rfl (fun K hK => ?_)
   go_simp
   refine (HDR.out _ (HS.out.below HB11d.out (Nat.le_of_eq HSZ.out))).mono ?_
   rintro e w12 ⟨rfl, hbb⟩
   have HB12 := Lib.hid (HB11d.out.trans (hbb.mono (by have := HB11d.out.size; rw [HSZ.out] at this; exact this)))
   clear hbb
   refine hK.out _ _ (by exact ⟨(HK1.out.below HB12.out (by omega)).cell 0, (HK1.out.below HB12.out (by omega)).cell 1, (HK1.out.below HB12.out (by omega)).cell 2, (HK1.out.below HB12.out (by omega)).cell 3, (HK2.out.below HB12.out (by omega)).cell 0, (HK2.out.below HB12.out (by omega)).cell 1⟩) ?_
   clear hK K hHeld
   intro hHeld
   try simp only [Act.put, putA, putB, putC]
   refine wpAnyN_one (i := 5) (o := ⟨some 96, _, _, _, _, _⟩) (by kernel_rfl) rfl (fun K hK => ?_)
   go_simp
   refine (HRR.out _ (HS.out.below HB12.out (Nat.le_of_eq HSZ.out))).mono ?_
   rintro e w13 ⟨rfl, hbb⟩
   have HB13 := Lib.hid (HB12.out.trans (hbb.mono (by have := HB12.out.size; rw [HSZ.out] at this; exact this)))
   clear hbb
   refine hK.out _ _ (by exact ⟨(HK1.out.below HB13.out (by omega)).cell 0, (HK1.out.below HB13.out (by omega)).cell 1, (HK1.out.below HB13.out (by omega)).cell 2, (HK1.out.below HB13.out (by omega)).cell 3, (HK2.out.below HB13.out (by omega)).cell 0, (HK2.out.below HB13.out (by omega)).cell 1⟩) ?_
   clear hK K hHeld
   intro hHeld
   try simp only [Act.put, putA, putB, putC]
   refine wpAnyN_t 6 ⟨some 97, _, _, _, _, _⟩ ?_ rfl ?_ ?_
   rotate_left 1
   ·(intro w hSw; (try dsimp only at hSw); go_simp; try with_reducible rfl)
   try simp only [Act.put, putA, putB, putC]
   refine wpAnyN_t 7 ⟨some 98, _, _, _, _, _⟩ ?_ rfl ?_ ?_
   rotate_left 1
   ·(intro w hSw; (try dsimp only at hSw); go_simp; try with_reducible rfl)
   try simp only [Act.put, putA, putB, putC]
   refine wpAnyN_one (i := 8) (o := ⟨some 99, _, _, _, _, _⟩) (by kernel_rfl) rfl (fun K hK => ?_)
   go_simp
   refine (awake_der _).mono ?_
   rintro e w14 ⟨rfl, hbb⟩
   have HB14 := Lib.hid (HB13.out.trans (hbb.mono (by have := HB13.out.size; rw [HSZ.out] at this; exact this)))
   clear hbb
   refine hK.out _ _ (by exact ⟨(HK1.out.below HB14.out (by omega)).cell 0, (HK1.out.below HB14.out (by omega)).cell 1, (HK1.out.below HB14.out (by omega)).cell 2, (HK1.out.below HB14.out (by omega)).cell 3, (HK2.out.below HB14.out (by omega)).cell 0, (HK2.out.below HB14.out (by omega)).cell 1⟩) ?_
   clear hK K hHeld
   intro hHeld
   try simp only [Act.put, putA, putB, putC]
   refine wpAnyN_t 9 ⟨some 100, _, _, _, _, _⟩ ?_ rfl ?_ ?_
   rotate_left 1
   ·(intro w hSw; (try dsimp only at hSw); go_simp; try with_reducible rfl)
   try simp only [Act.put, putA, putB, putC]
   refine wpAnyN_t 10 ⟨some 6, _, _, _, _, _⟩ ?_ rfl ?_ ?_
   rotate_left 1
   ·(intro w hSw; (try dsimp only at hSw); go_simp; try with_reducible rfl)
   try simp only [Act.put, putA, putB, putC]
   refine wpAnyN_end (by kernel_rfl) ?_
   go_wp2_with fail
   go_ret
   exact ⟨rfl, by rw [HSS.out]; exact HBW.out.trans (HB14.out.mono (Nat.le_add_right S 3))⟩
end Go.Proofs.YtdbkgpakpadloaaGreat
