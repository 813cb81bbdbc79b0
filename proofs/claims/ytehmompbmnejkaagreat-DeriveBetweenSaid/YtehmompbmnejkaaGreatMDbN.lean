/- The mean of a cell of facts lies between its least and its greatest number (plain). No conditions but those stated. -/
import Derived.Test.YtehmompbmnejkaaGreatMDbB
import Derived.Test.YtehmompbmnejkaaGreatMDbD
import Derived.Test.YtehmompbmnejkaaGreatRsE
import Derived.Test.YtehmompbmnejkaaGreatMDer
namespace Go.Proofs.YtehmompbmnejkaaGreat
open Go.RowKit Ieee

/-- m lies between a and b, where these are finite -/
def Btw (a b m : Nat) : Prop := a < 18446744073709551616 ∧ b < 18446744073709551616 ∧ m < 18446744073709551616 ∧ (a % S63 < INF → b % S63 < INF → m % S63 ≤ INF ∧ sk a ≤ sk m ∧ sk m ≤ sk b)
def rvB (s : Sch) (k m : Int) (c : CellV) : Bool → Int → Nat → Prop :=
 rvP k (relAt c.nums (m - s.ints.length).toNat).sum (relAt c.nums (m - s.ints.length).toNat).min (relAt c.nums (m - s.ints.length).toNat).max c.count
theorem real_callB (s : Sch) (k m : Int) (c : CellV) (h : I64 c.count) : RealCall s k m c (rvB s k m c) := by
 intro h1 h2 _ _ w' hr
 exact ofreal_any w' k _ _ _ _ _ _ c.count h1 h2 hr.1 hr.2.1 h ⟨hr.2.2.1, hr.2.2.2⟩
theorem dv_case {s : Sch} {k m : Int} {c : CellV} {real : Bool → Int → Nat → Prop} {r : Bool} {n : Int} {z e : Nat} (h : DVal s k m c c real r n z e) (hok : OkVal s k m c c) (hk : k ≠ 0) :
  e = 0 ∧ (m < (s.ints.length : Int) → WhlVal k (whlAt c.ints m.toNat) (whlAt c.ints m.toNat) c.count r n z) ∧ ((s.ints.length : Int) ≤ m → real r n z) := by
 obtain ⟨o1, o2, o3⟩ := hok
 rcases h with ⟨h1, -⟩ | ⟨-, h2, -⟩ | ⟨-, -, h3, -⟩ | ⟨-, -, h4, -⟩ | ⟨-, h5, -, h6, h7⟩ | ⟨-, h5, -, h6, h7⟩
 ·exact absurd o1 h1
 ·rw [o2] at h2; cases h2
 ·rw [o3] at h3; cases h3
 ·exact absurd h4 hk
 ·exact ⟨h5, fun _ => h7, fun h => by omega⟩
 ·exact ⟨h5, fun h => by omega, fun _ => h7⟩
theorem ok_val {s : Sch} {c : CellV} {k : Int} {i : Nat} (hc : chkS s = 0) (h1 : c.ints.length = s.ints.length) (h2 : c.nums.length = s.nums.length) (hk : 1 ≤ k ∧ k ≤ 4) (hi : i < s.ints.length + s.nums.length) : OkVal s k (i : Int) c c := by
 refine ⟨hc, ?_, decide_eq_true ⟨h1, h2, h1, h2⟩⟩
 unfold colB
 rw [if_neg (show ¬ k = 0 by omega), if_pos hk]
 exact decide_eq_true ⟨by omega, by omega⟩
theorem whl_two {x y : Whl} {c : Int} {r : Bool} {n : Int} {z : Nat} (h : WhlVal 2 x y c r n z) : n = x.min := by
 rcases h with ⟨h, -⟩ | ⟨-, -, h, -⟩ | ⟨h, -⟩ | ⟨h, -⟩ | ⟨h, -⟩ | ⟨h, -⟩
 ·exact absurd h (by decide)
 ·exact h
 all_goals exact absurd h (by decide)
theorem whl_three {x y : Whl} {c : Int} {r : Bool} {n : Int} {z : Nat} (h : WhlVal 3 x y c r n z) : n = x.max := by
 rcases h with ⟨h, -⟩ | ⟨h, -⟩ | ⟨-, -, h, -⟩ | ⟨h, -⟩ | ⟨h, -⟩ | ⟨h, -⟩
 ·exact absurd h (by decide)
 ·exact absurd h (by decide)
 ·exact h
 all_goals exact absurd h (by decide)
theorem whl_four {x y : Whl} {c : Int} {r : Bool} {n : Int} {z : Nat} (h : WhlVal 4 x y c r n z) : r = true ∧ IsMean x.sum c z := by
 rcases h with ⟨h, -⟩ | ⟨h, -⟩ | ⟨h, -⟩ | ⟨-, h1, -, h2⟩ | ⟨h, -⟩ | ⟨h, -⟩
 ·exact absurd h (by decide)
 ·exact absurd h (by decide)
 ·exact absurd h (by decide)
 ·exact ⟨h1, h2⟩
 all_goals exact absurd h (by decide)
theorem rel_two {bs : List Int} {mn mx : Nat} {c : Int} {z : Nat} (h : RelVal 2 bs mn mx c z) : z = mn := by
 rcases h with ⟨-, h⟩ | ⟨h, -⟩ | ⟨h, -⟩ | ⟨h, -⟩
 ·exact h
 all_goals exact absurd h (by decide)
theorem rel_three {bs : List Int} {mn mx : Nat} {c : Int} {z : Nat} (h : RelVal 3 bs mn mx c z) : z = mx := by
 rcases h with ⟨h, -⟩ | ⟨-, h⟩ | ⟨h, -⟩ | ⟨h, -⟩
 ·exact absurd h (by decide)
 ·exact h
 all_goals exact absurd h (by decide)
theorem rel_four {bs : List Int} {mn mx : Nat} {c : Int} {z : Nat} (h : RelVal 4 bs mn mx c z) : BMean bs c z := by
 rcases h with ⟨h, -⟩ | ⟨h, -⟩ | ⟨h, -⟩ | ⟨-, h⟩
 ·exact absurd h (by decide)
 ·exact absurd h (by decide)
 ·exact absurd h (by decide)
 ·exact h
/-- the three answers at one measure -/
theorem three_vals {s : Sch} {c : CellV} {k : Int} {i : Nat} {r1 r2 r3 : Bool} {n1 n2 n3 : Int} {z1 z2 z3 e1 e2 e3 : Nat} (hc : chkS s = 0) (hi : CInv k s.ints.length s.nums.length c) (hk : 1 ≤ k) (hlt : i < s.ints.length + s.nums.length)
  (hw : ∀ y ∈ c.nums, y.min < 18446744073709551616 ∧ y.max < 18446744073709551616)
  (h2 : DVal s 2 (i : Int) c c (rvB s 2 (i : Int) c) r1 n1 z1 e1) (h3 : DVal s 3 (i : Int) c c (rvB s 3 (i : Int) c) r2 n2 z2 e2) (h4 : DVal s 4 (i : Int) c c (rvB s 4 (i : Int) c) r3 n3 z3 e3) :
  e1 = 0 ∧ e2 = 0 ∧ e3 = 0 ∧ r3 = true ∧ (i < s.ints.length → Btw (floatOfInt .f64 n1) (floatOfInt .f64 n2) z3) ∧ (s.ints.length ≤ i → Btw z1 z2 z3) := by
 obtain ⟨-, hcnt, l1, l2, hwi, hri⟩ := hi
 obtain ⟨a1, a2, a3⟩ := dv_case h2 (ok_val hc l1 l2 (by decide) hlt) (by decide)
 obtain ⟨b1, b2, b3⟩ := dv_case h3 (ok_val hc l1 l2 (by decide) hlt) (by decide)
 obtain ⟨c1, c2, c3⟩ := dv_case h4 (ok_val hc l1 l2 (by decide) hlt) (by decide)
 refine ⟨a1, b1, c1, ?_, fun hw1 => ?_, fun hr1 => ?_⟩
 ·rcases Nat.lt_or_ge i s.ints.length with h | h
  ·exact (whl_four (c2 (by omega))).1
  ·exact (c3 (by omega)).1
 ·have e1 := whl_two (a2 (by omega))
  have e2 := whl_three (b2 (by omega))
  have e3 := (whl_four (c2 (by omega))).2
  rw [Int.toNat_natCast] at e1 e2 e3
  have hm := whlAt_mem (ds := c.ints) (i := i) (by omega)
  obtain ⟨-, -, i1, i2⟩ := hwi _ hm
  rw [hcnt] at e3
  obtain ⟨u1, u2, u3, u4, u5, -⟩ := mean_vsB (x := n1) hk e3
  obtain ⟨-, -, v3, v4, -, v6⟩ := mean_vsB (x := n2) hk e3
  rw [← e1] at i1
  rw [← e2] at i2
  exact ⟨u3, v3, u1, fun _ _ => ⟨u2, u5 i1, v6 i2⟩⟩
 ·have e1 := rel_two (a3 (by omega)).2.2
  have e2 := rel_three (b3 (by omega)).2.2
  have e3 := rel_four (c3 (by omega)).2.2
  have hm := relAt_mem (ds := c.nums) (i := ((i : Int) - s.ints.length).toNat) (by omega)
  obtain ⟨w1, w2⟩ := hw _ hm
  obtain ⟨i0, -, i2⟩ := hri _ hm
  rw [← e1] at w1 i2
  rw [← e2] at w2 i2
  obtain ⟨g0, g1⟩ := e3
  rw [hcnt] at g1
  refine ⟨w1, w2, g0, fun f1 f2 => ?_⟩
  obtain ⟨j1, j2, j3⟩ := i2 f1 f2
  rcases g1 with ⟨-, g1⟩ | ⟨g1, -⟩
  ·obtain ⟨m1, m2, -⟩ := meanS_vs hk j1 g1 (Nat.le_of_lt f1)
   obtain ⟨-, -, m3⟩ := meanS_vs hk j1 g1 (Nat.le_of_lt f2)
   exact ⟨m1, m2 j2, m3 j3⟩
  ·exact absurd i0 g1
theorem sub_big {b : Nat} (hb : b < 18446744073709551616) (h : INF ≤ b % S63) : floatBits .sub .f64 b b = none := by
 rcases Nat.lt_or_ge INF (b % S63) with h1 | h1
 ·show ((double.read b).sum (double.read b).opposite).map double.write = none
  obtain ⟨s, q, e⟩ := read_nan h1
  rw [e]
  rfl
 ·exact sub_self_inf hb (by omega)
/-- the three comparisons of the law -/
theorem btw_cmp {a b m : Nat} (h : Btw a b m) (fa : a % S63 < INF) (fb : b % S63 < INF) :
  (FloatKind.f64.format.order m a == some Ordering.lt) = false ∧ (FloatKind.f64.format.order m b == some Ordering.gt) = false ∧ (FloatKind.f64.format.order m m != some Ordering.eq) = false := by
 obtain ⟨h1, h2, h3, h4⟩ := h
 obtain ⟨k1, k2, k3⟩ := h4 fa fb
 have c1 : FloatKind.f64.format.order m a = some (compare (sk m) (sk a)) := order_num h3 h1 k1 (Nat.le_of_lt fa)
 have c2 : FloatKind.f64.format.order m b = some (compare (sk m) (sk b)) := order_num h3 h2 k1 (Nat.le_of_lt fb)
 have c3 := order_self h3
 rw [if_neg (by omega)] at c3
 rw [c1, c2, c3]
 refine ⟨?_, ?_, rfl⟩
 ·have : compare (sk m) (sk a) ≠ .lt := fun e => by
   have := Int.compare_eq_lt.1 e
   omega
  cases hq : compare (sk m) (sk a)
  ·exact absurd hq this
  ·rfl
  ·rfl
 ·have : compare (sk m) (sk b) ≠ .gt := fun e => by
   have := Int.compare_eq_gt.1 e
   omega
  cases hq : compare (sk m) (sk b)
  ·rfl
  ·rfl
  ·exact absurd hq this
end Go.Proofs.YtehmompbmnejkaaGreat
/- The walk of the law DeriveBetween: printed by gen_dbn.py. No conditions. -/
namespace Go.Proofs.YtehmompbmnejkaaGreat
open Go.RowKit Ieee
attribute [local go_sem] run_store_float

set_option maxRecDepth 100000 in
set_option maxHeartbeats 16000000 in
theorem walk_between (l : SchL) (s : Sch) (za : Option Addr) (zn zc : Nat) (zs : List FacZ) (w : World) (h : SchAt w l s) (hz : FactsAt w za zn zc zs) :
  Calls Tryz.prog 3 #[l.val, .slice za zn zc] w fun e w' => e = .returned (.bool true) ∧ Below w.heap.size w w' := by
 have mzn : zn ≤ 9223372036854775807 := by have h1 := hz.1.2.1; have h2 := hz.1.2.2.1; unfold maxLen at h2; omega
 obtain ⟨ad, nd, cd, ai, ni, ci, an, nn, cn, av, nv, cv⟩ := l
 obtain ⟨hbx, hbw, hsz⟩ := boxed w 26 #[.slice ad nd cd, .slice ai ni ci, .slice an nn cn, .slice av nv cv]
 have HS := Lib.hid (h.below hbw (Nat.le_refl _))
 have HZ := Lib.hid (hz.below hbw (Nat.le_refl _))
 have HLL : Hid (s.dims.length = nd ∧ s.ints.length = ni ∧ s.nums.length = nn) := Lib.hid ⟨h.2.1, h.2.2.1.1, h.2.2.2.1.1⟩
 have HBW := Lib.hid hbw
 have HK := Lib.hid (Blk.new w 26 #[.slice ad nd cd, .slice ai ni ci, .slice an nn cn, .slice av nv cv])
 have HSZ := Lib.hid hsz
 unfold SchL.val
 dsimp only
 clear h hz hbx hbw hsz
 go_enter Tryz.func3, Tryz.ntmps3
 go_upto_region 1 with fail
 generalize (w.alloc (.cells #[.slice ad nd cd, .slice ai ni ci, .slice an nn cn, .slice av nv cv] 26)) = w0 at *
 generalize hS : w.heap.size = S at *
 have HSS := Lib.hid hS
 clear hS
 obtain ⟨N, hN⟩ : ∃ N, w0.heap.size = N := ⟨_, rfl⟩
 have HN := Lib.hid hN
 have HSN : Hid (S < N) := Lib.hid (by rw [← hN, HSZ.out]; omega)
 clear hN
 have hNv : ∀ v, Below N w0 v → N ≤ v.heap.size := fun v hv => by have := hv.size; rw [HN.out] at this; exact this
 have x0 := HK.out.c 0
 have x1 := HK.out.c 1
 have x2 := HK.out.c 2
 have x3 := HK.out.c 3
 go_wp2_with fail
 refine (rlight_any _ ⟨ad, nd, cd, ai, ni, ci, an, nn, cn, av, nv, cv⟩ s HS.out).mono ?_
 rintro e w1 ⟨b1, rfl, -, hb1⟩
 have HB1 : Hid (Below N w0 w1) := Lib.hid (by rw [HN.out] at hb1; exact hb1)
 clear hb1 x0 x1 x2 x3
 rcases b1 with _ | _
 ·as_aux_lemma =>
  go_wp2_with fail
  refine (awake_der _).mono ?_
  rintro e w9 ⟨rfl, hb9⟩
  have HB9 := Lib.hid (HB1.out.trans (hb9.mono (hNv _ HB1.out)))
  clear hb9
  go_wp2_with fail
  go_ret
  exact ⟨rfl, by rw [HSS.out]; exact HBW.out.trans (HB9.out.mono (Nat.le_of_lt HSN.out))⟩
 by_cases hzn : 60 < zn
 ·as_aux_lemma =>
  have t1 : decide ((60 : Int) < (zn : Int)) = true := decide_eq_true (by omega)
  clear hzn
  go_wp2_with fail
  refine (awake_der _).mono ?_
  rintro e w9 ⟨rfl, hb9⟩
  have HB9 := Lib.hid (HB1.out.trans (hb9.mono (hNv _ HB1.out)))
  clear hb9
  go_wp2_with fail
  go_ret
  exact ⟨rfl, by rw [HSS.out]; exact HBW.out.trans (HB9.out.mono (Nat.le_of_lt HSN.out))⟩
 have t1 : decide ((60 : Int) < (zn : Int)) = false := decide_eq_false (by omega)
 have HZN : Hid (zn ≤ 60) := Lib.hid (by omega)
 clear hzn
 go_wp2_with fail
 refine (flight12_any _ za zn zc zs (HZ.out.below HB1.out (Nat.le_of_eq HN.out))).mono ?_
 rintro e w2 ⟨⟨b2, rfl, hf2⟩, hb2⟩
 have HB2 := Lib.hid (HB1.out.trans (hb2.mono (hNv _ HB1.out)))
 have HFW := Lib.hid hf2
 clear hb2 hf2 t1
 rcases b2 with _ | _
 ·as_aux_lemma =>
  go_wp2_with fail
  refine (awake_der _).mono ?_
  rintro e w9 ⟨rfl, hb9⟩
  have HB9 := Lib.hid (HB2.out.trans (hb9.mono (hNv _ HB2.out)))
  clear hb9
  go_wp2_with fail
  go_ret
  exact ⟨rfl, by rw [HSS.out]; exact HBW.out.trans (HB9.out.mono (Nat.le_of_lt HSN.out))⟩
 have HFO := Lib.hid (fold_any w2 ⟨ad, nd, cd, ai, ni, ci, an, nn, cn, av, nv, cv⟩ s za zn zc zs (HS.out.below HB2.out (Nat.le_of_eq HN.out)) (HZ.out.below HB2.out (Nat.le_of_eq HN.out)) (HFW.out rfl) HZN.out)
 unfold SchL.val at HFO
 dsimp only at HFO
 have hk2 : Blk w2 S 26 #[.slice ad nd cd, .slice ai ni ci, .slice an nn cn, .slice av nv cv] := HK.out.below HB2.out HSN.out
 have x0 := hk2.c 0
 have x1 := hk2.c 1
 have x2 := hk2.c 2
 have x3 := hk2.c 3
 go_wp2_with fail
 refine HFO.out.mono ?_
 rintro e w3 ⟨ca, cl, cc, er, rfl, hok, hb3⟩
 have HB3 := Lib.hid (HB2.out.trans (hb3.mono (hNv _ HB2.out)))
 have HOK := Lib.hid hok
 clear hb3 hok HFO hk2 x0 x1 x2 x3
 by_cases he : er = 0
 case neg =>
  as_aux_lemma =>
  have t1 : (er != 0) = true := by simpa using he
  clear he
  go_wp2_with fail
  refine (awake_der _).mono ?_
  rintro e w9 ⟨rfl, hb9⟩
  have HB9 := Lib.hid (HB3.out.trans (hb9.mono (hNv _ HB3.out)))
  clear hb9
  go_wp2_with fail
  go_ret
  exact ⟨rfl, by rw [HSS.out]; exact HBW.out.trans (HB9.out.mono (Nat.le_of_lt HSN.out))⟩
 case pos =>
 subst he
 rcases HOK.out rfl with rfl | ⟨rfl, hk0, hz1, lc, cv0, hro, hci⟩
 ·as_aux_lemma =>
  go_wp2_with fail
  refine (awake_der _).mono ?_
  rintro e w9 ⟨rfl, hb9⟩
  have HB9 := Lib.hid (HB3.out.trans (hb9.mono (hNv _ HB3.out)))
  clear hb9
  go_wp2_with fail
  go_ret
  exact ⟨rfl, by rw [HSS.out]; exact HBW.out.trans (HB9.out.mono (Nat.le_of_lt HSN.out))⟩
 obtain ⟨qk, cnt, xs, us⟩ := cv0
 have HCI := Lib.hid hci
 obtain ⟨q1, q2, -⟩ := hci
 dsimp only at q1 q2
 subst q1
 have HCT : Hid (cnt = (zn : Int)) := Lib.hid q2
 have HRO := Lib.hid hro
 have HKZ := Lib.hid hk0
 have HZ1 := Lib.hid hz1
 obtain ⟨cb, co, rfl, cbl, ccl⟩ := hro.1.at (by decide)
 have HCB := Lib.hid cbl
 have HCC := Lib.hid ccl
 have HDM := Lib.hid (chk_dims hk0)
 have hcc : cc ≤ 9223372036854775807 ∧ 1 ≤ cc := by have h1 := hro.1.2.1; have h2 := hro.1.2.2.1; unfold maxLen at h2; omega
 obtain ⟨hcc1, hcc2⟩ := hcc
 clear q2 hro hk0 hz1 cbl ccl HOK
 obtain ⟨T, hT⟩ : ∃ T : Nat, ni + nn = T := ⟨_, rfl⟩
 have HT := Lib.hid hT
 have hTl : T ≤ 5 := by have h1 := HDM.out.2.2.1; have h2 := HDM.out.2.2.2; have h3 := HLL.out.2.1; have h4 := HLL.out.2.2; omega
 have hTi : (ni : Int) + (nn : Int) = (T : Int) := by omega
 have hTw : IntKind.i64.wrap (T : Int) = (T : Int) := IntWalk.i64_in _ ⟨by omega, by omega⟩
 have HTL := Lib.hid hTl
 clear hT
 go_wp2_with fail
 go_loopg [7] T (fun gg iu wr => ∃ (j : Nat), iu = .int .i64 j ∧ j + gg = T ∧ Below N w0 wr ∧ Below w3.heap.size w3 wr)
 case atStart => exact ⟨0, rfl, by omega, HB3.out, Below.refl _ _⟩
 case round =>
 obtain ⟨j, rfl, hqq, hb, hb3⟩ := hrel
 have HQQ := Lib.hid hqq
 have HB := Lib.hid hb
 have HBC := Lib.hid hb3
 have HKR : Hid (Blk wr S 26 #[.slice ad nd cd, .slice ai ni ci, .slice an nn cn, .slice av nv cv]) := Lib.hid (HK.out.below hb HSN.out)
 have y1 := HKR.out.c 1
 have y2 := HKR.out.c 2
 clear hqq hb hb3
 by_cases hlt : j < T
 case pos =>

  have HSQ : Hid (∀ x ∈ (⟨0, cnt, xs, us⟩ : CellV).ints, x.n ≤ 20) := Lib.hid (fun x hx => (HCI.out.2.2.2.2.1 x hx).words (HRO.out.2.2.2.2.2.2.2.1 x hx) (by have := HCT.out; have := HZN.out; omega))
  go_wp2_with fail
  obtain ⟨P1, hP1⟩ : ∃ P, DVal s 2 (j : Int) (⟨0, cnt, xs, us⟩ : CellV) (⟨0, cnt, xs, us⟩ : CellV) (rvB s 2 (j : Int) (⟨0, cnt, xs, us⟩ : CellV)) = P := ⟨_, rfl⟩
  have HDV1 : Hid (∀ v, Below N w0 v → Below w3.heap.size w3 v → Calls Tryz.prog 8 #[.agg #[.slice ad nd cd, .slice ai ni ci, .slice an nn cn, .slice av nv cv], .agg #[.int .i64 2, .int .i64 (j : Int)], .agg #[.int .u64 0, .int .i64 cnt, .slice lc.ai lc.ni lc.ci, .slice lc.an lc.nn lc.cn], .agg #[.int .u64 0, .int .i64 cnt, .slice lc.ai lc.ni lc.ci, .slice lc.an lc.nn lc.cn]] v (RDVal P1 v)) := Lib.hid (fun v h1 h2 => by
   have h := dvalue_any v ⟨ad, nd, cd, ai, ni, ci, an, nn, cn, av, nv, cv⟩ s 2 (j : Int) lc lc (⟨0, cnt, xs, us⟩ : CellV) (⟨0, cnt, xs, us⟩ : CellV) (rvB s 2 (j : Int) (⟨0, cnt, xs, us⟩ : CellV)) (HS.out.below h1 (Nat.le_of_eq HN.out)) ⟨by omega, by omega⟩ ⟨by omega, by omega⟩ (HRO.out.2.below h2 (Nat.le_refl _)) (HRO.out.2.below h2 (Nat.le_refl _)) (Lib.hid HSQ.out) (real_callB _ _ _ _ HRO.out.2.2.2.2.2.2.1)
   rw [hP1] at h
   exact h)
  have HP1 := Lib.hid hP1
  clear hP1
  have kc0 : wr.cell? ⟨cb, co, none⟩ = some (.int .u64 0) := by rw [(bcell HBC.out).1 _ _ HCB.out]; exact HCC.out 0 (by decide)
  have kc1 : wr.cell? ⟨cb, co + 1, none⟩ = some (.int .i64 cnt) := by rw [(bcell HBC.out).1 _ _ HCB.out]; exact HCC.out 1 (by decide)
  have kc2 : wr.cell? ⟨cb, co + 2, none⟩ = some (.slice lc.ai lc.ni lc.ci) := by rw [(bcell HBC.out).1 _ _ HCB.out]; exact HCC.out 2 (by decide)
  have kc3 : wr.cell? ⟨cb, co + 3, none⟩ = some (.slice lc.an lc.nn lc.cn) := by rw [(bcell HBC.out).1 _ _ HCB.out]; exact HCC.out 3 (by decide)
  have HKR1 : Hid (Blk wr S 26 #[.slice ad nd cd, .slice ai ni ci, .slice an nn cn, .slice av nv cv]) := Lib.hid (HK.out.below HB.out HSN.out)
  have HCL1 : Hid (cb < wr.heap.size) := Lib.hid (Nat.lt_of_lt_of_le HCB.out HBC.out.size)
  go_upto_region 9 with fail
  go_cut [8, 9] (fun p q wx => ∃ (X : Nat) (r : Bool) (n : Int) (z er : Nat), p = .pointer (some ⟨X, 0, none⟩) ∧ q = .int .i64 (er : Int) ∧ Blk wx X 37 #[.bool r, .int .i64 n, .float .f64 z] ∧ P1 r n z er ∧ Below wr.heap.size wr wx)
  case first =>
   as_aux_lemma =>
   refine wp_regionN (fun w' => Below wr.heap.size wr w') [] (by kernel_rfl) (by exact (Below.refl _ _).drew) (fun hHeld => ?_)
   generalize wr.drew = x0 at *
   refine wpAnyN_t 0 ⟨some 56, _, _, _, _, _⟩ ?_ rfl ?_ ?_
   rotate_left 1
   ·(intro w hSw; have d0 := (HKR1.out.below hSw HKR1.out.lt).c 0; have d1 := (HKR1.out.below hSw HKR1.out.lt).c 1; have d2 := (HKR1.out.below hSw HKR1.out.lt).c 2; have d3 := (HKR1.out.below hSw HKR1.out.lt).c 3; go_simp; try with_reducible rfl)
   try simp only [Act.put, putA, putB, putC]
   refine wpAnyN_u 1 ⟨some 57, _, _, _, _, _⟩ _ rfl ?_
   try simp only [Act.put, putA, putB, putC]
   refine wpAnyN_u 2 ⟨some 58, _, _, _, _, _⟩ _ rfl ?_
   try simp only [Act.put, putA, putB, putC]
   refine wpAnyN_u 3 ⟨some 59, _, _, _, _, _⟩ _ rfl ?_
   try simp only [Act.put, putA, putB, putC]
   refine wpAnyN_u 4 ⟨some 60, _, _, _, _, _⟩ _ rfl ?_
   try simp only [Act.put, putA, putB, putC]
   refine wpAnyN_t 5 ⟨some 61, _, _, _, _, _⟩ ?_ rfl ?_ ?_
   rotate_left 1
   ·(intro w hSw; have d0 : w.cell? ⟨cb, co, none⟩ = some (.int .u64 0) := (by rw [(bcell hSw).1 _ _ HCL1.out]; exact kc0); have d1 : w.cell? ⟨cb, co + 1, none⟩ = some (.int .i64 cnt) := (by rw [(bcell hSw).1 _ _ HCL1.out]; exact kc1); have d2 : w.cell? ⟨cb, co + 2, none⟩ = some (.slice lc.ai lc.ni lc.ci) := (by rw [(bcell hSw).1 _ _ HCL1.out]; exact kc2); have d3 : w.cell? ⟨cb, co + 3, none⟩ = some (.slice lc.an lc.nn lc.cn) := (by rw [(bcell hSw).1 _ _ HCL1.out]; exact kc3); go_simp; try with_reducible rfl)
   try simp only [Act.put, putA, putB, putC]
   refine wpAnyN_u 6 ⟨some 62, _, _, _, _, _⟩ _ rfl ?_
   try simp only [Act.put, putA, putB, putC]
   refine wpAnyN_u 7 ⟨some 63, _, _, _, _, _⟩ _ rfl ?_
   try simp only [Act.put, putA, putB, putC]
   refine wpAnyN_t 8 ⟨some 64, _, _, _, _, _⟩ ?_ rfl ?_ ?_
   rotate_left 1
   ·(intro w hSw; have d0 : w.cell? ⟨cb, co, none⟩ = some (.int .u64 0) := (by rw [(bcell hSw).1 _ _ HCL1.out]; exact kc0); have d1 : w.cell? ⟨cb, co + 1, none⟩ = some (.int .i64 cnt) := (by rw [(bcell hSw).1 _ _ HCL1.out]; exact kc1); have d2 : w.cell? ⟨cb, co + 2, none⟩ = some (.slice lc.ai lc.ni lc.ci) := (by rw [(bcell hSw).1 _ _ HCL1.out]; exact kc2); have d3 : w.cell? ⟨cb, co + 3, none⟩ = some (.slice lc.an lc.nn lc.cn) := (by rw [(bcell hSw).1 _ _ HCL1.out]; exact kc3); go_simp; try with_reducible rfl)
   try simp only [Act.put, putA, putB, putC]
   have HB_0 := Lib.hid hHeld
   refine wpAnyN_pair (i := 9) (j := 13) (o := ⟨some 65, _, _, _, _, _⟩) (p := ⟨some 8, _, _, _, _, _⟩) (by kernel_rfl) rfl rfl (fun K hK => ?_) (fun K hK => ?_)
   ·go_simp
    refine (HDV1.out _ (HB.out.trans (HB_0.out.mono (hNv _ HB.out))) (HBC.out.trans (HB_0.out.mono HBC.out.size))).mono ?_
    rintro e x1 ⟨rb, rn, rz, re, rfl, hdv, hbn⟩
    have HDD := Lib.hid hdv
    have HB_1 := Lib.hid (HB_0.out.trans (hbn.mono HB_0.out.size))
    clear hdv hbn
    refine hK.out _ _ (by exact HB_1.out) ?_
    clear hK K hHeld
    intro hHeld
    try simp only [Act.put, putA, putB, putC]
    refine wpAnyN_u 10 ⟨some 55, _, _, _, _, _⟩ _ rfl ?_
    try simp only [Act.put, putA, putB, putC]
    refine wpAnyN_u 11 ⟨some 66, _, _, _, _, _⟩ _ rfl ?_
    try simp only [Act.put, putA, putB, putC]
    refine wpAnyN_u 12 ⟨some 67, _, _, _, _, _⟩ _ rfl ?_
    try simp only [Act.put, putA, putB, putC]
    refine wpAnyN_one (i := 13) (o := ⟨some 8, _, _, _, _, _⟩) (by kernel_rfl) rfl (fun K hK => ?_)
    go_simp
    have hbn := (Below.refl x1.heap.size x1).alloc (Nat.le_refl _) (.cells #[.bool false, .int .i64 0, .float .f64 0] 37)
    have HBk := Lib.hid (Blk.new x1 37 #[.bool false, .int .i64 0, .float .f64 0])
    obtain ⟨X, hX⟩ : ∃ X, x1.heap.size = X := ⟨_, rfl⟩
    have HXG : Hid (wr.heap.size ≤ X) := Lib.hid (by have := HB_1.out.size; omega)
    have HX_2 : Hid (Blk (x1.alloc (.cells #[.bool false, .int .i64 0, .float .f64 0] 37)) X 37 #[.bool false, .int .i64 0, .float .f64 0]) := Lib.hid (by rw [← hX]; exact HBk.out)
    rw [hX]
    have HB_2 := Lib.hid (HB_1.out.trans (hbn.mono HB_1.out.size))
    clear HBk hbn
    generalize (x1.alloc (.cells #[.bool false, .int .i64 0, .float .f64 0] 37)) = x2 at *
    clear hX
    refine hK.out _ _ (by exact HB_2.out) ?_
    clear hK K hHeld
    intro hHeld
    try simp only [Act.put, putA, putB, putC]
    have z0 := HX_2.out.c 0
    have z1 := HX_2.out.c 1
    have z2 := HX_2.out.c 2
    have zf : ∀ o, x2.frozen? ⟨X, o, none⟩ = false := fun o => HX_2.out.frozen o
    refine wpAnyN_one (i := 14) (o := ⟨none, _, _, _, _, _⟩) (by kernel_rfl) rfl (fun K hK => ?_)
    go_simp
    clear z0 z1 z2 zf
    have HX_3 := Lib.hid (HX_2.out.three (.bool rb) (.int .i64 rn) (.float .f64 rz))
    have HB_3 := Lib.hid (below_at (below_at (below_at HB_2.out (p := ⟨X, 0, none⟩) HXG.out (.bool rb)) (p := ⟨X, 1, none⟩) HXG.out (.int .i64 rn)) (p := ⟨X, 2, none⟩) HXG.out (.float .f64 rz))
    generalize (((x2.setCell ⟨X, 0, none⟩ (.bool rb)).setCell ⟨X, 1, none⟩ (.int .i64 rn)).setCell ⟨X, 2, none⟩ (.float .f64 rz)) = x3 at *
    refine hK.out _ _ (by exact HB_3.out) ?_
    clear hK K hHeld
    intro hHeld
    try simp only [Act.put, putA, putB, putC]
    refine wpAnyN_u 15 ⟨some 9, _, _, _, _, _⟩ _ rfl ?_
    try simp only [Act.put, putA, putB, putC]
    refine wpAnyN_end (by kernel_rfl) ?_
    try go_wp2_with fail
    go_meet
    exact ⟨X, rb, rn, rz, re, rfl, rfl, HX_3.out, HDD.out, HB_3.out⟩
   ·go_simp
    have hbn := (Below.refl x0.heap.size x0).alloc (Nat.le_refl _) (.cells #[.bool false, .int .i64 0, .float .f64 0] 37)
    have HBk := Lib.hid (Blk.new x0 37 #[.bool false, .int .i64 0, .float .f64 0])
    obtain ⟨X, hX⟩ : ∃ X, x0.heap.size = X := ⟨_, rfl⟩
    have HXG : Hid (wr.heap.size ≤ X) := Lib.hid (by have := HB_0.out.size; omega)
    have HX_1 : Hid (Blk (x0.alloc (.cells #[.bool false, .int .i64 0, .float .f64 0] 37)) X 37 #[.bool false, .int .i64 0, .float .f64 0]) := Lib.hid (by rw [← hX]; exact HBk.out)
    rw [hX]
    have HB_1 := Lib.hid (HB_0.out.trans (hbn.mono HB_0.out.size))
    clear HBk hbn
    generalize (x0.alloc (.cells #[.bool false, .int .i64 0, .float .f64 0] 37)) = x1 at *
    clear hX
    refine hK.out _ _ (by exact HB_1.out) ?_
    clear hK K hHeld
    intro hHeld
    try simp only [Act.put, putA, putB, putC]
    refine wpAnyN_one (i := 9) (o := ⟨some 65, _, _, _, _, _⟩) (by kernel_rfl) rfl (fun K hK => ?_)
    go_simp
    refine (HDV1.out _ (HB.out.trans (HB_1.out.mono (hNv _ HB.out))) (HBC.out.trans (HB_1.out.mono HBC.out.size))).mono ?_
    rintro e x2 ⟨rb, rn, rz, re, rfl, hdv, hbn⟩
    have HDD := Lib.hid hdv
    have HB_2 := Lib.hid (HB_1.out.trans (hbn.mono HB_1.out.size))
    have HX_2 := Lib.hid (HX_1.out.below hbn HX_1.out.lt)
    clear hdv hbn
    refine hK.out _ _ (by exact HB_2.out) ?_
    clear hK K hHeld
    intro hHeld
    try simp only [Act.put, putA, putB, putC]
    refine wpAnyN_u 10 ⟨some 55, _, _, _, _, _⟩ _ rfl ?_
    try simp only [Act.put, putA, putB, putC]
    refine wpAnyN_u 11 ⟨some 66, _, _, _, _, _⟩ _ rfl ?_
    try simp only [Act.put, putA, putB, putC]
    refine wpAnyN_u 12 ⟨some 67, _, _, _, _, _⟩ _ rfl ?_
    try simp only [Act.put, putA, putB, putC]
    have z0 := HX_2.out.c 0
    have z1 := HX_2.out.c 1
    have z2 := HX_2.out.c 2
    have zf : ∀ o, x2.frozen? ⟨X, o, none⟩ = false := fun o => HX_2.out.frozen o
    refine wpAnyN_one (i := 14) (o := ⟨none, _, _, _, _, _⟩) (by kernel_rfl) rfl (fun K hK => ?_)
    go_simp
    clear z0 z1 z2 zf
    have HX_3 := Lib.hid (HX_2.out.three (.bool rb) (.int .i64 rn) (.float .f64 rz))
    have HB_3 := Lib.hid (below_at (below_at (below_at HB_2.out (p := ⟨X, 0, none⟩) HXG.out (.bool rb)) (p := ⟨X, 1, none⟩) HXG.out (.int .i64 rn)) (p := ⟨X, 2, none⟩) HXG.out (.float .f64 rz))
    generalize (((x2.setCell ⟨X, 0, none⟩ (.bool rb)).setCell ⟨X, 1, none⟩ (.int .i64 rn)).setCell ⟨X, 2, none⟩ (.float .f64 rz)) = x3 at *
    refine hK.out _ _ (by exact HB_3.out) ?_
    clear hK K hHeld
    intro hHeld
    try simp only [Act.put, putA, putB, putC]
    refine wpAnyN_u 15 ⟨some 9, _, _, _, _, _⟩ _ rfl ?_
    try simp only [Act.put, putA, putB, putC]
    refine wpAnyN_end (by kernel_rfl) ?_
    try go_wp2_with fail
    go_meet
    exact ⟨X, rb, rn, rz, re, rfl, rfl, HX_3.out, HDD.out, HB_3.out⟩
  case rest =>
  obtain ⟨X1, r1, n1, z1, e1, rfl, rfl, hX, hp, hbx⟩ := hcut
  generalize wc = w4 at *
  have HX1 := Lib.hid hX
  have HPP1 := Lib.hid hp
  have HBw4 := Lib.hid (HB.out.trans (hbx.mono (hNv _ HB.out)))
  have HBCw4 := Lib.hid (HBC.out.trans (hbx.mono HBC.out.size))
  clear hX hp hbx HDV1 kc0 kc1 kc2 kc3 HKR1 HCL1
  obtain ⟨P2, hP2⟩ : ∃ P, DVal s 3 (j : Int) (⟨0, cnt, xs, us⟩ : CellV) (⟨0, cnt, xs, us⟩ : CellV) (rvB s 3 (j : Int) (⟨0, cnt, xs, us⟩ : CellV)) = P := ⟨_, rfl⟩
  have HDV2 : Hid (∀ v, Below N w0 v → Below w3.heap.size w3 v → Calls Tryz.prog 8 #[.agg #[.slice ad nd cd, .slice ai ni ci, .slice an nn cn, .slice av nv cv], .agg #[.int .i64 3, .int .i64 (j : Int)], .agg #[.int .u64 0, .int .i64 cnt, .slice lc.ai lc.ni lc.ci, .slice lc.an lc.nn lc.cn], .agg #[.int .u64 0, .int .i64 cnt, .slice lc.ai lc.ni lc.ci, .slice lc.an lc.nn lc.cn]] v (RDVal P2 v)) := Lib.hid (fun v h1 h2 => by
   have h := dvalue_any v ⟨ad, nd, cd, ai, ni, ci, an, nn, cn, av, nv, cv⟩ s 3 (j : Int) lc lc (⟨0, cnt, xs, us⟩ : CellV) (⟨0, cnt, xs, us⟩ : CellV) (rvB s 3 (j : Int) (⟨0, cnt, xs, us⟩ : CellV)) (HS.out.below h1 (Nat.le_of_eq HN.out)) ⟨by omega, by omega⟩ ⟨by omega, by omega⟩ (HRO.out.2.below h2 (Nat.le_refl _)) (HRO.out.2.below h2 (Nat.le_refl _)) (Lib.hid HSQ.out) (real_callB _ _ _ _ HRO.out.2.2.2.2.2.2.1)
   rw [hP2] at h
   exact h)
  have HP2 := Lib.hid hP2
  clear hP2
  have kc0 : w4.cell? ⟨cb, co, none⟩ = some (.int .u64 0) := by rw [(bcell HBCw4.out).1 _ _ HCB.out]; exact HCC.out 0 (by decide)
  have kc1 : w4.cell? ⟨cb, co + 1, none⟩ = some (.int .i64 cnt) := by rw [(bcell HBCw4.out).1 _ _ HCB.out]; exact HCC.out 1 (by decide)
  have kc2 : w4.cell? ⟨cb, co + 2, none⟩ = some (.slice lc.ai lc.ni lc.ci) := by rw [(bcell HBCw4.out).1 _ _ HCB.out]; exact HCC.out 2 (by decide)
  have kc3 : w4.cell? ⟨cb, co + 3, none⟩ = some (.slice lc.an lc.nn lc.cn) := by rw [(bcell HBCw4.out).1 _ _ HCB.out]; exact HCC.out 3 (by decide)
  have HKR2 : Hid (Blk w4 S 26 #[.slice ad nd cd, .slice ai ni ci, .slice an nn cn, .slice av nv cv]) := Lib.hid (HK.out.below HBw4.out HSN.out)
  have HCL2 : Hid (cb < w4.heap.size) := Lib.hid (Nat.lt_of_lt_of_le HCB.out HBCw4.out.size)
  go_upto_region 10 with fail
  go_cut [10, 11] (fun p q wx => ∃ (X : Nat) (r : Bool) (n : Int) (z er : Nat), p = .pointer (some ⟨X, 0, none⟩) ∧ q = .int .i64 (er : Int) ∧ Blk wx X 37 #[.bool r, .int .i64 n, .float .f64 z] ∧ P2 r n z er ∧ Below w4.heap.size w4 wx)
  case first =>
   as_aux_lemma =>
   refine wp_regionN (fun w' => Below w4.heap.size w4 w') [] (by kernel_rfl) (by exact (Below.refl _ _).drew) (fun hHeld => ?_)
   generalize w4.drew = x0 at *
   refine wpAnyN_t 0 ⟨some 69, _, _, _, _, _⟩ ?_ rfl ?_ ?_
   rotate_left 1
   ·(intro w hSw; have d0 := (HKR2.out.below hSw HKR2.out.lt).c 0; have d1 := (HKR2.out.below hSw HKR2.out.lt).c 1; have d2 := (HKR2.out.below hSw HKR2.out.lt).c 2; have d3 := (HKR2.out.below hSw HKR2.out.lt).c 3; go_simp; try with_reducible rfl)
   try simp only [Act.put, putA, putB, putC]
   refine wpAnyN_u 1 ⟨some 70, _, _, _, _, _⟩ _ rfl ?_
   try simp only [Act.put, putA, putB, putC]
   refine wpAnyN_u 2 ⟨some 71, _, _, _, _, _⟩ _ rfl ?_
   try simp only [Act.put, putA, putB, putC]
   refine wpAnyN_u 3 ⟨some 72, _, _, _, _, _⟩ _ rfl ?_
   try simp only [Act.put, putA, putB, putC]
   refine wpAnyN_u 4 ⟨some 73, _, _, _, _, _⟩ _ rfl ?_
   try simp only [Act.put, putA, putB, putC]
   refine wpAnyN_t 5 ⟨some 74, _, _, _, _, _⟩ ?_ rfl ?_ ?_
   rotate_left 1
   ·(intro w hSw; have d0 : w.cell? ⟨cb, co, none⟩ = some (.int .u64 0) := (by rw [(bcell hSw).1 _ _ HCL2.out]; exact kc0); have d1 : w.cell? ⟨cb, co + 1, none⟩ = some (.int .i64 cnt) := (by rw [(bcell hSw).1 _ _ HCL2.out]; exact kc1); have d2 : w.cell? ⟨cb, co + 2, none⟩ = some (.slice lc.ai lc.ni lc.ci) := (by rw [(bcell hSw).1 _ _ HCL2.out]; exact kc2); have d3 : w.cell? ⟨cb, co + 3, none⟩ = some (.slice lc.an lc.nn lc.cn) := (by rw [(bcell hSw).1 _ _ HCL2.out]; exact kc3); go_simp; try with_reducible rfl)
   try simp only [Act.put, putA, putB, putC]
   refine wpAnyN_u 6 ⟨some 75, _, _, _, _, _⟩ _ rfl ?_
   try simp only [Act.put, putA, putB, putC]
   refine wpAnyN_u 7 ⟨some 76, _, _, _, _, _⟩ _ rfl ?_
   try simp only [Act.put, putA, putB, putC]
   refine wpAnyN_t 8 ⟨some 77, _, _, _, _, _⟩ ?_ rfl ?_ ?_
   rotate_left 1
   ·(intro w hSw; have d0 : w.cell? ⟨cb, co, none⟩ = some (.int .u64 0) := (by rw [(bcell hSw).1 _ _ HCL2.out]; exact kc0); have d1 : w.cell? ⟨cb, co + 1, none⟩ = some (.int .i64 cnt) := (by rw [(bcell hSw).1 _ _ HCL2.out]; exact kc1); have d2 : w.cell? ⟨cb, co + 2, none⟩ = some (.slice lc.ai lc.ni lc.ci) := (by rw [(bcell hSw).1 _ _ HCL2.out]; exact kc2); have d3 : w.cell? ⟨cb, co + 3, none⟩ = some (.slice lc.an lc.nn lc.cn) := (by rw [(bcell hSw).1 _ _ HCL2.out]; exact kc3); go_simp; try with_reducible rfl)
   try simp only [Act.put, putA, putB, putC]
   have HB_0 := Lib.hid hHeld
   refine wpAnyN_pair (i := 9) (j := 13) (o := ⟨some 78, _, _, _, _, _⟩) (p := ⟨some 10, _, _, _, _, _⟩) (by kernel_rfl) rfl rfl (fun K hK => ?_) (fun K hK => ?_)
   ·go_simp
    refine (HDV2.out _ (HBw4.out.trans (HB_0.out.mono (hNv _ HBw4.out))) (HBCw4.out.trans (HB_0.out.mono HBCw4.out.size))).mono ?_
    rintro e x1 ⟨rb, rn, rz, re, rfl, hdv, hbn⟩
    have HDD := Lib.hid hdv
    have HB_1 := Lib.hid (HB_0.out.trans (hbn.mono HB_0.out.size))
    clear hdv hbn
    refine hK.out _ _ (by exact HB_1.out) ?_
    clear hK K hHeld
    intro hHeld
    try simp only [Act.put, putA, putB, putC]
    refine wpAnyN_u 10 ⟨some 68, _, _, _, _, _⟩ _ rfl ?_
    try simp only [Act.put, putA, putB, putC]
    refine wpAnyN_u 11 ⟨some 79, _, _, _, _, _⟩ _ rfl ?_
    try simp only [Act.put, putA, putB, putC]
    refine wpAnyN_u 12 ⟨some 80, _, _, _, _, _⟩ _ rfl ?_
    try simp only [Act.put, putA, putB, putC]
    refine wpAnyN_one (i := 13) (o := ⟨some 10, _, _, _, _, _⟩) (by kernel_rfl) rfl (fun K hK => ?_)
    go_simp
    have hbn := (Below.refl x1.heap.size x1).alloc (Nat.le_refl _) (.cells #[.bool false, .int .i64 0, .float .f64 0] 37)
    have HBk := Lib.hid (Blk.new x1 37 #[.bool false, .int .i64 0, .float .f64 0])
    obtain ⟨X, hX⟩ : ∃ X, x1.heap.size = X := ⟨_, rfl⟩
    have HXG : Hid (w4.heap.size ≤ X) := Lib.hid (by have := HB_1.out.size; omega)
    have HX_2 : Hid (Blk (x1.alloc (.cells #[.bool false, .int .i64 0, .float .f64 0] 37)) X 37 #[.bool false, .int .i64 0, .float .f64 0]) := Lib.hid (by rw [← hX]; exact HBk.out)
    rw [hX]
    have HB_2 := Lib.hid (HB_1.out.trans (hbn.mono HB_1.out.size))
    clear HBk hbn
    generalize (x1.alloc (.cells #[.bool false, .int .i64 0, .float .f64 0] 37)) = x2 at *
    clear hX
    refine hK.out _ _ (by exact HB_2.out) ?_
    clear hK K hHeld
    intro hHeld
    try simp only [Act.put, putA, putB, putC]
    have z0 := HX_2.out.c 0
    have z1 := HX_2.out.c 1
    have z2 := HX_2.out.c 2
    have zf : ∀ o, x2.frozen? ⟨X, o, none⟩ = false := fun o => HX_2.out.frozen o
    refine wpAnyN_one (i := 14) (o := ⟨none, _, _, _, _, _⟩) (by kernel_rfl) rfl (fun K hK => ?_)
    go_simp
    clear z0 z1 z2 zf
    have HX_3 := Lib.hid (HX_2.out.three (.bool rb) (.int .i64 rn) (.float .f64 rz))
    have HB_3 := Lib.hid (below_at (below_at (below_at HB_2.out (p := ⟨X, 0, none⟩) HXG.out (.bool rb)) (p := ⟨X, 1, none⟩) HXG.out (.int .i64 rn)) (p := ⟨X, 2, none⟩) HXG.out (.float .f64 rz))
    generalize (((x2.setCell ⟨X, 0, none⟩ (.bool rb)).setCell ⟨X, 1, none⟩ (.int .i64 rn)).setCell ⟨X, 2, none⟩ (.float .f64 rz)) = x3 at *
    refine hK.out _ _ (by exact HB_3.out) ?_
    clear hK K hHeld
    intro hHeld
    try simp only [Act.put, putA, putB, putC]
    refine wpAnyN_u 15 ⟨some 11, _, _, _, _, _⟩ _ rfl ?_
    try simp only [Act.put, putA, putB, putC]
    refine wpAnyN_end (by kernel_rfl) ?_
    try go_wp2_with fail
    go_meet
    exact ⟨X, rb, rn, rz, re, rfl, rfl, HX_3.out, HDD.out, HB_3.out⟩
   ·go_simp
    have hbn := (Below.refl x0.heap.size x0).alloc (Nat.le_refl _) (.cells #[.bool false, .int .i64 0, .float .f64 0] 37)
    have HBk := Lib.hid (Blk.new x0 37 #[.bool false, .int .i64 0, .float .f64 0])
    obtain ⟨X, hX⟩ : ∃ X, x0.heap.size = X := ⟨_, rfl⟩
    have HXG : Hid (w4.heap.size ≤ X) := Lib.hid (by have := HB_0.out.size; omega)
    have HX_1 : Hid (Blk (x0.alloc (.cells #[.bool false, .int .i64 0, .float .f64 0] 37)) X 37 #[.bool false, .int .i64 0, .float .f64 0]) := Lib.hid (by rw [← hX]; exact HBk.out)
    rw [hX]
    have HB_1 := Lib.hid (HB_0.out.trans (hbn.mono HB_0.out.size))
    clear HBk hbn
    generalize (x0.alloc (.cells #[.bool false, .int .i64 0, .float .f64 0] 37)) = x1 at *
    clear hX
    refine hK.out _ _ (by exact HB_1.out) ?_
    clear hK K hHeld
    intro hHeld
    try simp only [Act.put, putA, putB, putC]
    refine wpAnyN_one (i := 9) (o := ⟨some 78, _, _, _, _, _⟩) (by kernel_rfl) rfl (fun K hK => ?_)
    go_simp
    refine (HDV2.out _ (HBw4.out.trans (HB_1.out.mono (hNv _ HBw4.out))) (HBCw4.out.trans (HB_1.out.mono HBCw4.out.size))).mono ?_
    rintro e x2 ⟨rb, rn, rz, re, rfl, hdv, hbn⟩
    have HDD := Lib.hid hdv
    have HB_2 := Lib.hid (HB_1.out.trans (hbn.mono HB_1.out.size))
    have HX_2 := Lib.hid (HX_1.out.below hbn HX_1.out.lt)
    clear hdv hbn
    refine hK.out _ _ (by exact HB_2.out) ?_
    clear hK K hHeld
    intro hHeld
    try simp only [Act.put, putA, putB, putC]
    refine wpAnyN_u 10 ⟨some 68, _, _, _, _, _⟩ _ rfl ?_
    try simp only [Act.put, putA, putB, putC]
    refine wpAnyN_u 11 ⟨some 79, _, _, _, _, _⟩ _ rfl ?_
    try simp only [Act.put, putA, putB, putC]
    refine wpAnyN_u 12 ⟨some 80, _, _, _, _, _⟩ _ rfl ?_
    try simp only [Act.put, putA, putB, putC]
    have z0 := HX_2.out.c 0
    have z1 := HX_2.out.c 1
    have z2 := HX_2.out.c 2
    have zf : ∀ o, x2.frozen? ⟨X, o, none⟩ = false := fun o => HX_2.out.frozen o
    refine wpAnyN_one (i := 14) (o := ⟨none, _, _, _, _, _⟩) (by kernel_rfl) rfl (fun K hK => ?_)
    go_simp
    clear z0 z1 z2 zf
    have HX_3 := Lib.hid (HX_2.out.three (.bool rb) (.int .i64 rn) (.float .f64 rz))
    have HB_3 := Lib.hid (below_at (below_at (below_at HB_2.out (p := ⟨X, 0, none⟩) HXG.out (.bool rb)) (p := ⟨X, 1, none⟩) HXG.out (.int .i64 rn)) (p := ⟨X, 2, none⟩) HXG.out (.float .f64 rz))
    generalize (((x2.setCell ⟨X, 0, none⟩ (.bool rb)).setCell ⟨X, 1, none⟩ (.int .i64 rn)).setCell ⟨X, 2, none⟩ (.float .f64 rz)) = x3 at *
    refine hK.out _ _ (by exact HB_3.out) ?_
    clear hK K hHeld
    intro hHeld
    try simp only [Act.put, putA, putB, putC]
    refine wpAnyN_u 15 ⟨some 11, _, _, _, _, _⟩ _ rfl ?_
    try simp only [Act.put, putA, putB, putC]
    refine wpAnyN_end (by kernel_rfl) ?_
    try go_wp2_with fail
    go_meet
    exact ⟨X, rb, rn, rz, re, rfl, rfl, HX_3.out, HDD.out, HB_3.out⟩
  case rest =>
  obtain ⟨X2, r2, n2, z2, e2, rfl, rfl, hX, hp, hbx⟩ := hcut
  generalize wc = w5 at *
  have HX2 := Lib.hid hX
  have HPP2 := Lib.hid hp
  replace HX1 := Lib.hid (HX1.out.below hbx HX1.out.lt)
  have HBw5 := Lib.hid (HBw4.out.trans (hbx.mono (hNv _ HBw4.out)))
  have HBCw5 := Lib.hid (HBCw4.out.trans (hbx.mono HBCw4.out.size))
  clear hX hp hbx HDV2 kc0 kc1 kc2 kc3 HKR2 HCL2
  obtain ⟨P3, hP3⟩ : ∃ P, DVal s 4 (j : Int) (⟨0, cnt, xs, us⟩ : CellV) (⟨0, cnt, xs, us⟩ : CellV) (rvB s 4 (j : Int) (⟨0, cnt, xs, us⟩ : CellV)) = P := ⟨_, rfl⟩
  have HDV3 : Hid (∀ v, Below N w0 v → Below w3.heap.size w3 v → Calls Tryz.prog 8 #[.agg #[.slice ad nd cd, .slice ai ni ci, .slice an nn cn, .slice av nv cv], .agg #[.int .i64 4, .int .i64 (j : Int)], .agg #[.int .u64 0, .int .i64 cnt, .slice lc.ai lc.ni lc.ci, .slice lc.an lc.nn lc.cn], .agg #[.int .u64 0, .int .i64 cnt, .slice lc.ai lc.ni lc.ci, .slice lc.an lc.nn lc.cn]] v (RDVal P3 v)) := Lib.hid (fun v h1 h2 => by
   have h := dvalue_any v ⟨ad, nd, cd, ai, ni, ci, an, nn, cn, av, nv, cv⟩ s 4 (j : Int) lc lc (⟨0, cnt, xs, us⟩ : CellV) (⟨0, cnt, xs, us⟩ : CellV) (rvB s 4 (j : Int) (⟨0, cnt, xs, us⟩ : CellV)) (HS.out.below h1 (Nat.le_of_eq HN.out)) ⟨by omega, by omega⟩ ⟨by omega, by omega⟩ (HRO.out.2.below h2 (Nat.le_refl _)) (HRO.out.2.below h2 (Nat.le_refl _)) (Lib.hid HSQ.out) (real_callB _ _ _ _ HRO.out.2.2.2.2.2.2.1)
   rw [hP3] at h
   exact h)
  have HP3 := Lib.hid hP3
  clear hP3
  have kc0 : w5.cell? ⟨cb, co, none⟩ = some (.int .u64 0) := by rw [(bcell HBCw5.out).1 _ _ HCB.out]; exact HCC.out 0 (by decide)
  have kc1 : w5.cell? ⟨cb, co + 1, none⟩ = some (.int .i64 cnt) := by rw [(bcell HBCw5.out).1 _ _ HCB.out]; exact HCC.out 1 (by decide)
  have kc2 : w5.cell? ⟨cb, co + 2, none⟩ = some (.slice lc.ai lc.ni lc.ci) := by rw [(bcell HBCw5.out).1 _ _ HCB.out]; exact HCC.out 2 (by decide)
  have kc3 : w5.cell? ⟨cb, co + 3, none⟩ = some (.slice lc.an lc.nn lc.cn) := by rw [(bcell HBCw5.out).1 _ _ HCB.out]; exact HCC.out 3 (by decide)
  have HKR3 : Hid (Blk w5 S 26 #[.slice ad nd cd, .slice ai ni ci, .slice an nn cn, .slice av nv cv]) := Lib.hid (HK.out.below HBw5.out HSN.out)
  have HCL3 : Hid (cb < w5.heap.size) := Lib.hid (Nat.lt_of_lt_of_le HCB.out HBCw5.out.size)
  go_upto_region 11 with fail
  go_cut [12, 13] (fun p q wx => ∃ (X : Nat) (r : Bool) (n : Int) (z er : Nat), p = .pointer (some ⟨X, 0, none⟩) ∧ q = .int .i64 (er : Int) ∧ Blk wx X 37 #[.bool r, .int .i64 n, .float .f64 z] ∧ P3 r n z er ∧ Below w5.heap.size w5 wx)
  case first =>
   as_aux_lemma =>
   refine wp_regionN (fun w' => Below w5.heap.size w5 w') [] (by kernel_rfl) (by exact (Below.refl _ _).drew) (fun hHeld => ?_)
   generalize w5.drew = x0 at *
   refine wpAnyN_t 0 ⟨some 82, _, _, _, _, _⟩ ?_ rfl ?_ ?_
   rotate_left 1
   ·(intro w hSw; have d0 := (HKR3.out.below hSw HKR3.out.lt).c 0; have d1 := (HKR3.out.below hSw HKR3.out.lt).c 1; have d2 := (HKR3.out.below hSw HKR3.out.lt).c 2; have d3 := (HKR3.out.below hSw HKR3.out.lt).c 3; go_simp; try with_reducible rfl)
   try simp only [Act.put, putA, putB, putC]
   refine wpAnyN_u 1 ⟨some 83, _, _, _, _, _⟩ _ rfl ?_
   try simp only [Act.put, putA, putB, putC]
   refine wpAnyN_u 2 ⟨some 84, _, _, _, _, _⟩ _ rfl ?_
   try simp only [Act.put, putA, putB, putC]
   refine wpAnyN_u 3 ⟨some 85, _, _, _, _, _⟩ _ rfl ?_
   try simp only [Act.put, putA, putB, putC]
   refine wpAnyN_u 4 ⟨some 86, _, _, _, _, _⟩ _ rfl ?_
   try simp only [Act.put, putA, putB, putC]
   refine wpAnyN_t 5 ⟨some 87, _, _, _, _, _⟩ ?_ rfl ?_ ?_
   rotate_left 1
   ·(intro w hSw; have d0 : w.cell? ⟨cb, co, none⟩ = some (.int .u64 0) := (by rw [(bcell hSw).1 _ _ HCL3.out]; exact kc0); have d1 : w.cell? ⟨cb, co + 1, none⟩ = some (.int .i64 cnt) := (by rw [(bcell hSw).1 _ _ HCL3.out]; exact kc1); have d2 : w.cell? ⟨cb, co + 2, none⟩ = some (.slice lc.ai lc.ni lc.ci) := (by rw [(bcell hSw).1 _ _ HCL3.out]; exact kc2); have d3 : w.cell? ⟨cb, co + 3, none⟩ = some (.slice lc.an lc.nn lc.cn) := (by rw [(bcell hSw).1 _ _ HCL3.out]; exact kc3); go_simp; try with_reducible rfl)
   try simp only [Act.put, putA, putB, putC]
   refine wpAnyN_u 6 ⟨some 88, _, _, _, _, _⟩ _ rfl ?_
   try simp only [Act.put, putA, putB, putC]
   refine wpAnyN_u 7 ⟨some 89, _, _, _, _, _⟩ _ rfl ?_
   try simp only [Act.put, putA, putB, putC]
   refine wpAnyN_t 8 ⟨some 90, _, _, _, _, _⟩ ?_ rfl ?_ ?_
   rotate_left 1
   ·(intro w hSw; have d0 : w.cell? ⟨cb, co, none⟩ = some (.int .u64 0) := (by rw [(bcell hSw).1 _ _ HCL3.out]; exact kc0); have d1 : w.cell? ⟨cb, co + 1, none⟩ = some (.int .i64 cnt) := (by rw [(bcell hSw).1 _ _ HCL3.out]; exact kc1); have d2 : w.cell? ⟨cb, co + 2, none⟩ = some (.slice lc.ai lc.ni lc.ci) := (by rw [(bcell hSw).1 _ _ HCL3.out]; exact kc2); have d3 : w.cell? ⟨cb, co + 3, none⟩ = some (.slice lc.an lc.nn lc.cn) := (by rw [(bcell hSw).1 _ _ HCL3.out]; exact kc3); go_simp; try with_reducible rfl)
   try simp only [Act.put, putA, putB, putC]
   have HB_0 := Lib.hid hHeld
   refine wpAnyN_pair (i := 9) (j := 13) (o := ⟨some 91, _, _, _, _, _⟩) (p := ⟨some 12, _, _, _, _, _⟩) (by kernel_rfl) rfl rfl (fun K hK => ?_) (fun K hK => ?_)
   ·go_simp
    refine (HDV3.out _ (HBw5.out.trans (HB_0.out.mono (hNv _ HBw5.out))) (HBCw5.out.trans (HB_0.out.mono HBCw5.out.size))).mono ?_
    rintro e x1 ⟨rb, rn, rz, re, rfl, hdv, hbn⟩
    have HDD := Lib.hid hdv
    have HB_1 := Lib.hid (HB_0.out.trans (hbn.mono HB_0.out.size))
    clear hdv hbn
    refine hK.out _ _ (by exact HB_1.out) ?_
    clear hK K hHeld
    intro hHeld
    try simp only [Act.put, putA, putB, putC]
    refine wpAnyN_u 10 ⟨some 81, _, _, _, _, _⟩ _ rfl ?_
    try simp only [Act.put, putA, putB, putC]
    refine wpAnyN_u 11 ⟨some 92, _, _, _, _, _⟩ _ rfl ?_
    try simp only [Act.put, putA, putB, putC]
    refine wpAnyN_u 12 ⟨some 93, _, _, _, _, _⟩ _ rfl ?_
    try simp only [Act.put, putA, putB, putC]
    refine wpAnyN_one (i := 13) (o := ⟨some 12, _, _, _, _, _⟩) (by kernel_rfl) rfl (fun K hK => ?_)
    go_simp
    have hbn := (Below.refl x1.heap.size x1).alloc (Nat.le_refl _) (.cells #[.bool false, .int .i64 0, .float .f64 0] 37)
    have HBk := Lib.hid (Blk.new x1 37 #[.bool false, .int .i64 0, .float .f64 0])
    obtain ⟨X, hX⟩ : ∃ X, x1.heap.size = X := ⟨_, rfl⟩
    have HXG : Hid (w5.heap.size ≤ X) := Lib.hid (by have := HB_1.out.size; omega)
    have HX_2 : Hid (Blk (x1.alloc (.cells #[.bool false, .int .i64 0, .float .f64 0] 37)) X 37 #[.bool false, .int .i64 0, .float .f64 0]) := Lib.hid (by rw [← hX]; exact HBk.out)
    rw [hX]
    have HB_2 := Lib.hid (HB_1.out.trans (hbn.mono HB_1.out.size))
    clear HBk hbn
    generalize (x1.alloc (.cells #[.bool false, .int .i64 0, .float .f64 0] 37)) = x2 at *
    clear hX
    refine hK.out _ _ (by exact HB_2.out) ?_
    clear hK K hHeld
    intro hHeld
    try simp only [Act.put, putA, putB, putC]
    have z0 := HX_2.out.c 0
    have z1 := HX_2.out.c 1
    have z2 := HX_2.out.c 2
    have zf : ∀ o, x2.frozen? ⟨X, o, none⟩ = false := fun o => HX_2.out.frozen o
    refine wpAnyN_one (i := 14) (o := ⟨none, _, _, _, _, _⟩) (by kernel_rfl) rfl (fun K hK => ?_)
    go_simp
    clear z0 z1 z2 zf
    have HX_3 := Lib.hid (HX_2.out.three (.bool rb) (.int .i64 rn) (.float .f64 rz))
    have HB_3 := Lib.hid (below_at (below_at (below_at HB_2.out (p := ⟨X, 0, none⟩) HXG.out (.bool rb)) (p := ⟨X, 1, none⟩) HXG.out (.int .i64 rn)) (p := ⟨X, 2, none⟩) HXG.out (.float .f64 rz))
    generalize (((x2.setCell ⟨X, 0, none⟩ (.bool rb)).setCell ⟨X, 1, none⟩ (.int .i64 rn)).setCell ⟨X, 2, none⟩ (.float .f64 rz)) = x3 at *
    refine hK.out _ _ (by exact HB_3.out) ?_
    clear hK K hHeld
    intro hHeld
    try simp only [Act.put, putA, putB, putC]
    refine wpAnyN_u 15 ⟨some 13, _, _, _, _, _⟩ _ rfl ?_
    try simp only [Act.put, putA, putB, putC]
    refine wpAnyN_end (by kernel_rfl) ?_
    try go_wp2_with fail
    go_meet
    exact ⟨X, rb, rn, rz, re, rfl, rfl, HX_3.out, HDD.out, HB_3.out⟩
   ·go_simp
    have hbn := (Below.refl x0.heap.size x0).alloc (Nat.le_refl _) (.cells #[.bool false, .int .i64 0, .float .f64 0] 37)
    have HBk := Lib.hid (Blk.new x0 37 #[.bool false, .int .i64 0, .float .f64 0])
    obtain ⟨X, hX⟩ : ∃ X, x0.heap.size = X := ⟨_, rfl⟩
    have HXG : Hid (w5.heap.size ≤ X) := Lib.hid (by have := HB_0.out.size; omega)
    have HX_1 : Hid (Blk (x0.alloc (.cells #[.bool false, .int .i64 0, .float .f64 0] 37)) X 37 #[.bool false, .int .i64 0, .float .f64 0]) := Lib.hid (by rw [← hX]; exact HBk.out)
    rw [hX]
    have HB_1 := Lib.hid (HB_0.out.trans (hbn.mono HB_0.out.size))
    clear HBk hbn
    generalize (x0.alloc (.cells #[.bool false, .int .i64 0, .float .f64 0] 37)) = x1 at *
    clear hX
    refine hK.out _ _ (by exact HB_1.out) ?_
    clear hK K hHeld
    intro hHeld
    try simp only [Act.put, putA, putB, putC]
    refine wpAnyN_one (i := 9) (o := ⟨some 91, _, _, _, _, _⟩) (by kernel_rfl) rfl (fun K hK => ?_)
    go_simp
    refine (HDV3.out _ (HBw5.out.trans (HB_1.out.mono (hNv _ HBw5.out))) (HBCw5.out.trans (HB_1.out.mono HBCw5.out.size))).mono ?_
    rintro e x2 ⟨rb, rn, rz, re, rfl, hdv, hbn⟩
    have HDD := Lib.hid hdv
    have HB_2 := Lib.hid (HB_1.out.trans (hbn.mono HB_1.out.size))
    have HX_2 := Lib.hid (HX_1.out.below hbn HX_1.out.lt)
    clear hdv hbn
    refine hK.out _ _ (by exact HB_2.out) ?_
    clear hK K hHeld
    intro hHeld
    try simp only [Act.put, putA, putB, putC]
    refine wpAnyN_u 10 ⟨some 81, _, _, _, _, _⟩ _ rfl ?_
    try simp only [Act.put, putA, putB, putC]
    refine wpAnyN_u 11 ⟨some 92, _, _, _, _, _⟩ _ rfl ?_
    try simp only [Act.put, putA, putB, putC]
    refine wpAnyN_u 12 ⟨some 93, _, _, _, _, _⟩ _ rfl ?_
    try simp only [Act.put, putA, putB, putC]
    have z0 := HX_2.out.c 0
    have z1 := HX_2.out.c 1
    have z2 := HX_2.out.c 2
    have zf : ∀ o, x2.frozen? ⟨X, o, none⟩ = false := fun o => HX_2.out.frozen o
    refine wpAnyN_one (i := 14) (o := ⟨none, _, _, _, _, _⟩) (by kernel_rfl) rfl (fun K hK => ?_)
    go_simp
    clear z0 z1 z2 zf
    have HX_3 := Lib.hid (HX_2.out.three (.bool rb) (.int .i64 rn) (.float .f64 rz))
    have HB_3 := Lib.hid (below_at (below_at (below_at HB_2.out (p := ⟨X, 0, none⟩) HXG.out (.bool rb)) (p := ⟨X, 1, none⟩) HXG.out (.int .i64 rn)) (p := ⟨X, 2, none⟩) HXG.out (.float .f64 rz))
    generalize (((x2.setCell ⟨X, 0, none⟩ (.bool rb)).setCell ⟨X, 1, none⟩ (.int .i64 rn)).setCell ⟨X, 2, none⟩ (.float .f64 rz)) = x3 at *
    refine hK.out _ _ (by exact HB_3.out) ?_
    clear hK K hHeld
    intro hHeld
    try simp only [Act.put, putA, putB, putC]
    refine wpAnyN_u 15 ⟨some 13, _, _, _, _, _⟩ _ rfl ?_
    try simp only [Act.put, putA, putB, putC]
    refine wpAnyN_end (by kernel_rfl) ?_
    try go_wp2_with fail
    go_meet
    exact ⟨X, rb, rn, rz, re, rfl, rfl, HX_3.out, HDD.out, HB_3.out⟩
  case rest =>
  obtain ⟨X3, r3, n3, z3, e3, rfl, rfl, hX, hp, hbx⟩ := hcut
  generalize wc = w6 at *
  have HX3 := Lib.hid hX
  have HPP3 := Lib.hid hp
  replace HX1 := Lib.hid (HX1.out.below hbx HX1.out.lt)
  replace HX2 := Lib.hid (HX2.out.below hbx HX2.out.lt)
  have HBw6 := Lib.hid (HBw5.out.trans (hbx.mono (hNv _ HBw5.out)))
  have HBCw6 := Lib.hid (HBCw5.out.trans (hbx.mono HBCw5.out.size))
  clear hX hp hbx HDV3 kc0 kc1 kc2 kc3 HKR3 HCL3
  have HTV := Lib.hid (three_vals (s := s) (i := j) HKZ.out (by rw [HLL.out.2.1, HLL.out.2.2]; exact HCI.out) (by have := HZ1.out; omega) (by rw [HLL.out.2.1, HLL.out.2.2]; have := HT.out; omega) (fun y hy => (HRO.out.2.2.2.2.2.2.2.2 y hy).2.2) (by rw [HP1.out]; exact HPP1.out) (by rw [HP2.out]; exact HPP2.out) (by rw [HP3.out]; exact HPP3.out))
  obtain ⟨rfl, rfl, rfl, rfl, -, -⟩ := HTV.out
  have HBTW : Hid ((j < ni → Btw (floatOfInt .f64 n1) (floatOfInt .f64 n2) z3) ∧ (ni ≤ j → Btw z1 z2 z3)) := Lib.hid (by have h := HTV.out.2.2.2.2; rw [HLL.out.2.1] at h; exact h)
  clear HTV HPP1 HPP2 HPP3 HP1 HP2 HP3
  have HKR6 : Hid (Blk w6 S 26 #[.slice ad nd cd, .slice ai ni ci, .slice an nn cn, .slice av nv cv]) := Lib.hid (HK.out.below HBw6.out HSN.out)
  have a1 := HX1.out.c 1
  have a2 := HX1.out.c 2
  have b1 := HX2.out.c 1
  have b2 := HX2.out.c 2
  have m0 := HX3.out.c 0
  have m2 := HX3.out.c 2
  have s1 := HKR6.out.c 1
  by_cases hw : j < ni
  case pos =>
   have HBT : Hid (Btw (floatOfInt .f64 n1) (floatOfInt .f64 n2) z3) := Lib.hid (HBTW.out.1 hw)
   go_wp2_with fail
   go_quiet (fail)
   have HBw7 := Lib.hid (sbelow_dn HBw6.out nq)
   have HBCw7 := Lib.hid (sbelow_dn HBCw6.out nq)
   replace a1 : (w6.drewN nq).cell? ⟨X1, 1, none⟩ = some (.int .i64 n1) := a1
   replace a2 : (w6.drewN nq).cell? ⟨X1, 2, none⟩ = some (.float .f64 z1) := a2
   replace b1 : (w6.drewN nq).cell? ⟨X2, 1, none⟩ = some (.int .i64 n2) := b1
   replace b2 : (w6.drewN nq).cell? ⟨X2, 2, none⟩ = some (.float .f64 z2) := b2
   replace m0 : (w6.drewN nq).cell? ⟨X3, 0, none⟩ = some (.bool true) := m0
   replace m2 : (w6.drewN nq).cell? ⟨X3, 2, none⟩ = some (.float .f64 z3) := m2
   replace s1 : (w6.drewN nq).cell? ⟨S, 1, none⟩ = some (.slice ai ni ci) := s1
   generalize (w6.drewN nq) = w7 at *
   go_wp2_with fail
   go_quiet (fail)
   have HBw8 := Lib.hid (sbelow_dn HBw7.out nq)
   have HBCw8 := Lib.hid (sbelow_dn HBCw7.out nq)
   replace a1 : (w7.drewN nq).cell? ⟨X1, 1, none⟩ = some (.int .i64 n1) := a1
   replace a2 : (w7.drewN nq).cell? ⟨X1, 2, none⟩ = some (.float .f64 z1) := a2
   replace b1 : (w7.drewN nq).cell? ⟨X2, 1, none⟩ = some (.int .i64 n2) := b1
   replace b2 : (w7.drewN nq).cell? ⟨X2, 2, none⟩ = some (.float .f64 z2) := b2
   replace m0 : (w7.drewN nq).cell? ⟨X3, 0, none⟩ = some (.bool true) := m0
   replace m2 : (w7.drewN nq).cell? ⟨X3, 2, none⟩ = some (.float .f64 z3) := m2
   replace s1 : (w7.drewN nq).cell? ⟨S, 1, none⟩ = some (.slice ai ni ci) := s1
   generalize (w7.drewN nq) = w8 at *
   go_upto_region 17 with fail
   obtain ⟨A, hA⟩ : ∃ A, floatOfInt .f64 n1 = A := ⟨_, rfl⟩
   obtain ⟨B, hB⟩ : ∃ B, floatOfInt .f64 n2 = B := ⟨_, rfl⟩
   rw [hA, hB] at HBT
   rw [hA, hB]
   clear hA hB a1 a2 b1 b2 m0 s1
   have HAB := Lib.hid (And.intro HBT.out.1 HBT.out.2.1)
   by_cases fa : A % S63 < INF
   ·by_cases fb : B % S63 < INF
    ·obtain ⟨t5, t6, t7⟩ := btw_cmp HBT.out fa fb
     have hrun1 := run_float_arith (P := Tryz.prog) w8 .sub 35 .f64 A A 0 (sub_self_fin HAB.out.1 fa)
     have hrun2 := run_float_arith (P := Tryz.prog) w8 .sub 35 .f64 B B 0 (sub_self_fin HAB.out.2 fb)
     have hrz : FloatKind.f64.format.order 0 0 = some .eq := by decide
     clear fa fb
     go_wp2_with fail
     go_roundg (T - j - 1)
     case measure => have := HQQ.out; omega
     case rel => exact ⟨j + 1, by go_num, by have := HQQ.out; omega, HBw8.out, HBCw8.out⟩
    ·have hrun1 := run_float_arith (P := Tryz.prog) w8 .sub 35 .f64 A A 0 (sub_self_fin HAB.out.1 fa)
     obtain ⟨rq, hr0, hr1, hrun2⟩ := run_float_nan .sub 35 B B (sub_big HAB.out.2 (by omega)) (by simp) w8
     have hrz : FloatKind.f64.format.order 0 0 = some .eq := by decide
     have hrn : FloatKind.f64.format.order rq 0 = none := order_nan (.inl hr1)
     clear fa fb hr0 hr1
     go_wp2_with fail
     go_roundg (T - j - 1)
     case measure => have := HQQ.out; omega
     case rel => exact ⟨j + 1, by go_num, by have := HQQ.out; omega, HBw8.out.drew, HBCw8.out.drew⟩
   ·obtain ⟨rq, hr0, hr1, hrun1⟩ := run_float_nan .sub 35 A A (sub_big HAB.out.1 (by omega)) (by simp) w8
    have hrn : FloatKind.f64.format.order rq 0 = none := order_nan (.inl hr1)
    clear fa hr0 hr1
    go_wp2_with fail
    go_roundg (T - j - 1)
    case measure => have := HQQ.out; omega
    case rel => exact ⟨j + 1, by go_num, by have := HQQ.out; omega, HBw8.out.drew, HBCw8.out.drew⟩
  case neg =>
   have HBT : Hid (Btw z1 z2 z3) := Lib.hid (HBTW.out.2 (by omega))
   go_wp2_with fail
   go_quiet (fail)
   have HBw7 := Lib.hid (sbelow_dn HBw6.out nq)
   have HBCw7 := Lib.hid (sbelow_dn HBCw6.out nq)
   replace a1 : (w6.drewN nq).cell? ⟨X1, 1, none⟩ = some (.int .i64 n1) := a1
   replace a2 : (w6.drewN nq).cell? ⟨X1, 2, none⟩ = some (.float .f64 z1) := a2
   replace b1 : (w6.drewN nq).cell? ⟨X2, 1, none⟩ = some (.int .i64 n2) := b1
   replace b2 : (w6.drewN nq).cell? ⟨X2, 2, none⟩ = some (.float .f64 z2) := b2
   replace m0 : (w6.drewN nq).cell? ⟨X3, 0, none⟩ = some (.bool true) := m0
   replace m2 : (w6.drewN nq).cell? ⟨X3, 2, none⟩ = some (.float .f64 z3) := m2
   replace s1 : (w6.drewN nq).cell? ⟨S, 1, none⟩ = some (.slice ai ni ci) := s1
   generalize (w6.drewN nq) = w7 at *
   go_upto_region 17 with fail
   clear a1 a2 b1 b2 m0 s1
   have HAB := Lib.hid (And.intro HBT.out.1 HBT.out.2.1)
   by_cases fa : z1 % S63 < INF
   ·by_cases fb : z2 % S63 < INF
    ·obtain ⟨t5, t6, t7⟩ := btw_cmp HBT.out fa fb
     have hrun1 := run_float_arith (P := Tryz.prog) w7 .sub 35 .f64 z1 z1 0 (sub_self_fin HAB.out.1 fa)
     have hrun2 := run_float_arith (P := Tryz.prog) w7 .sub 35 .f64 z2 z2 0 (sub_self_fin HAB.out.2 fb)
     have hrz : FloatKind.f64.format.order 0 0 = some .eq := by decide
     clear fa fb
     go_wp2_with fail
     go_roundg (T - j - 1)
     case measure => have := HQQ.out; omega
     case rel => exact ⟨j + 1, by go_num, by have := HQQ.out; omega, HBw7.out, HBCw7.out⟩
    ·have hrun1 := run_float_arith (P := Tryz.prog) w7 .sub 35 .f64 z1 z1 0 (sub_self_fin HAB.out.1 fa)
     obtain ⟨rq, hr0, hr1, hrun2⟩ := run_float_nan .sub 35 z2 z2 (sub_big HAB.out.2 (by omega)) (by simp) w7
     have hrz : FloatKind.f64.format.order 0 0 = some .eq := by decide
     have hrn : FloatKind.f64.format.order rq 0 = none := order_nan (.inl hr1)
     clear fa fb hr0 hr1
     go_wp2_with fail
     go_roundg (T - j - 1)
     case measure => have := HQQ.out; omega
     case rel => exact ⟨j + 1, by go_num, by have := HQQ.out; omega, HBw7.out.drew, HBCw7.out.drew⟩
   ·obtain ⟨rq, hr0, hr1, hrun1⟩ := run_float_nan .sub 35 z1 z1 (sub_big HAB.out.1 (by omega)) (by simp) w7
    have hrn : FloatKind.f64.format.order rq 0 = none := order_nan (.inl hr1)
    clear fa hr0 hr1
    go_wp2_with fail
    go_roundg (T - j - 1)
    case measure => have := HQQ.out; omega
    case rel => exact ⟨j + 1, by go_num, by have := HQQ.out; omega, HBw7.out.drew, HBCw7.out.drew⟩

 case neg =>
 obtain rfl : T = j := by have := HQQ.out; omega
 clear hlt

 go_wp2_with fail
 refine (awake_der _).mono ?_
 rintro e w9 ⟨rfl, hb9⟩
 have HB9 := Lib.hid (HB.out.trans (hb9.mono (hNv _ HB.out)))
 clear hb9
 go_wp2_with fail
 go_ret
 exact ⟨rfl, by rw [HSS.out]; exact HBW.out.trans (HB9.out.mono (Nat.le_of_lt HSN.out))⟩
end Go.Proofs.YtehmompbmnejkaaGreat
