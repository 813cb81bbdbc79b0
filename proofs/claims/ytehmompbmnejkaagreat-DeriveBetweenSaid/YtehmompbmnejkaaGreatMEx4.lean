/- Contract of package bushelref05's Add at a finite number that is no nought, and at any. -/
import Derived.Test.YtehmompbmnejkaaGreatExP
import Derived.Test.YtehmompbmnejkaaGreatMReg
namespace Go.Proofs.YtehmompbmnejkaaGreat
open Go.RowKit Ieee

theorem unitsOf_room {x : Nat} (h : iv (x % S63) < ROOM) : (unitsOf x).natAbs < ROOM := by
 unfold unitsOf signU
 split
 ·rw [Int.natAbs_neg, Int.natAbs_natCast]; exact h
 ·rw [Int.natAbs_natCast]; exact h
set_option maxRecDepth 100000 in
set_option maxHeartbeats 4000000 in
theorem rsadd_fin (w : World) (b x : Nat) (z : Int) (n u e m p na : Bool) (a : Option Addr) (l c : Nat) (hN : NumC w na a l c z) (hz : z.natAbs < ROOM) (hx : x < 18446744073709551616) (hk : kindZ x = 1)
  (hn : fN b = n) (hu : fU b = u) (he : fD b = e) (hm : fM b = m) (hp : fP b = p) :
  Calls Tryz.prog 63 #[.agg #[.bool n, .bool u, .bool e, .bool m, .bool p, .bool na, .slice a l c], .float .f64 x] w (RRS (addF b z x) (addZ z x) (addOk z x) w) := by
 have HSP := Lib.hid (fun w => rsplit_any x w hx)
 have HKI := Lib.hid (fun w => rkind_any x w hx)
 have HN := Lib.hid hN
 rw [hk] at HKI
 have hF : addF b z x = joinF b 16 z (unitsOf x) ∧ addOk z x = decide ((z + unitsOf x).natAbs < ROOM) ∧ addZ z x = putZ z (unitsOf x) := by
  unfold addF addOk addZ joinF
  rw [hk]
  refine ⟨?_, rfl, rfl⟩
  rw [if_neg (by decide), if_neg (by decide), if_neg (by decide)]
  by_cases h : (z + unitsOf x).natAbs < ROOM
  ·rw [if_pos h, decide_eq_true h]; rfl
  ·rw [if_neg h, decide_eq_false h]; rfl
 rw [hF.1, hF.2.1, hF.2.2]
 obtain ⟨hr1, hr2⟩ := iv_room hk
 have HNG : Hid (∀ ng m ee, SplitOut x ng m ee → ∃ M k : Nat, ng = decide (S63 ≤ x) ∧ m = (M : Int) ∧ ee = (k : Int) - 1074 ∧ M * 2 ^ k = iv (x % S63) ∧ M ≤ 9007199254740992 ∧ k ≤ 2240) := Lib.hid (fun ng m ee h => by
  rcases h with ⟨h, -⟩ | ⟨-, h1, M, k, h2, h3, h4⟩
  ·exact absurd hk h
  ·have h5 := odd_place h4 (show iv (x % S63) < 2 ^ K2240 by rw [← room_eq]; exact hr1)
   have h6 := odd_le53 h4
   have h7 : k ≤ 2240 := h5.1
   exact ⟨M, k, h1, h2, h3, h4.1.symm, by omega, h7⟩)
 have HZ := Lib.hid hz
 have HY : Hid ((unitsOf x).natAbs < ROOM) := Lib.hid (unitsOf_room hr1)
 have HFL := Lib.hid (And.intro hn (And.intro hu (And.intro he (And.intro hm hp))))
 clear hF hn hu he hm hp hN hx hk hr1 hr2 hz
 go_enter Tryz.func63, Tryz.ntmps63
 go_upto_region 1 with fail
 obtain ⟨hk0, hk1, hbw, -⟩ := two_bx w 89 #[.bool n, .bool u, .bool e, .bool m, .bool p, .bool na, .slice a l c] #[.bool false, .bool false, .bool false, .bool false, .bool false, .bool false, .slice none 0 0]
 generalize ((w.alloc (.cells #[.bool n, .bool u, .bool e, .bool m, .bool p, .bool na, .slice a l c] 89)).alloc (.cells #[.bool false, .bool false, .bool false, .bool false, .bool false, .bool false, .slice none 0 0] 89)) = w7 at *
 have HN7 := Lib.hid (HN.out.below hbw (Nat.le_refl _))
 have HB7 := Lib.hid hbw
 generalize hsz0 : w.heap.size = s at *
 have HSZ := Lib.hid hsz0
 have HK0 := Lib.hid hk0
 have HK1 := Lib.hid hk1
 clear hk0 hk1 hsz0 hbw
 go_wp2_with fail
 refine (HSP.out _).mono ?_; rintro ee w8 ⟨ng, mm, xx, rfl, hsp, hb8⟩
 obtain ⟨M, k, hng, rfl, rfl, hMk, hM, hk2⟩ := HNG.out ng mm xx hsp
 clear hsp
 have HSG := Lib.hid hng
 have HMK := Lib.hid hMk
 clear hng hMk
 have HB8 := Lib.hid (HB7.out.trans (hb8.mono (by rw [← HSZ.out]; exact HB7.out.size)))
 have HN8 := Lib.hid (HN7.out.below hb8 (Nat.le_refl _))
 have HK08 := Lib.hid (HK0.out.below hb8 HK0.out.lt)
 have HK18 := Lib.hid (HK1.out.below hb8 HK1.out.lt)
 clear hb8 HB7 HN7 HK0 HK1
 go_wp2_with fail
 refine (HKI.out _).mono ?_; rintro ee w9 ⟨rfl, hb9⟩
 have HB9 := Lib.hid (HB8.out.trans (hb9.mono (by rw [← HSZ.out]; exact HB8.out.size)))
 have HN9 := Lib.hid (HN8.out.below hb9 (Nat.le_refl _))
 have hk0 := HK08.out.below hb9 HK08.out.lt
 have hk1 := HK18.out.below hb9 HK18.out.lt
 have HK09 := Lib.hid hk0
 have HK19 := Lib.hid hk1
 clear hb9 HB8 HN8 HK08 HK18
 have x0 := hk0.c 0
 have x1 := hk0.c 1
 have x2 := hk0.c 2
 have x3 := hk0.c 3
 have x4 := hk0.c 4
 have x5 := hk0.c 5
 have x6 := hk0.c 6
 have r0 := hk1.c 0
 have r1 := hk1.c 1
 have r2 := hk1.c 2
 have r3 := hk1.c 3
 have r4 := hk1.c 4
 have r5 := hk1.c 5
 have r6 := hk1.c 6
 have xf : ∀ o, w9.frozen? ⟨s, o, none⟩ = false := fun o => hk0.frozen o
 have rf : ∀ o, w9.frozen? ⟨s + 1, o, none⟩ = false := fun o => hk1.frozen o
 clear hk0 hk1
 have hek : (k : Int) - 1074 + 1074 = (k : Int) := by omega
 have hk3 : (k : Int) ≤ 2240 := by omega
 have HOF := Lib.hid (fun w => nat_any (M : Int) w (by omega) (by omega))
 have HTW := Lib.hid (fun w => two_any k w (by omega))
 have HFM : Hid (Fit (M : Int)) := Lib.hid (Fit.of_pow2 (k := 64) (by omega) (by decide))
 obtain ⟨K9, hK9⟩ : ∃ K9 : Nat, K9 = 2241 := ⟨_, rfl⟩
 have HFK : Hid (Fit ((2 : Int) ^ k)) := Lib.hid (Fit.of_pow2 (k := K9) (by rw [Int.natAbs_pow]; exact Nat.pow_lt_pow_right (by decide) (by omega)) (by rw [hK9]; decide))
 have HIV : Hid ((M : Int) * 2 ^ k = ((iv (x % S63) : Nat) : Int)) := Lib.hid (by rw [← HMK.out, Int.natCast_mul, Int.natCast_pow]; rfl)
 clear hK9 hM hk2 x0 x1 x2 x3 x4 x5 x6 r0 r1 r2 r3 r4 r5 r6 xf rf HNG
 go_wp2_with fail
 refine (HOF.out _).mono ?_; rintro ee w10 ⟨n1, p1, l1, c1, rfl, hM1, hb1, -⟩
 have HB1 := Lib.hid hb1
 have HM1 := Lib.hid hM1
 clear hM1 hb1
 go_wp2_with fail
 refine (HTW.out _).mono ?_; rintro ee w11 ⟨n2, p2, l2, c2, rfl, hM2, hb2, -⟩
 have HB2 := Lib.hid (HB1.out.trans (hb2.mono HB1.out.size))
 have HM12 := Lib.hid (HM1.out.below hb2 (Nat.le_refl _))
 have HM2 := Lib.hid hM2
 clear hM2 hb2 HB1 HM1
 go_wp2_with fail
 refine (mul_any _ _ _ _ _ _ _ _ (M : Int) (2 ^ k) _ HM12.out HM2.out HFM.out HFK.out).mono ?_; rintro ee w12 ⟨n3, p3, l3, c3, rfl, hM3, hb3, -⟩
 have HB3 := Lib.hid (HB2.out.trans (hb3.mono HB2.out.size))
 have HM3 : Hid (NumC w12 n3 p3 l3 c3 ((iv (x % S63) : Nat) : Int)) := Lib.hid (by rw [← HIV.out]; exact hM3)
 have HBA := Lib.hid (HB9.out.trans (HB3.out.mono (by rw [← HSZ.out]; exact HB9.out.size)))
 have HNA := Lib.hid (HN9.out.below HB3.out (Nat.le_refl _))
 have HK0A := Lib.hid (HK09.out.below HB3.out HK09.out.lt)
 have HK1A := Lib.hid (HK19.out.below HB3.out HK19.out.lt)
 clear hM3 hb3 HB2 HM12 HM2 HB3 HB9 HN9 HK09 HK19 hek hk3 HOF HTW HFM HFK HIV
 go_upto_region 15 with fail
 have HUN : Hid (unitsOf x = signU (decide (S63 ≤ x)) (iv (x % S63))) := Lib.hid rfl
 obtain ⟨hkg, hbw⟩ := one_box w12 89 #[.bool false, .bool false, .bool false, .bool false, .bool true, .bool n3, .slice p3 l3 c3]
 have HBB := Lib.hid (HBA.out.trans (hbw.mono (by rw [← HSZ.out]; exact HBA.out.size)))
 have HNB := Lib.hid (HNA.out.below hbw (Nat.le_refl _))
 have HK0B := Lib.hid (HK0A.out.below hbw HK0A.out.lt)
 have HK1B := Lib.hid (HK1A.out.below hbw HK1A.out.lt)
 have HM4 := Lib.hid (HM3.out.below hbw (Nat.le_refl _))
 have HSG2 := Lib.hid HK1A.out.lt
 have HKG := Lib.hid hkg
 clear hbw HBA HNA HK0A HK1A HM3
 generalize (w12.alloc (.cells #[.bool false, .bool false, .bool false, .bool false, .bool true, .bool n3, .slice p3 l3 c3] 89)) = w13 at *
 generalize w12.heap.size = g at *
 have y5 := hkg.c 5
 have y6 := hkg.c 6
 clear hkg
 by_cases hs : S63 ≤ x
 ·have hng : ng = true := by rw [HSG.out]; exact decide_eq_true hs
  subst hng
  have HU2 : Hid (unitsOf x = -((iv (x % S63) : Nat) : Int)) := Lib.hid (by rw [HUN.out, decide_eq_true hs]; rfl)
  clear hs HUN HSG
  go_wp2_with fail
  refine (neg_any _ _ _ _ _ w13 HM4.out).mono ?_; rintro ee w14 ⟨n4, p4, l4, c4, rfl, hM4, hb4, -⟩
  have HBC := Lib.hid (HBB.out.trans (hb4.mono (by rw [← HSZ.out]; exact HBB.out.size)))
  have HNC := Lib.hid (HNB.out.below hb4 (Nat.le_refl _))
  have HK0C := Lib.hid (HK0B.out.below hb4 HK0B.out.lt)
  have HK1C := Lib.hid (HK1B.out.below hb4 HK1B.out.lt)
  have HKGC := Lib.hid (HKG.out.below hb4 HKG.out.lt)
  have HM5 : Hid (NumC w14 n4 p4 l4 c4 (unitsOf x)) := Lib.hid (by rw [HU2.out]; exact hM4)
  have y5 := HKGC.out.c 5
  have y6 := HKGC.out.c 6
  have yf : ∀ o, w14.frozen? ⟨g, o, none⟩ = false := fun o => HKGC.out.frozen o
  clear hM4 hb4 HBB HNB HK0B HK1B HKG HM4
  go_upto_region 17 with fail
  have k1 : Blk (w14.setCell ⟨g, 5, none⟩ (.bool n4)) g 89 #[.bool false, .bool false, .bool false, .bool false, .bool true, .bool n4, .slice p3 l3 c3] := (HKGC.out.set_ 5 _).to rfl
  have k2 : Blk ((w14.setCell ⟨g, 5, none⟩ (.bool n4)).setCell ⟨g, 6, none⟩ (.slice p4 l4 c4)) g 89 #[.bool false, .bool false, .bool false, .bool false, .bool true, .bool n4, .slice p4 l4 c4] := (k1.set_ 6 _).to rfl
  have hM5 : NumC ((w14.setCell ⟨g, 5, none⟩ (.bool n4)).setCell ⟨g, 6, none⟩ (.slice p4 l4 c4)) n4 p4 l4 c4 (unitsOf x) := (HM5.out.set (HKGC.out.cell 5) (fun _ e => by cases e) _).set (k1.cell 6) (fun _ e => by cases e) _
  have hNC : NumC ((w14.setCell ⟨g, 5, none⟩ (.bool n4)).setCell ⟨g, 6, none⟩ (.slice p4 l4 c4)) na a l c z := (HNC.out.set (HKGC.out.cell 5) (fun _ e => by cases e) _).set (k1.cell 6) (fun _ e => by cases e) _
  have hsg := HSG2.out
  have hK0 := (HK0C.out.far (p := ⟨g, 5, none⟩) (by simp; omega) (.bool n4)).far (p := ⟨g, 6, none⟩) (by simp; omega) (.slice p4 l4 c4)
  have hK1 := (HK1C.out.far (p := ⟨g, 5, none⟩) (by simp; omega) (.bool n4)).far (p := ⟨g, 6, none⟩) (by simp; omega) (.slice p4 l4 c4)
  have hBC := (HBC.out.setCell (p := ⟨g, 5, none⟩) (by simp; omega) (.bool n4)).setCell (p := ⟨g, 6, none⟩) (by simp; omega) (.slice p4 l4 c4)
  clear k1 HKGC HM5 HNC HK0C HK1C HBC y5 y6 yf hsg
  generalize ((w14.setCell ⟨g, 5, none⟩ (.bool n4)).setCell ⟨g, 6, none⟩ (.slice p4 l4 c4)) = wJ at *
  have HJ := Lib.hid (rsjoin_b wJ b 16 z (unitsOf x) n u e m p false false false false true na n4 a l c p4 l4 c4 hNC hM5 HZ.out HY.out HFL.out.1 HFL.out.2.1 HFL.out.2.2.1 HFL.out.2.2.2.1 HFL.out.2.2.2.2 (by decide) (by decide) (by decide) (by decide) (by decide))
  have x0 := hK0.c 0
  have x1 := hK0.c 1
  have x2 := hK0.c 2
  have x3 := hK0.c 3
  have x4 := hK0.c 4
  have x5 := hK0.c 5
  have x6 := hK0.c 6
  have y0 := k2.c 0
  have y1 := k2.c 1
  have y2 := k2.c 2
  have y3 := k2.c 3
  have y4 := k2.c 4
  have y5 := k2.c 5
  have y6 := k2.c 6
  have HK1 := Lib.hid hK1
  have HBC := Lib.hid hBC
  clear hK0 hK1 hBC hNC hM5 k2
  go_wp2_with fail
  refine HJ.out.mono ?_; rintro ee w15 ⟨n5, p5, l5, c5, rfl, hM6, hb5⟩
  obtain ⟨q0, q1, q2, q3, q4, hq⟩ : ∃ q0 q1 q2 q3 q4 : Bool, rsCells (joinF b 16 z (unitsOf x)) = fun ng a l c => #[.bool q0, .bool q1, .bool q2, .bool q3, .bool q4, .bool ng, .slice a l c] := ⟨_, _, _, _, _, rfl⟩
  rw [hq]
  have HQ := Lib.hid hq
  have hk1 := HK1.out.below hb5 HK1.out.lt
  have HBD := Lib.hid (HBC.out.trans (hb5.mono (by rw [← HSZ.out]; exact HBC.out.size)))
  have HRZ := Lib.hid (RRS.seven hM6 hk1 s HSZ.out HBD.out (by omega) HQ.out (decide ((z + unitsOf x).natAbs < ROOM)))
  have HKZ := Lib.hid (Blk.seven hk1 q0 q1 q2 q3 q4 n5 p5 l5 c5)
  have r0 := hk1.c 0
  have r1 := hk1.c 1
  have r2 := hk1.c 2
  have r3 := hk1.c 3
  have r4 := hk1.c 4
  have r5 := hk1.c 5
  have r6 := hk1.c 6
  have rf : ∀ o, w15.frozen? ⟨s + 1, o, none⟩ = false := fun o => hk1.frozen o
  clear hk1 hM6 hb5 hq x0 x1 x2 x3 x4 x5 x6 y0 y1 y2 y3 y4 y5 y6
  go_wp2_with fail
  have hrz := HRZ.out
  have hkz := HKZ.out
  generalize (World.setCell _ _ _) = wz at hkz hrz ⊢
  have d0 := hkz.cell 0
  have d1 := hkz.cell 1
  have d2 := hkz.cell 2
  have d3 := hkz.cell 3
  have d4 := hkz.cell 4
  have d5 := hkz.cell 5
  have d6 := hkz.cell 6
  refine bodyPost_ret ?_ ?_ hrz
  rotate_left
  ·rfl
  ·clear hrz hkz
   simp at d0 d1 d2 d3 d4 d5 d6
   simp [results, Tryz.results63, go_sem, d0, d1, d2, d3, d4, d5, d6]
 ·have hng : ng = false := by rw [HSG.out]; exact decide_eq_false hs
  subst hng
  have HU2 : Hid (unitsOf x = ((iv (x % S63) : Nat) : Int)) := Lib.hid (by rw [HUN.out, decide_eq_false hs]; rfl)
  clear hs HUN HSG
  have k2 := HKG.out
  have hM5 : NumC w13 n3 p3 l3 c3 (unitsOf x) := by rw [HU2.out]; exact HM4.out
  have hNC := HNB.out
  have hK0 := HK0B.out
  have hK1 := HK1B.out
  have hBC := HBB.out
  clear HBB HNB HK0B HK1B HKG HM4 y5 y6
  go_upto_region 17 with fail
  have HJ := Lib.hid (rsjoin_b w13 b 16 z (unitsOf x) n u e m p false false false false true na n3 a l c p3 l3 c3 hNC hM5 HZ.out HY.out HFL.out.1 HFL.out.2.1 HFL.out.2.2.1 HFL.out.2.2.2.1 HFL.out.2.2.2.2 (by decide) (by decide) (by decide) (by decide) (by decide))
  have x0 := hK0.c 0
  have x1 := hK0.c 1
  have x2 := hK0.c 2
  have x3 := hK0.c 3
  have x4 := hK0.c 4
  have x5 := hK0.c 5
  have x6 := hK0.c 6
  have y0 := k2.c 0
  have y1 := k2.c 1
  have y2 := k2.c 2
  have y3 := k2.c 3
  have y4 := k2.c 4
  have y5 := k2.c 5
  have y6 := k2.c 6
  have HK1 := Lib.hid hK1
  have HBC := Lib.hid hBC
  clear hK0 hK1 hBC hNC hM5 k2
  go_wp2_with fail
  refine HJ.out.mono ?_; rintro ee w15 ⟨n5, p5, l5, c5, rfl, hM6, hb5⟩
  obtain ⟨q0, q1, q2, q3, q4, hq⟩ : ∃ q0 q1 q2 q3 q4 : Bool, rsCells (joinF b 16 z (unitsOf x)) = fun ng a l c => #[.bool q0, .bool q1, .bool q2, .bool q3, .bool q4, .bool ng, .slice a l c] := ⟨_, _, _, _, _, rfl⟩
  rw [hq]
  have HQ := Lib.hid hq
  have hk1 := HK1.out.below hb5 HK1.out.lt
  have HBD := Lib.hid (HBC.out.trans (hb5.mono (by rw [← HSZ.out]; exact HBC.out.size)))
  have HRZ := Lib.hid (RRS.seven hM6 hk1 s HSZ.out HBD.out (by omega) HQ.out (decide ((z + unitsOf x).natAbs < ROOM)))
  have HKZ := Lib.hid (Blk.seven hk1 q0 q1 q2 q3 q4 n5 p5 l5 c5)
  have r0 := hk1.c 0
  have r1 := hk1.c 1
  have r2 := hk1.c 2
  have r3 := hk1.c 3
  have r4 := hk1.c 4
  have r5 := hk1.c 5
  have r6 := hk1.c 6
  have rf : ∀ o, w15.frozen? ⟨s + 1, o, none⟩ = false := fun o => hk1.frozen o
  clear hk1 hM6 hb5 hq x0 x1 x2 x3 x4 x5 x6 y0 y1 y2 y3 y4 y5 y6
  go_wp2_with fail
  have hrz := HRZ.out
  have hkz := HKZ.out
  generalize (World.setCell _ _ _) = wz at hkz hrz ⊢
  have d0 := hkz.cell 0
  have d1 := hkz.cell 1
  have d2 := hkz.cell 2
  have d3 := hkz.cell 3
  have d4 := hkz.cell 4
  have d5 := hkz.cell 5
  have d6 := hkz.cell 6
  refine bodyPost_ret ?_ ?_ hrz
  rotate_left
  ·rfl
  ·clear hrz hkz
   simp at d0 d1 d2 d3 d4 d5 d6
   simp [results, Tryz.results63, go_sem, d0, d1, d2, d3, d4, d5, d6]
theorem rsadd_any (w : World) (b x : Nat) (z : Int) (ng : Bool) (a : Option Addr) (l c : Nat) (hN : NumC w ng a l c z) (hz : z.natAbs < ROOM) (hx : x < 18446744073709551616) :
  Calls Tryz.prog 63 #[.agg (rsCells b ng a l c), .float .f64 x] w (RRS (addF b z x) (addZ z x) (addOk z x) w) := by
 by_cases hk : kindZ x = 1
 ·exact rsadd_fin w b x z _ _ _ _ _ ng a l c hN hz hx hk rfl rfl rfl rfl rfl
 ·exact rsadd_flag w b x z _ _ _ _ _ ng a l c hN hx hk rfl rfl rfl rfl rfl
theorem rsjoin_any (w : World) (b d : Nat) (z y : Int) (na nb : Bool) (a : Option Addr) (l c : Nat) (a2 : Option Addr) (l2 c2 : Nat) (hN : NumC w na a l c z) (hM : NumC w nb a2 l2 c2 y) (hz : z.natAbs < ROOM) (hy : y.natAbs < ROOM) :
  Calls Tryz.prog 56 #[.agg (rsCells b na a l c), .agg (rsCells d nb a2 l2 c2)] w (RRS (joinF b d z y) (putZ z y) (decide ((z + y).natAbs < ROOM)) w) :=
 rsjoin_b w b d z y _ _ _ _ _ _ _ _ _ _ na nb a l c a2 l2 c2 hN hM hz hy rfl rfl rfl rfl rfl rfl rfl rfl rfl rfl
end Go.Proofs.YtehmompbmnejkaaGreat
/- Contract of package bushelref05's Of. No conditions. -/
namespace Go.Proofs.YtehmompbmnejkaaGreat
open Go.RowKit Ieee

/-- a sum of the reference -/
def RRV (b : Nat) (z : Int) (w : World) (e : Ending) (w' : World) : Prop :=
 ∃ ng a l c, e = .returned (.agg (rsCells b ng a l c)) ∧ NumC w' ng a l c z ∧ Below w.heap.size w w'
theorem RRV.seven {w0 w : World} {B : Nat} {T : TypeId} {c0 c1 c2 c3 c4 c5 : Bool} {A : Option Addr} {L C : Nat} {ng : Bool} {a : Option Addr} {l c : Nat} {Z : Int} {b : Nat} {u0 u1 u2 u3 u4 : Bool} (h : NumC w ng a l c Z) (hk : Blk w B T #[.bool c0, .bool c1, .bool c2, .bool c3, .bool c4, .bool c5, .slice A L C])
  (S : Nat) (hs : w0.heap.size = S) (hb : Below S w0 w) (hB : S ≤ B) (hc : rsCells b = fun ng a l c => #[.bool u0, .bool u1, .bool u2, .bool u3, .bool u4, .bool ng, .slice a l c]) :
  RRV b Z w0 (.returned (.agg #[.bool u0, .bool u1, .bool u2, .bool u3, .bool u4, .bool ng, .slice a l c]))
   (((((((w.setCell ⟨B, 0, none⟩ (.bool u0)).setCell ⟨B, 1, none⟩ (.bool u1)).setCell ⟨B, 2, none⟩ (.bool u2)).setCell ⟨B, 3, none⟩ (.bool u3)).setCell ⟨B, 4, none⟩ (.bool u4)).setCell ⟨B, 5, none⟩ (.bool ng)).setCell ⟨B, 6, none⟩ (.slice a l c)) := by
 obtain ⟨ng', a', l', c', he, hn, hb'⟩ := RRS.seven h hk S hs hb hB hc true
 simp at he
 exact ⟨ng', a', l', c', by rw [he], hn, hb'⟩
theorem FRow.lt {w : World} {a : Option Addr} {n c : Nat} {zs : List Nat} (h : FRow w a n c zs) {i : Nat} (hi : i < n) : ∃ b off, a = some ⟨b, off, none⟩ ∧ b < w.heap.size ∧ w.cell? ⟨b, off + i, none⟩ = some (.float .f64 (zs.getD i 0)) := by
 obtain ⟨h1, h2, h3, h4⟩ := h
 rcases h4 with h4 | ⟨b, off, e, hlt, hc⟩
 ·omega
 ·exact ⟨b, off, e, hlt, hc i hi⟩

theorem FRow.seven {w : World} {a : Option Addr} {n c B : Nat} {zs : List Nat} {T : TypeId} {c0 c1 c2 c3 c4 c5 : Bool} {A : Option Addr} {L C : Nat} (h : FRow w a n c zs) (hk : Blk w B T #[.bool c0, .bool c1, .bool c2, .bool c3, .bool c4, .bool c5, .slice A L C]) (u0 u1 u2 u3 u4 u5 : Bool) (a' : Option Addr) (l' c' : Nat) :
  FRow (((((((w.setCell ⟨B, 0, none⟩ (.bool u0)).setCell ⟨B, 1, none⟩ (.bool u1)).setCell ⟨B, 2, none⟩ (.bool u2)).setCell ⟨B, 3, none⟩ (.bool u3)).setCell ⟨B, 4, none⟩ (.bool u4)).setCell ⟨B, 5, none⟩ (.bool u5)).setCell ⟨B, 6, none⟩ (.slice a' l' c')) a n c zs := by
 have hb : But B w (((((((w.setCell ⟨B, 0, none⟩ (.bool u0)).setCell ⟨B, 1, none⟩ (.bool u1)).setCell ⟨B, 2, none⟩ (.bool u2)).setCell ⟨B, 3, none⟩ (.bool u3)).setCell ⟨B, 4, none⟩ (.bool u4)).setCell ⟨B, 5, none⟩ (.bool u5)).setCell ⟨B, 6, none⟩ (.slice a' l' c')) := ((((((((But.refl B w).setCell 0 _).setCell 1 _).setCell 2 _).setCell 3 _).setCell 4 _).setCell 5 _).setCell 6 _)
 generalize (((((((w.setCell ⟨B, 0, none⟩ (.bool u0)).setCell ⟨B, 1, none⟩ (.bool u1)).setCell ⟨B, 2, none⟩ (.bool u2)).setCell ⟨B, 3, none⟩ (.bool u3)).setCell ⟨B, 4, none⟩ (.bool u4)).setCell ⟨B, 5, none⟩ (.bool u5)).setCell ⟨B, 6, none⟩ (.slice a' l' c')) = w' at *
 obtain ⟨h1, h2, h3, h4⟩ := h
 refine ⟨h1, h2, h3, ?_⟩
 rcases h4 with h4 | ⟨bb, off, rfl, hlt, hc⟩
 ·exact .inl h4
 ·refine .inr ⟨bb, off, rfl, Nat.lt_of_lt_of_le hlt hb.size, fun i hi => ?_⟩
  by_cases hg : bb = B
  ·subst hg
   have h5 := hc i hi
   rw [hk.cell] at h5
   have h6 : off + i = 0 ∨ off + i = 1 ∨ off + i = 2 ∨ off + i = 3 ∨ off + i = 4 ∨ off + i = 5 ∨ off + i = 6 ∨ 7 ≤ off + i := by omega
   rcases h6 with h6 | h6 | h6 | h6 | h6 | h6 | h6 | h6
   ·rw [h6] at h5; cases h5
   ·rw [h6] at h5; cases h5
   ·rw [h6] at h5; cases h5
   ·rw [h6] at h5; cases h5
   ·rw [h6] at h5; cases h5
   ·rw [h6] at h5; cases h5
   ·rw [h6] at h5; cases h5
   ·rw [Array.getElem?_eq_none (by simp; omega)] at h5; cases h5
  ·rw [hb.cell hlt hg]
   exact hc i hi
theorem Blk.far7 {w : World} {g B : Nat} {T : TypeId} {cs : Array Value} (h : Blk w g T cs) (hg : g ≠ B) (v0 v1 v2 v3 v4 v5 v6 : Value) :
  Blk (((((((w.setCell ⟨B, 0, none⟩ (v0)).setCell ⟨B, 1, none⟩ (v1)).setCell ⟨B, 2, none⟩ (v2)).setCell ⟨B, 3, none⟩ (v3)).setCell ⟨B, 4, none⟩ (v4)).setCell ⟨B, 5, none⟩ (v5)).setCell ⟨B, 6, none⟩ (v6)) g T cs :=
 ((((((h.far (p := ⟨B, 0, none⟩) hg v0).far (p := ⟨B, 1, none⟩) hg v1).far (p := ⟨B, 2, none⟩) hg v2).far (p := ⟨B, 3, none⟩) hg v3).far (p := ⟨B, 4, none⟩) hg v4).far (p := ⟨B, 5, none⟩) hg v5).far (p := ⟨B, 6, none⟩) hg v6
theorem below_set7 {w0 w : World} {S B : Nat} (h : Below S w0 w) (hB : S ≤ B) (v0 v1 v2 v3 v4 v5 v6 : Value) :
  Below S w0 (((((((w.setCell ⟨B, 0, none⟩ (v0)).setCell ⟨B, 1, none⟩ (v1)).setCell ⟨B, 2, none⟩ (v2)).setCell ⟨B, 3, none⟩ (v3)).setCell ⟨B, 4, none⟩ (v4)).setCell ⟨B, 5, none⟩ (v5)).setCell ⟨B, 6, none⟩ (v6)) :=
 ((((((h.setCell (p := ⟨B, 0, none⟩) hB v0).setCell (p := ⟨B, 1, none⟩) hB v1).setCell (p := ⟨B, 2, none⟩) hB v2).setCell (p := ⟨B, 3, none⟩) hB v3).setCell (p := ⟨B, 4, none⟩) hB v4).setCell (p := ⟨B, 5, none⟩) hB v5).setCell (p := ⟨B, 6, none⟩) hB v6

theorem wpAnyN_two {P : Program} {ops : Array Oper} {Q : Exit → Act → World → Prop} {md : Region.Mode} {S : World → Prop} {Ls : List Nat} {i j : Nat} {o p : Oper} {fuel : Nat} {listed : Array Bool} {a : Act} {w : World} (hr : Region.ready md ops listed = [i, j]) (hi : Ls.contains i = true) (hj : Ls.contains j = true) (ho : ops[i]? = some o) (hp : ops[j]? = some p)
  (h1 : ∀ K' : Act → World → Prop, Shut (∀ a w, wpAnyN P md ops Q S Ls fuel (listed.setIfInBounds i true) a w → K' a w) → if Region.wanted o (yielded ops a.tmps) = true then Oper.wp P o a w K' Q else K' (a.put o.dst undef) w)
  (h2 : ∀ K' : Act → World → Prop, Shut (∀ a w, wpAnyN P md ops Q S Ls fuel (listed.setIfInBounds j true) a w → K' a w) → if Region.wanted p (yielded ops a.tmps) = true then Oper.wp P p a w K' Q else K' (a.put p.dst undef) w) :
  wpAnyN P md ops Q S Ls (fuel + 1) listed a w :=
 ⟨fun h0 => (by rw [hr] at h0; cases h0), fun q hq => by
  rw [hr] at hq
  have hq' : q = i ∨ q = j := by simpa using hq
  rcases hq' with rfl | rfl
  ·exact wpOp_step ho fun K' hK => h1 K' fun a w hW => hK a w ⟨.inl (by simpa using hi), hW⟩
  ·exact wpOp_step hp fun K' hK => h2 K' fun a w hW => hK a w ⟨.inl (by simpa using hj), hW⟩⟩

set_option maxRecDepth 100000 in
set_option maxHeartbeats 2000000 in
theorem rsof_any (w : World) (a : Option Addr) (n c : Nat) (zs : List Nat) (hr : FRow w a n c zs) (hw : ∀ x ∈ zs, x < 18446744073709551616) :
  Calls Tryz.prog 34 #[.slice a n c] w (RRV (foldS zs).1 (foldS zs).2 w) := by
 have hn : n ≤ 9223372036854775807 := by have := hr.2.1; have := hr.2.2.1; unfold maxLen at this; omega
 have HW := Lib.hid hw
 have HLEN := Lib.hid hr.1
 have HR0 := Lib.hid hr
 clear hw hr
 go_enter Tryz.func34, Tryz.ntmps34
 go_upto_region 2 with fail
 obtain ⟨hk0, hk1, hbw, -⟩ := two_bx w 89 #[.bool false, .bool false, .bool false, .bool false, .bool false, .bool false, .slice none 0 0] #[.bool false, .bool false, .bool false, .bool false, .bool false, .bool false, .slice none 0 0]
 have HR := Lib.hid (HR0.out.below hbw (Nat.le_refl _))
 have HB0 := Lib.hid hbw
 generalize ((w.alloc (.cells #[.bool false, .bool false, .bool false, .bool false, .bool false, .bool false, .slice none 0 0] 89)).alloc (.cells #[.bool false, .bool false, .bool false, .bool false, .bool false, .bool false, .slice none 0 0] 89)) = w7 at *
 generalize hsz0 : w.heap.size = s at *
 have HSZ := Lib.hid hsz0
 have HK0 := Lib.hid hk0
 have HK1 := Lib.hid hk1
 have HFZ : Hid (∀ ba i x, FRow w7 (some ba) n c zs → i < n → w7.cell? ⟨ba.block, i, none⟩ = some x → True) := Lib.hid (fun _ _ _ _ _ _ => trivial)
 clear hk0 hk1 hsz0 hbw HFZ HR0
 go_wp2_with fail
 go_loopg [4] n (fun gg i wr => ∃ (k : Nat) (ng : Bool) (a2 : Option Addr) (l2 c2 : Nat), i = .int .i64 (k : Int) ∧ k + gg = n ∧ Blk wr (s + 1) 89 (rsCells (foldS (zs.take k)).1 ng a2 l2 c2) ∧ NumC wr ng a2 l2 c2 (foldS (zs.take k)).2 ∧ Blk wr s 89 #[.bool false, .bool false, .bool false, .bool false, .bool false, .bool false, .slice none 0 0] ∧ FRow wr a n c zs ∧ Below s w wr)
 case atStart => exact ⟨0, false, none, 0, 0, rfl, by omega, HK1.out.to (show _ = rsCells 0 false none 0 0 from by simp [rsCells, fN, fU, fD, fM, fP]), NumC.zero, HK0.out, HR.out, HB0.out⟩
 case round =>
  obtain ⟨k, ng, a2, l2, c2, rfl, hk, hkb, hN, hk0, hr, hb⟩ := hrel
  have hok : Okay (foldS (zs.take k)) := Okay.fold _ _ okay0
  obtain ⟨q0, q1, q2, q3, q4, hq⟩ : ∃ q0 q1 q2 q3 q4 : Bool, rsCells (foldS (zs.take k)).1 = fun ng a l c => #[.bool q0, .bool q1, .bool q2, .bool q3, .bool q4, .bool ng, .slice a l c] := ⟨_, _, _, _, _, rfl⟩
  have HQ := Lib.hid hq
  rw [hq] at hkb
  have x0 := hkb.c 0
  have x1 := hkb.c 1
  have x2 := hkb.c 2
  have x3 := hkb.c 3
  have x4 := hkb.c 4
  have x5 := hkb.c 5
  have x6 := hkb.c 6
  have rf : ∀ o, wr.frozen? ⟨s + 1, o, none⟩ = false := fun o => hkb.frozen o
  have HKB := Lib.hid hkb
  have HK0' := Lib.hid hk0
  have HNN := Lib.hid hN
  have HRR := Lib.hid hr
  have HB := Lib.hid hb
  have HK := Lib.hid hk
  clear HK0 HK1 HR HB0
  by_cases hlt : k < n
  ·obtain ⟨ba, oa, rfl, hba, cx⟩ := hr.lt hlt
   have hlk : k < zs.length := by have := HLEN.out; omega
   obtain ⟨x, hx⟩ : ∃ x, zs.getD k 0 = x := ⟨_, rfl⟩
   have hxw : x < 18446744073709551616 := by
    rw [← hx]
    exact HW.out _ (by simp [hlk])
   rw [hx] at cx
   have hft := foldS_take hlk
   rw [hx] at hft
   have HFT := Lib.hid hft
   have HADD : Hid (∀ v, Below wr.heap.size wr v → Calls Tryz.prog 63 #[.agg #[.bool q0, .bool q1, .bool q2, .bool q3, .bool q4, .bool ng, .slice a2 l2 c2], .float .f64 x] v (RRS (addF (foldS (zs.take k)).1 (foldS (zs.take k)).2 x) (addZ (foldS (zs.take k)).2 x) (addOk (foldS (zs.take k)).2 x) v)) := Lib.hid (fun v hv => by
    have h := rsadd_any v (foldS (zs.take k)).1 x (foldS (zs.take k)).2 ng a2 l2 c2 (hN.below hv (Nat.le_refl _)) hok.2 hxw
    rw [hq] at h
    exact h)
   have hki : (k : Int) < (n : Int) := by omega
   have hkd : decide (k < n) = true := by simpa using hlt
   have hg1 : 1 ≤ gk := by omega
   clear hb hx hft hok hk hlk hxw hq hkb hk0 hN hr
   go_upto_region 5 with fail
   refine wp_regionN (fun w' => w'.cell? ⟨s + 1, 0, none⟩ = some (.bool q0) ∧ w'.cell? ⟨s + 1, 1, none⟩ = some (.bool q1) ∧ w'.cell? ⟨s + 1, 2, none⟩ = some (.bool q2) ∧ w'.cell? ⟨s + 1, 3, none⟩ = some (.bool q3) ∧ w'.cell? ⟨s + 1, 4, none⟩ = some (.bool q4) ∧ w'.cell? ⟨s + 1, 5, none⟩ = some (.bool ng) ∧ w'.cell? ⟨s + 1, 6, none⟩ = some (.slice a2 l2 c2) ∧ w'.cell? ⟨ba, oa + k, none⟩ = some (.float .f64 x)) [7, 8, 9] (by kernel_rfl) (by exact ⟨x0, x1, x2, x3, x4, x5, x6, cx⟩) (fun hHeld => ?_)
   refine wpAnyN_u 0 ⟨some 13, _, _, _, _, _⟩ _ rfl ?_
   try simp only [Act.put, putA, putB, putC]
   refine wpAnyN_u 1 ⟨some 14, _, _, _, _, _⟩ _ rfl ?_
   try simp only [Act.put, putA, putB, putC]
   refine wpAnyN_u 2 ⟨some 15, _, _, _, _, _⟩ _ rfl ?_
   try simp only [Act.put, putA, putB, putC]
   refine wpAnyN_u 3 ⟨some 16, _, _, _, _, _⟩ _ rfl ?_
   try simp only [Act.put, putA, putB, putC]
   refine wpAnyN_u 4 ⟨some 17, _, _, _, _, _⟩ _ rfl ?_
   try simp only [Act.put, putA, putB, putC]
   refine wpAnyN_one (i := 5) (o := ⟨some 18, _, _, _, _, _⟩) (by kernel_rfl) rfl (fun K hK => ?_)
   go_simp
   refine (HADD.out _ (Below.refl _ _).drew).mono ?_; rintro e w2 ⟨n5, p5, l5, c5, rfl, hM6, hb5⟩
   replace hb5 : Below wr.heap.size wr w2 := ((Below.refl _ _).drew).trans (hb5.mono (by simp))
   obtain ⟨t0, t1, t2, t3, t4, hq2⟩ : ∃ t0 t1 t2 t3 t4 : Bool, rsCells (addF (foldS (zs.take k)).1 (foldS (zs.take k)).2 x) = fun ng a l c => #[.bool t0, .bool t1, .bool t2, .bool t3, .bool t4, .bool ng, .slice a l c] := ⟨_, _, _, _, _, rfl⟩
   rw [hq2]
   have HQ2 := Lib.hid hq2
   have hk2 := HKB.out.below hb5 HKB.out.lt
   have HK02 := Lib.hid (HK0'.out.below hb5 HK0'.out.lt)
   have HRR2 := Lib.hid (HRR.out.below hb5 (Nat.le_refl _))
   have HB2 := Lib.hid (HB.out.trans (hb5.mono (by rw [← HSZ.out]; exact HB.out.size)))
   have HM6 := Lib.hid hM6
   have x0' : w2.cell? ⟨s + 1, 0, none⟩ = some (.bool q0) := hk2.cell 0
   have x1' : w2.cell? ⟨s + 1, 1, none⟩ = some (.bool q1) := hk2.cell 1
   have x2' : w2.cell? ⟨s + 1, 2, none⟩ = some (.bool q2) := hk2.cell 2
   have x3' : w2.cell? ⟨s + 1, 3, none⟩ = some (.bool q3) := hk2.cell 3
   have x4' : w2.cell? ⟨s + 1, 4, none⟩ = some (.bool q4) := hk2.cell 4
   have x5' : w2.cell? ⟨s + 1, 5, none⟩ = some (.bool ng) := hk2.cell 5
   have x6' : w2.cell? ⟨s + 1, 6, none⟩ = some (.slice a2 l2 c2) := hk2.cell 6
   have rf' : ∀ o, w2.frozen? ⟨s + 1, o, none⟩ = false := fun o => hk2.frozen o
   have cx' : w2.cell? ⟨ba, oa + k, none⟩ = some (.float .f64 x) := by rw [(bcell hb5).1 _ _ hba]; exact cx
   have HKB2 := Lib.hid hk2
   clear hb5 hM6 hk2 hq2
   refine hK.out _ _ (by exact ⟨x0', x1', x2', x3', x4', x5', x6', cx'⟩) ?_
   clear hK K hHeld
   intro hHeld
   refine wpAnyN_u 6 ⟨some 12, _, _, _, _, _⟩ _ rfl ?_
   try simp only [Act.put, putA, putB, putC]
   clear hHeld
   refine wpAnyN_two (i := 7) (j := 8) (o := ⟨some 19, _, _, _, _, _⟩) (p := ⟨some 20, _, _, _, _, _⟩) (by kernel_rfl) (by kernel_rfl) (by kernel_rfl) rfl rfl (fun K hK => ?_) (fun K hK => ?_)
   ·go_simp
    refine hK.out _ _ ?_
    clear hK K
    try simp only [Act.put, putA, putB, putC]
    refine wpAnyN_two (i := 8) (j := 9) (o := ⟨some 20, _, _, _, _, _⟩) (p := ⟨none, _, _, _, _, _⟩) (by kernel_rfl) (by kernel_rfl) (by kernel_rfl) rfl rfl (fun K hK => ?_) (fun K hK => ?_)
    ·go_simp
     refine hK.out _ _ ?_
     clear hK K
     try simp only [Act.put, putA, putB, putC]
     refine wpAnyN_late (i := 9) (o := ⟨none, _, _, _, _, _⟩) (by kernel_rfl) (by kernel_rfl) rfl (fun K hK => ?_)
     go_simp
     refine hK.out _ _ ?_
     clear hK K
     try simp only [Act.put, putA, putB, putC]
     refine wpAnyN_end (by kernel_rfl) ?_
     go_wp2_with fail
     go_roundg (gk - 1)
     case measure => omega
     case rel => exact ⟨k + 1, n5, p5, l5, c5, by go_num, by have := HK.out; omega, (Blk.seven HKB2.out t0 t1 t2 t3 t4 n5 p5 l5 c5).to (by rw [HFT.out]; exact (congrFun (congrFun (congrFun (congrFun HQ2.out n5) p5) l5) c5).symm), (by rw [HFT.out]; exact NumC.seven HKB2.out HM6.out t0 t1 t2 t3 t4 n5 p5 l5 c5), HK02.out.far7 (by omega) _ _ _ _ _ _ _, HRR2.out.seven HKB2.out _ _ _ _ _ _ _ _ _, below_set7 HB2.out (by omega) _ _ _ _ _ _ _⟩
    ·go_simp
     refine hK.out _ _ ?_
     clear hK K
     try simp only [Act.put, putA, putB, putC]
     refine wpAnyN_late (i := 8) (o := ⟨some 20, _, _, _, _, _⟩) (by kernel_rfl) (by kernel_rfl) rfl (fun K hK => ?_)
     go_simp
     refine hK.out _ _ ?_
     clear hK K
     try simp only [Act.put, putA, putB, putC]
     refine wpAnyN_end (by kernel_rfl) ?_
     go_wp2_with fail
     go_roundg (gk - 1)
     case measure => omega
     case rel => exact ⟨k + 1, n5, p5, l5, c5, by go_num, by have := HK.out; omega, (Blk.seven HKB2.out t0 t1 t2 t3 t4 n5 p5 l5 c5).to (by rw [HFT.out]; exact (congrFun (congrFun (congrFun (congrFun HQ2.out n5) p5) l5) c5).symm), (by rw [HFT.out]; exact NumC.seven HKB2.out HM6.out t0 t1 t2 t3 t4 n5 p5 l5 c5), HK02.out.far7 (by omega) _ _ _ _ _ _ _, HRR2.out.seven HKB2.out _ _ _ _ _ _ _ _ _, below_set7 HB2.out (by omega) _ _ _ _ _ _ _⟩
   ·go_simp
    refine hK.out _ _ ?_
    clear hK K
    try simp only [Act.put, putA, putB, putC]
    refine wpAnyN_late (i := 7) (o := ⟨some 19, _, _, _, _, _⟩) (by kernel_rfl) (by kernel_rfl) rfl (fun K hK => ?_)
    go_simp
    refine hK.out _ _ ?_
    clear hK K
    try simp only [Act.put, putA, putB, putC]
    refine wpAnyN_late (i := 9) (o := ⟨none, _, _, _, _, _⟩) (by kernel_rfl) (by kernel_rfl) rfl (fun K hK => ?_)
    go_simp
    refine hK.out _ _ ?_
    clear hK K
    try simp only [Act.put, putA, putB, putC]
    refine wpAnyN_end (by kernel_rfl) ?_
    go_wp2_with fail
    go_roundg (gk - 1)
    case measure => omega
    case rel => exact ⟨k + 1, n5, p5, l5, c5, by go_num, by have := HK.out; omega, (Blk.seven HKB2.out t0 t1 t2 t3 t4 n5 p5 l5 c5).to (by rw [HFT.out]; exact (congrFun (congrFun (congrFun (congrFun HQ2.out n5) p5) l5) c5).symm), (by rw [HFT.out]; exact NumC.seven HKB2.out HM6.out t0 t1 t2 t3 t4 n5 p5 l5 c5), HK02.out.far7 (by omega) _ _ _ _ _ _ _, HRR2.out.seven HKB2.out _ _ _ _ _ _ _ _ _, below_set7 HB2.out (by omega) _ _ _ _ _ _ _⟩
  ·have hkn : k = n := by omega
   have hkd : decide (k < n) = false := by simpa using hlt
   have htk : zs.take k = zs := List.take_of_length_le (by have := HLEN.out; omega)
   rw [htk] at HQ HNN
   have HRZ := Lib.hid (RRV.seven HNN.out HK0'.out s HSZ.out HB.out (Nat.le_refl _) HQ.out)
   have HKZ := Lib.hid (Blk.seven HK0'.out q0 q1 q2 q3 q4 ng a2 l2 c2)
   have r0 := hk0.c 0
   have r1 := hk0.c 1
   have r2 := hk0.c 2
   have r3 := hk0.c 3
   have r4 := hk0.c 4
   have r5 := hk0.c 5
   have r6 := hk0.c 6
   have sf : ∀ o, wr.frozen? ⟨s, o, none⟩ = false := fun o => hk0.frozen o
   clear hb hr hok htk hkn hk hlt hkb hk0 hN hq
   go_wp2_with fail
   have hrz := HRZ.out
   have hkz := HKZ.out
   generalize (World.setCell _ _ _) = wz at hkz hrz ⊢
   have d0 := hkz.cell 0
   have d1 := hkz.cell 1
   have d2 := hkz.cell 2
   have d3 := hkz.cell 3
   have d4 := hkz.cell 4
   have d5 := hkz.cell 5
   have d6 := hkz.cell 6
   refine bodyPost_ret ?_ ?_ hrz
   rotate_left
   ·rfl
   ·clear hrz hkz
    simp at d0 d1 d2 d3 d4 d5 d6
    simp [results, Tryz.results34, go_sem, d0, d1, d2, d3, d4, d5, d6]
end Go.Proofs.YtehmompbmnejkaaGreat
