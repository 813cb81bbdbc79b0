/- Contracts of package bushelref04's fits and fits0. Conditions: numbers that fit; units from 2^-1074 on. -/
import Derived.Test.YtdbkgpakpadloaaGreatMRat2
import Derived.Test.YtdbkgpakpadloaaGreatMReg
import Derived.IntWalk
import Derived.Deep.DeepCutAuto
namespace Go.Proofs.YtdbkgpakpadloaaGreat
open Go.RowKit Ieee

theorem three_bx (w : World) (t : TypeId) (c1 c2 c3 : Array Value) : Blk (((w.alloc (.cells c1 t)).alloc (.cells c2 t)).alloc (.cells c3 t)) w.heap.size t c1 ∧ Blk (((w.alloc (.cells c1 t)).alloc (.cells c2 t)).alloc (.cells c3 t)) (w.heap.size + 1) t c2 ∧ Blk (((w.alloc (.cells c1 t)).alloc (.cells c2 t)).alloc (.cells c3 t)) (w.heap.size + 2) t c3 ∧
  Below w.heap.size w (((w.alloc (.cells c1 t)).alloc (.cells c2 t)).alloc (.cells c3 t)) := by
 obtain ⟨h0, h1, hb, hs⟩ := two_bx w t c1 c2
 refine ⟨h0.alloc _, h1.alloc _, ?_, hb.alloc (by omega) _⟩
 have h := Blk.new ((w.alloc (.cells c1 t)).alloc (.cells c2 t)) t c3
 rw [hs] at h
 exact h

set_option maxRecDepth 100000 in
set_option maxHeartbeats 8000000 in
theorem rfits_hi (nm na nb : Bool) (f a b : Option Addr) (k1 k2 n c m d M P Q g : Nat) (u r : Int) (w : World) (hm : NumC w nm f k1 k2 (M : Int)) (hx : NumC w na a n c (P : Int)) (hy : NumC w nb b m d (Q : Int)) (fM : Fit (M : Int)) (fMM : Fit ((M * M : Nat) : Int)) (fMQ : Fit ((M * M * Q : Nat) : Int)) (fP : Fit (P : Int)) (fQ : Fit (Q : Int)) (hg : IntKind.i64.wrap (2 * u) = ((2 * g : Nat) : Int)) (hu : decide (0 ≤ u) = true) (hg2 : g ≤ 10000)
  (hr : cmpZ ((M * M * Q * 2 ^ (2 * g) : Nat) : Int) ((P : Nat) : Int) = r) :
  Calls Tryz.prog 103 #[.agg #[.bool nm, .slice f k1 k2], .int .i64 u, .agg #[.bool na, .slice a n c], .agg #[.bool nb, .slice b m d]] w fun z w' => z = .returned (.bool (decide (r ≤ 0))) ∧ Below w.heap.size w w' := by
 have HR := Lib.hid hr
 have HG := Lib.hid hg
 have FM := Lib.hid fM
 have FMM := Lib.hid fMM
 have FMQ := Lib.hid fMQ
 have FP := Lib.hid fP
 have FQ := Lib.hid fQ
 have FG := Lib.hid (fit_two (n := 2 * g) (by omega))
 have HTW := Lib.hid (fun w => two_any (2 * g) w (by omega))
 have EMM : Hid ((M : Int) * (M : Int) = ((M * M : Nat) : Int)) := Lib.hid (Int.natCast_mul _ _).symm
 have EMQ : Hid (((M * M : Nat) : Int) * (Q : Int) = ((M * M * Q : Nat) : Int)) := Lib.hid (Int.natCast_mul _ _).symm
 have EX2 : Hid (((M * M * Q : Nat) : Int) * 2 ^ (2 * g) = ((M * M * Q * 2 ^ (2 * g) : Nat) : Int)) := Lib.hid (nat_cast_pow _ _).symm
 obtain ⟨hk0, hk1, hk2, hbw⟩ := three_bx w 74 #[.bool nm, .slice f k1 k2] #[.bool na, .slice a n c] #[.bool nb, .slice b m d]
 have HB7 := Lib.hid hbw
 have HM := Lib.hid (hm.below hbw (Nat.le_refl _))
 have HX := Lib.hid (hx.below hbw (Nat.le_refl _))
 have HY := Lib.hid (hy.below hbw (Nat.le_refl _))
 clear hm hx hy hbw hr fM fMM fMQ fP fQ hg
 go_enter Tryz.func103, Tryz.ntmps103
 go_upto_region 1 with fail
 generalize (((w.alloc (.cells #[.bool nm, .slice f k1 k2] 74)).alloc (.cells #[.bool na, .slice a n c] 74)).alloc (.cells #[.bool nb, .slice b m d] 74)) = wb at *
 generalize hsz0 : w.heap.size = s at *
 have HSZ := Lib.hid hsz0
 have v0 : wb.cell? ⟨s, 0, none⟩ = some (.bool nm) := hk0.cell 0
 have v1 : wb.cell? ⟨s, 1, none⟩ = some (.slice f k1 k2) := hk0.cell 1
 have y0 : wb.cell? ⟨s + 2, 0, none⟩ = some (.bool nb) := hk2.cell 0
 have y1 : wb.cell? ⟨s + 2, 1, none⟩ = some (.slice b m d) := hk2.cell 1
 have hlt_s : s < wb.heap.size := hk0.lt
 have hlt_s2 : s + 2 < wb.heap.size := hk2.lt
 have HK1 := Lib.hid hk1
 clear hk0 hk1 hk2 hsz0
 have hbA : Below wb.heap.size wb wb.drew := (Below.refl _ _).drew
 go_upto_region 1 with fail
 go_cut [9] (fun sB wx => ∃ (t : Nat) (nB : Bool) (pB : Option Addr) (lB cB : Nat), sB = .pointer (some ⟨t, 0, none⟩) ∧ Blk wx t 74 #[.bool nB, .slice pB lB cB] ∧ NumC wx nB pB lB cB ((M : Int) * (M : Int) * (Q : Int)) ∧ Below wb.heap.size wb wx ∧ wb.heap.size ≤ t)
 case first =>
  go_region_held3 (fun w' => w'.cell? ⟨s, 0, none⟩ = some (.bool nm) ∧ w'.cell? ⟨s, 1, none⟩ = some (.slice f k1 k2) ∧ w'.cell? ⟨s + 2, 0, none⟩ = some (.bool nb) ∧ w'.cell? ⟨s + 2, 1, none⟩ = some (.slice b m d)) (first | (exact ⟨v0, v1, y0, y1⟩) | go_keep | (exact ⟨sR10, sR11, sR12, sR13⟩) | (exact ⟨sR20, sR21, sR22, sR23⟩) | (refine ⟨?_, ?_, ?_, ?_⟩ <;> (rw [World.cell?_alloc_lt _ _ _ (by (try simp) <;> omega)]; assumption)) | (refine ⟨?_, ?_, ?_, ?_⟩ <;> (rw [World.cell?_setCell_other _ _ _ _ (by (try simp) <;> omega), World.cell?_setCell_other _ _ _ _ (by (try simp) <;> omega)]; assumption)))
   (first
    | (go_at_call 61; (with_reducible refine (mul_any nR1 nb pR1 b lR1 cR1 m d ((M : Int) * (M : Int)) (Q : Int) _ (by first | exact hN1 | exact hN1.below ((Below.refl _ _).alloc (Nat.le_refl _) _) (Nat.le_refl _)) (by first | exact HY.out.below hbR1 (Nat.le_refl _) | exact HY.out.below (hbR1.alloc hbR1.size _) (Nat.le_refl _)) (by rw [EMM.out]; exact FMM.out) FQ.out).mono ?_); rintro e wR2 ⟨nR2, pR2, lR2, cR2, rfl, hN2, hbc2, -⟩; have hbR2 : Below wb.heap.size wb wR2 := (by first | exact hbR1.trans (hbc2.mono hbR1.size) | exact (hbR1.alloc hbR1.size _).trans (hbc2.mono (Nat.le_trans hbR1.size (by simp)))); have hsR2 := hbR2.size; have sR20 : wR2.cell? ⟨s, 0, none⟩ = some (.bool nm) := (by rw [(bcell hbR2).1 _ _ hlt_s]; exact v0); have sR21 : wR2.cell? ⟨s, 1, none⟩ = some (.slice f k1 k2) := (by rw [(bcell hbR2).1 _ _ hlt_s]; exact v1); have sR22 : wR2.cell? ⟨s + 2, 0, none⟩ = some (.bool nb) := (by rw [(bcell hbR2).1 _ _ hlt_s2]; exact y0); have sR23 : wR2.cell? ⟨s + 2, 1, none⟩ = some (.slice b m d) := (by rw [(bcell hbR2).1 _ _ hlt_s2]; exact y1); (try ((first | (have HT2 := HT1.below hbc2 HT1.lt) | (have HT2 := (Blk.new _ 74 #[.bool false, .slice none 0 0]).below hbc2 (by simp)) | (have HT2 := (Blk.new _ 74 #[.bool false, .slice none 0 0]).drew.below hbc2 (by simp))); have t20 : wR2.cell? ⟨_, 0, none⟩ = some (.bool false) := HT2.cell 0; have t21 : wR2.cell? ⟨_, 1, none⟩ = some (.slice none 0 0) := HT2.cell 1; have t2f := HT2.frozen)))
    | (go_at_call 61; (with_reducible refine (mul_any nm nm f f k1 k2 k1 k2 (M : Int) (M : Int) _ (by first | exact HM.out.below hbA (Nat.le_refl _) | exact HM.out.below (hbA.alloc hbA.size _) (Nat.le_refl _)) (by first | exact HM.out.below hbA (Nat.le_refl _) | exact HM.out.below (hbA.alloc hbA.size _) (Nat.le_refl _)) FM.out FM.out).mono ?_); rintro e wR1 ⟨nR1, pR1, lR1, cR1, rfl, hN1, hbc1, -⟩; have hbR1 : Below wb.heap.size wb wR1 := (by first | exact hbA.trans (hbc1.mono hbA.size) | exact (hbA.alloc hbA.size _).trans (hbc1.mono (Nat.le_trans hbA.size (by simp)))); have hsR1 := hbR1.size; have sR10 : wR1.cell? ⟨s, 0, none⟩ = some (.bool nm) := (by rw [(bcell hbR1).1 _ _ hlt_s]; exact v0); have sR11 : wR1.cell? ⟨s, 1, none⟩ = some (.slice f k1 k2) := (by rw [(bcell hbR1).1 _ _ hlt_s]; exact v1); have sR12 : wR1.cell? ⟨s + 2, 0, none⟩ = some (.bool nb) := (by rw [(bcell hbR1).1 _ _ hlt_s2]; exact y0); have sR13 : wR1.cell? ⟨s + 2, 1, none⟩ = some (.slice b m d) := (by rw [(bcell hbR1).1 _ _ hlt_s2]; exact y1); (try ((first | (have HT1 := (Blk.new _ 74 #[.bool false, .slice none 0 0]).below hbc1 (by simp)) | (have HT1 := (Blk.new _ 74 #[.bool false, .slice none 0 0]).drew.below hbc1 (by simp))); have t10 : wR1.cell? ⟨_, 0, none⟩ = some (.bool false) := HT1.cell 0; have t11 : wR1.cell? ⟨_, 1, none⟩ = some (.slice none 0 0) := HT1.cell 1; have t1f := HT1.frozen))))
  all_goals go_wp2_with fail
  all_goals go_meet
  ·exact ⟨_, nR2, pR2, lR2, cR2, rfl, Blk.new _ _ _, hN2.below ((Below.refl _ _).alloc (Nat.le_refl _) _) (Nat.le_refl _), hbR2.alloc hbR2.size _, hbR2.size⟩
  all_goals exact ⟨_, nR2, pR2, lR2, cR2, rfl, ((HT2.set_ 0 _).set_ 1 _).to rfl, NumC.set2 hN2 t20 t21 _ _ _ _, (hbR2.setCell (by (try simp) <;> omega) _).setCell (by (try simp) <;> omega) _, by first | exact hbR2.size | exact hbR1.size | simp⟩
 case rest =>
  obtain ⟨t, n5, p5, l5, c5, rfl, hkt, hN5, hb5, htl⟩ := hcut
  rw [EMM.out, EMQ.out] at hN5
  have hts : t ≠ s + 1 := by have := HK1.out.lt; omega
  have htge : s ≤ t := by omega
  have HB5 := Lib.hid (HB7.out.trans (hb5.mono (by rw [← HSZ.out]; exact HB7.out.size)))
  have HX5 := Lib.hid (HX.out.below hb5 (Nat.le_refl _))
  have hkp := HK1.out.below hb5 HK1.out.lt
  have HN5 := Lib.hid hN5
  have HKT := Lib.hid hkt
  have HKP := Lib.hid hkp
  clear htl hb5 hN5 v0 v1 y0 y1 hlt_s hlt_s2 HK1 HB7 HX HY HM
  have a0 : wc.cell? ⟨t, 0, none⟩ = some (.bool n5) := hkt.cell 0
  have a1 : wc.cell? ⟨t, 1, none⟩ = some (.slice p5 l5 c5) := hkt.cell 1
  have x0 : wc.cell? ⟨s + 1, 0, none⟩ = some (.bool na) := hkp.cell 0
  have x1 : wc.cell? ⟨s + 1, 1, none⟩ = some (.slice a n c) := hkp.cell 1
  have hlt_t : t < wc.heap.size := hkt.lt
  have hlt_s1 : s + 1 < wc.heap.size := hkp.lt
  clear hkt hkp
  go_wp2_with fail
  have hbA : Below wc.heap.size wc wc.drew := (Below.refl _ _).drew
  refine wp_regionL (fun w' => w'.cell? ⟨t, 0, none⟩ = some (.bool n5) ∧ w'.cell? ⟨t, 1, none⟩ = some (.slice p5 l5 c5) ∧ w'.cell? ⟨s + 1, 0, none⟩ = some (.bool na) ∧ w'.cell? ⟨s + 1, 1, none⟩ = some (.slice a n c)) 5 (by kernel_rfl) (by exact ⟨a0, a1, x0, x1⟩) (fun hHeld => ?_)
  refine wpAnyL_take (i := 0) (oi := ⟨some 17, _, _, _, _, _⟩) (v := ?_) rfl (by kernel_rfl) (by kernel_rfl) (by kernel_rfl) (by kernel_rfl) (by kernel_rfl) (fun _ _ _ h => h) (Or.inl ⟨by rfl, ?_⟩) (by assumption) ?_
  rotate_left 1
  ·(intro w hSw; (try dsimp only at hSw); go_simp; try with_reducible rfl)
  try simp only [Act.put, List.setIfInBounds_toArray, List.set_cons_zero, List.set_cons_succ]
  refine wpAnyL_take (i := 1) (oi := ⟨some 18, _, _, _, _, _⟩) (v := ?_) rfl (by kernel_rfl) (by kernel_rfl) (by kernel_rfl) (by kernel_rfl) (by kernel_rfl) (fun _ _ _ h => h) (Or.inl ⟨by rfl, ?_⟩) (by assumption) ?_
  rotate_left 1
  ·(intro w hSw; (try dsimp only at hSw); go_simp; try with_reducible rfl)
  try simp only [Act.put, List.setIfInBounds_toArray, List.set_cons_zero, List.set_cons_succ]
  refine wpAnyL_take (i := 2) (oi := ⟨some 19, _, _, _, _, _⟩) (v := ?_) rfl (by kernel_rfl) (by kernel_rfl) (by kernel_rfl) (by kernel_rfl) (by kernel_rfl) (fun _ _ _ h => h) (Or.inl ⟨by rfl, ?_⟩) (by assumption) ?_
  rotate_left 1
  ·(intro w hSw; (try dsimp only at hSw); go_simp; try with_reducible rfl)
  try simp only [Act.put, List.setIfInBounds_toArray, List.set_cons_zero, List.set_cons_succ]
  refine wpAnyL_one (i := 3) (o := ⟨some 20, _, _, _, _, _⟩) (by kernel_rfl) rfl (fun K hK => ?_)
  go_simp
  rw [HG.out]
  refine (HTW.out _).mono ?_
  rintro e w2 ⟨n2, p2, l2, c2, rfl, hN2, hb2, -⟩
  have hB2 := hbA.trans (hb2.mono (by exact Nat.le_refl _))
  have w20 : w2.cell? ⟨t, 0, none⟩ = some (.bool n5) := by rw [(bcell hB2).1 _ _ hlt_t]; exact a0
  have w21 : w2.cell? ⟨t, 1, none⟩ = some (.slice p5 l5 c5) := by rw [(bcell hB2).1 _ _ hlt_t]; exact a1
  have w22 : w2.cell? ⟨s + 1, 0, none⟩ = some (.bool na) := by rw [(bcell hB2).1 _ _ hlt_s1]; exact x0
  have w23 : w2.cell? ⟨s + 1, 1, none⟩ = some (.slice a n c) := by rw [(bcell hB2).1 _ _ hlt_s1]; exact x1
  refine hK.out _ _ (by exact ⟨w20, w21, w22, w23⟩) ?_
  clear hK K hHeld
  intro hHeld
  try simp only [Act.put, List.setIfInBounds_toArray, List.set_cons_zero, List.set_cons_succ]
  refine wpAnyL_one (i := 4) (o := ⟨some 21, _, _, _, _, _⟩) (by kernel_rfl) rfl (fun K hK => ?_)
  go_simp
  refine (mul_any _ _ _ _ _ _ _ _ ((M * M * Q : Nat) : Int) (2 ^ (2 * g)) _ (HN5.out.below hB2 (Nat.le_refl _)) hN2 FMQ.out FG.out).mono ?_
  rintro e w3 ⟨n3, p3, l3, c3, rfl, hN3, hb3, -⟩
  rw [EX2.out] at hN3
  have hB3 := hB2.trans (hb3.mono hB2.size)
  have hBT := HKT.out.below hB3 hlt_t
  have hBP := HKP.out.below hB3 hlt_s1
  have xf : ∀ o, w3.frozen? ⟨t, o, none⟩ = false := fun o => hBT.frozen o
  have w30 : w3.cell? ⟨t, 0, none⟩ = some (.bool n5) := by rw [(bcell hB3).1 _ _ hlt_t]; exact a0
  have w31 : w3.cell? ⟨t, 1, none⟩ = some (.slice p5 l5 c5) := by rw [(bcell hB3).1 _ _ hlt_t]; exact a1
  have w32 : w3.cell? ⟨s + 1, 0, none⟩ = some (.bool na) := by rw [(bcell hB3).1 _ _ hlt_s1]; exact x0
  have w33 : w3.cell? ⟨s + 1, 1, none⟩ = some (.slice a n c) := by rw [(bcell hB3).1 _ _ hlt_s1]; exact x1
  refine hK.out _ _ (by exact ⟨w30, w31, w32, w33⟩) ?_
  clear hK K hHeld
  intro hHeld
  try simp only [Act.put, List.setIfInBounds_toArray, List.set_cons_zero, List.set_cons_succ]
  refine wpAnyL_last (o := ⟨none, _, _, _, _, _⟩) (by kernel_rfl) (by kernel_rfl) rfl (fun K hK => ?_)
  go_simp
  refine hK _ _ ?_
  clear hK K hHeld
  try simp only [Act.put, List.setIfInBounds_toArray, List.set_cons_zero, List.set_cons_succ]
  obtain ⟨w9, hw9⟩ : ∃ w9, (w3.setCell ⟨t, 0, none⟩ (.bool n3)).setCell ⟨t, 1, none⟩ (.slice p3 l3 c3) = w9 := ⟨_, rfl⟩
  rw [hw9]
  have HKT9 : Hid (Blk w9 t 74 #[.bool n3, .slice p3 l3 c3]) := Lib.hid (by rw [← hw9]; exact ((hBT.set_ 0 _).set_ 1 _).to rfl)
  have HKP9 : Hid (Blk w9 (s + 1) 74 #[.bool na, .slice a n c]) := Lib.hid (by rw [← hw9]; exact (hBP.far (by simpa using hts.symm) _).far (by simpa using hts.symm) _)
  have HA9 : Hid (NumC w9 n3 p3 l3 c3 ((M * M * Q * 2 ^ (2 * g) : Nat) : Int)) := Lib.hid (by rw [← hw9]; exact NumC.set2 hN3 w30 w31 _ _ _ _)
  have HP9 : Hid (NumC w9 na a n c (P : Int)) := Lib.hid (by rw [← hw9]; exact NumC.set2 (HX5.out.below hB3 (Nat.le_refl _)) w30 w31 _ _ _ _)
  have HB9 : Hid (Below s w w9) := Lib.hid (by rw [← hw9]; exact ((HB5.out.trans (hB3.mono (by rw [← HSZ.out]; exact HB5.out.size))).setCell (by first | exact htge | simp) _).setCell (by first | exact htge | simp) _)
  clear hw9 hbA hB2 hN2 hB3 hN3 hBT hBP xf w20 w21 w22 w23 w30 w31 w32 w33 x0 x1 a0 a1 hlt_t hlt_s1 hb2 hb3 HX5 HN5 HKT HKP HB5
  have a0 : w9.cell? ⟨t, 0, none⟩ = some (.bool n3) := HKT9.out.cell 0
  have a1 : w9.cell? ⟨t, 1, none⟩ = some (.slice p3 l3 c3) := HKT9.out.cell 1
  have x0 : w9.cell? ⟨s + 1, 0, none⟩ = some (.bool na) := HKP9.out.cell 0
  have x1 : w9.cell? ⟨s + 1, 1, none⟩ = some (.slice a n c) := HKP9.out.cell 1
  go_wp2_with fail
  refine (cmp_at _ _ _ _ _ _ _ _ _ _ r _ HR.out HA9.out HP9.out).mono ?_
  rintro e w10 ⟨rfl, hb10⟩
  have HB10 := Lib.hid (HB9.out.trans (hb10.mono (by rw [← HSZ.out]; exact HB9.out.size)))
  clear hb10
  go_wp2_with fail
  go_ret
  exact ⟨rfl, by rw [HSZ.out]; exact HB10.out⟩

set_option maxRecDepth 100000 in
set_option maxHeartbeats 8000000 in
theorem rfits_lo (nm na nb : Bool) (f a b : Option Addr) (k1 k2 n c m d M P Q g : Nat) (u r : Int) (w : World) (hm : NumC w nm f k1 k2 (M : Int)) (hx : NumC w na a n c (P : Int)) (hy : NumC w nb b m d (Q : Int)) (fM : Fit (M : Int)) (fMM : Fit ((M * M : Nat) : Int)) (fMQ : Fit ((M * M * Q : Nat) : Int)) (fP : Fit (P : Int)) (fQ : Fit (Q : Int)) (hg : IntKind.i64.wrap (-2 * u) = ((2 * g : Nat) : Int)) (hu : decide (0 ≤ u) = false) (hg2 : g ≤ 10000)
  (hr : cmpZ ((M * M * Q : Nat) : Int) ((P * 2 ^ (2 * g) : Nat) : Int) = r) :
  Calls Tryz.prog 103 #[.agg #[.bool nm, .slice f k1 k2], .int .i64 u, .agg #[.bool na, .slice a n c], .agg #[.bool nb, .slice b m d]] w fun z w' => z = .returned (.bool (decide (r ≤ 0))) ∧ Below w.heap.size w w' := by
 have HR := Lib.hid hr
 have HG := Lib.hid hg
 have FM := Lib.hid fM
 have FMM := Lib.hid fMM
 have FMQ := Lib.hid fMQ
 have FP := Lib.hid fP
 have FQ := Lib.hid fQ
 have FG := Lib.hid (fit_two (n := 2 * g) (by omega))
 have HTW := Lib.hid (fun w => two_any (2 * g) w (by omega))
 have EMM : Hid ((M : Int) * (M : Int) = ((M * M : Nat) : Int)) := Lib.hid (Int.natCast_mul _ _).symm
 have EMQ : Hid (((M * M : Nat) : Int) * (Q : Int) = ((M * M * Q : Nat) : Int)) := Lib.hid (Int.natCast_mul _ _).symm
 have EX2 : Hid (((P : Nat) : Int) * 2 ^ (2 * g) = ((P * 2 ^ (2 * g) : Nat) : Int)) := Lib.hid (nat_cast_pow _ _).symm
 obtain ⟨hk0, hk1, hk2, hbw⟩ := three_bx w 74 #[.bool nm, .slice f k1 k2] #[.bool na, .slice a n c] #[.bool nb, .slice b m d]
 have HB7 := Lib.hid hbw
 have HM := Lib.hid (hm.below hbw (Nat.le_refl _))
 have HX := Lib.hid (hx.below hbw (Nat.le_refl _))
 have HY := Lib.hid (hy.below hbw (Nat.le_refl _))
 clear hm hx hy hbw hr fM fMM fMQ fP fQ hg
 go_enter Tryz.func103, Tryz.ntmps103
 go_upto_region 1 with fail
 generalize (((w.alloc (.cells #[.bool nm, .slice f k1 k2] 74)).alloc (.cells #[.bool na, .slice a n c] 74)).alloc (.cells #[.bool nb, .slice b m d] 74)) = wb at *
 generalize hsz0 : w.heap.size = s at *
 have HSZ := Lib.hid hsz0
 have v0 : wb.cell? ⟨s, 0, none⟩ = some (.bool nm) := hk0.cell 0
 have v1 : wb.cell? ⟨s, 1, none⟩ = some (.slice f k1 k2) := hk0.cell 1
 have y0 : wb.cell? ⟨s + 2, 0, none⟩ = some (.bool nb) := hk2.cell 0
 have y1 : wb.cell? ⟨s + 2, 1, none⟩ = some (.slice b m d) := hk2.cell 1
 have hlt_s : s < wb.heap.size := hk0.lt
 have hlt_s2 : s + 2 < wb.heap.size := hk2.lt
 have HK1 := Lib.hid hk1
 clear hk0 hk1 hk2 hsz0
 have hbA : Below wb.heap.size wb wb.drew := (Below.refl _ _).drew
 go_upto_region 1 with fail
 go_cut [9] (fun sB wx => ∃ (t : Nat) (nB : Bool) (pB : Option Addr) (lB cB : Nat), sB = .pointer (some ⟨t, 0, none⟩) ∧ Blk wx t 74 #[.bool nB, .slice pB lB cB] ∧ NumC wx nB pB lB cB ((M : Int) * (M : Int) * (Q : Int)) ∧ Below wb.heap.size wb wx ∧ wb.heap.size ≤ t)
 case first =>
  go_region_held3 (fun w' => w'.cell? ⟨s, 0, none⟩ = some (.bool nm) ∧ w'.cell? ⟨s, 1, none⟩ = some (.slice f k1 k2) ∧ w'.cell? ⟨s + 2, 0, none⟩ = some (.bool nb) ∧ w'.cell? ⟨s + 2, 1, none⟩ = some (.slice b m d)) (first | (exact ⟨v0, v1, y0, y1⟩) | go_keep | (exact ⟨sR10, sR11, sR12, sR13⟩) | (exact ⟨sR20, sR21, sR22, sR23⟩) | (refine ⟨?_, ?_, ?_, ?_⟩ <;> (rw [World.cell?_alloc_lt _ _ _ (by (try simp) <;> omega)]; assumption)) | (refine ⟨?_, ?_, ?_, ?_⟩ <;> (rw [World.cell?_setCell_other _ _ _ _ (by (try simp) <;> omega), World.cell?_setCell_other _ _ _ _ (by (try simp) <;> omega)]; assumption)))
   (first
    | (go_at_call 61; (with_reducible refine (mul_any nR1 nb pR1 b lR1 cR1 m d ((M : Int) * (M : Int)) (Q : Int) _ (by first | exact hN1 | exact hN1.below ((Below.refl _ _).alloc (Nat.le_refl _) _) (Nat.le_refl _)) (by first | exact HY.out.below hbR1 (Nat.le_refl _) | exact HY.out.below (hbR1.alloc hbR1.size _) (Nat.le_refl _)) (by rw [EMM.out]; exact FMM.out) FQ.out).mono ?_); rintro e wR2 ⟨nR2, pR2, lR2, cR2, rfl, hN2, hbc2, -⟩; have hbR2 : Below wb.heap.size wb wR2 := (by first | exact hbR1.trans (hbc2.mono hbR1.size) | exact (hbR1.alloc hbR1.size _).trans (hbc2.mono (Nat.le_trans hbR1.size (by simp)))); have hsR2 := hbR2.size; have sR20 : wR2.cell? ⟨s, 0, none⟩ = some (.bool nm) := (by rw [(bcell hbR2).1 _ _ hlt_s]; exact v0); have sR21 : wR2.cell? ⟨s, 1, none⟩ = some (.slice f k1 k2) := (by rw [(bcell hbR2).1 _ _ hlt_s]; exact v1); have sR22 : wR2.cell? ⟨s + 2, 0, none⟩ = some (.bool nb) := (by rw [(bcell hbR2).1 _ _ hlt_s2]; exact y0); have sR23 : wR2.cell? ⟨s + 2, 1, none⟩ = some (.slice b m d) := (by rw [(bcell hbR2).1 _ _ hlt_s2]; exact y1); (try ((first | (have HT2 := HT1.below hbc2 HT1.lt) | (have HT2 := (Blk.new _ 74 #[.bool false, .slice none 0 0]).below hbc2 (by simp)) | (have HT2 := (Blk.new _ 74 #[.bool false, .slice none 0 0]).drew.below hbc2 (by simp))); have t20 : wR2.cell? ⟨_, 0, none⟩ = some (.bool false) := HT2.cell 0; have t21 : wR2.cell? ⟨_, 1, none⟩ = some (.slice none 0 0) := HT2.cell 1; have t2f := HT2.frozen)))
    | (go_at_call 61; (with_reducible refine (mul_any nm nm f f k1 k2 k1 k2 (M : Int) (M : Int) _ (by first | exact HM.out.below hbA (Nat.le_refl _) | exact HM.out.below (hbA.alloc hbA.size _) (Nat.le_refl _)) (by first | exact HM.out.below hbA (Nat.le_refl _) | exact HM.out.below (hbA.alloc hbA.size _) (Nat.le_refl _)) FM.out FM.out).mono ?_); rintro e wR1 ⟨nR1, pR1, lR1, cR1, rfl, hN1, hbc1, -⟩; have hbR1 : Below wb.heap.size wb wR1 := (by first | exact hbA.trans (hbc1.mono hbA.size) | exact (hbA.alloc hbA.size _).trans (hbc1.mono (Nat.le_trans hbA.size (by simp)))); have hsR1 := hbR1.size; have sR10 : wR1.cell? ⟨s, 0, none⟩ = some (.bool nm) := (by rw [(bcell hbR1).1 _ _ hlt_s]; exact v0); have sR11 : wR1.cell? ⟨s, 1, none⟩ = some (.slice f k1 k2) := (by rw [(bcell hbR1).1 _ _ hlt_s]; exact v1); have sR12 : wR1.cell? ⟨s + 2, 0, none⟩ = some (.bool nb) := (by rw [(bcell hbR1).1 _ _ hlt_s2]; exact y0); have sR13 : wR1.cell? ⟨s + 2, 1, none⟩ = some (.slice b m d) := (by rw [(bcell hbR1).1 _ _ hlt_s2]; exact y1); (try ((first | (have HT1 := (Blk.new _ 74 #[.bool false, .slice none 0 0]).below hbc1 (by simp)) | (have HT1 := (Blk.new _ 74 #[.bool false, .slice none 0 0]).drew.below hbc1 (by simp))); have t10 : wR1.cell? ⟨_, 0, none⟩ = some (.bool false) := HT1.cell 0; have t11 : wR1.cell? ⟨_, 1, none⟩ = some (.slice none 0 0) := HT1.cell 1; have t1f := HT1.frozen))))
  all_goals go_wp2_with fail
  all_goals go_meet
  ·exact ⟨_, nR2, pR2, lR2, cR2, rfl, Blk.new _ _ _, hN2.below ((Below.refl _ _).alloc (Nat.le_refl _) _) (Nat.le_refl _), hbR2.alloc hbR2.size _, hbR2.size⟩
  all_goals exact ⟨_, nR2, pR2, lR2, cR2, rfl, ((HT2.set_ 0 _).set_ 1 _).to rfl, NumC.set2 hN2 t20 t21 _ _ _ _, (hbR2.setCell (by (try simp) <;> omega) _).setCell (by (try simp) <;> omega) _, by first | exact hbR2.size | exact hbR1.size | simp⟩
 case rest =>
  obtain ⟨t, n5, p5, l5, c5, rfl, hkt, hN5, hb5, htl⟩ := hcut
  rw [EMM.out, EMQ.out] at hN5
  have hts : t ≠ s + 1 := by have := HK1.out.lt; omega
  have htge : s ≤ t := by omega
  have HB5 := Lib.hid (HB7.out.trans (hb5.mono (by rw [← HSZ.out]; exact HB7.out.size)))
  have HX5 := Lib.hid (HX.out.below hb5 (Nat.le_refl _))
  have hkp := HK1.out.below hb5 HK1.out.lt
  have HN5 := Lib.hid hN5
  have HKT := Lib.hid hkt
  have HKP := Lib.hid hkp
  clear htl hb5 hN5 v0 v1 y0 y1 hlt_s hlt_s2 HK1 HB7 HX HY HM
  have a0 : wc.cell? ⟨t, 0, none⟩ = some (.bool n5) := hkt.cell 0
  have a1 : wc.cell? ⟨t, 1, none⟩ = some (.slice p5 l5 c5) := hkt.cell 1
  have x0 : wc.cell? ⟨s + 1, 0, none⟩ = some (.bool na) := hkp.cell 0
  have x1 : wc.cell? ⟨s + 1, 1, none⟩ = some (.slice a n c) := hkp.cell 1
  have hlt_t : t < wc.heap.size := hkt.lt
  have hlt_s1 : s + 1 < wc.heap.size := hkp.lt
  clear hkt hkp
  go_wp2_with fail
  have hbA : Below wc.heap.size wc wc.drew := (Below.refl _ _).drew
  refine wp_regionL (fun w' => w'.cell? ⟨t, 0, none⟩ = some (.bool n5) ∧ w'.cell? ⟨t, 1, none⟩ = some (.slice p5 l5 c5) ∧ w'.cell? ⟨s + 1, 0, none⟩ = some (.bool na) ∧ w'.cell? ⟨s + 1, 1, none⟩ = some (.slice a n c)) 5 (by kernel_rfl) (by exact ⟨a0, a1, x0, x1⟩) (fun hHeld => ?_)
  refine wpAnyL_take (i := 0) (oi := ⟨some 22, _, _, _, _, _⟩) (v := ?_) rfl (by kernel_rfl) (by kernel_rfl) (by kernel_rfl) (by kernel_rfl) (by kernel_rfl) (fun _ _ _ h => h) (Or.inl ⟨by rfl, ?_⟩) (by assumption) ?_
  rotate_left 1
  ·(intro w hSw; (try dsimp only at hSw); go_simp; try with_reducible rfl)
  try simp only [Act.put, List.setIfInBounds_toArray, List.set_cons_zero, List.set_cons_succ]
  refine wpAnyL_take (i := 1) (oi := ⟨some 23, _, _, _, _, _⟩) (v := ?_) rfl (by kernel_rfl) (by kernel_rfl) (by kernel_rfl) (by kernel_rfl) (by kernel_rfl) (fun _ _ _ h => h) (Or.inl ⟨by rfl, ?_⟩) (by assumption) ?_
  rotate_left 1
  ·(intro w hSw; (try dsimp only at hSw); go_simp; try with_reducible rfl)
  try simp only [Act.put, List.setIfInBounds_toArray, List.set_cons_zero, List.set_cons_succ]
  refine wpAnyL_take (i := 2) (oi := ⟨some 24, _, _, _, _, _⟩) (v := ?_) rfl (by kernel_rfl) (by kernel_rfl) (by kernel_rfl) (by kernel_rfl) (by kernel_rfl) (fun _ _ _ h => h) (Or.inl ⟨by rfl, ?_⟩) (by assumption) ?_
  rotate_left 1
  ·(intro w hSw; (try dsimp only at hSw); go_simp; try with_reducible rfl)
  try simp only [Act.put, List.setIfInBounds_toArray, List.set_cons_zero, List.set_cons_succ]
  refine wpAnyL_one (i := 3) (o := ⟨some 25, _, _, _, _, _⟩) (by kernel_rfl) rfl (fun K hK => ?_)
  go_simp
  rw [HG.out]
  refine (HTW.out _).mono ?_
  rintro e w2 ⟨n2, p2, l2, c2, rfl, hN2, hb2, -⟩
  have hB2 := hbA.trans (hb2.mono (by exact Nat.le_refl _))
  have w20 : w2.cell? ⟨t, 0, none⟩ = some (.bool n5) := by rw [(bcell hB2).1 _ _ hlt_t]; exact a0
  have w21 : w2.cell? ⟨t, 1, none⟩ = some (.slice p5 l5 c5) := by rw [(bcell hB2).1 _ _ hlt_t]; exact a1
  have w22 : w2.cell? ⟨s + 1, 0, none⟩ = some (.bool na) := by rw [(bcell hB2).1 _ _ hlt_s1]; exact x0
  have w23 : w2.cell? ⟨s + 1, 1, none⟩ = some (.slice a n c) := by rw [(bcell hB2).1 _ _ hlt_s1]; exact x1
  refine hK.out _ _ (by exact ⟨w20, w21, w22, w23⟩) ?_
  clear hK K hHeld
  intro hHeld
  try simp only [Act.put, List.setIfInBounds_toArray, List.set_cons_zero, List.set_cons_succ]
  refine wpAnyL_one (i := 4) (o := ⟨some 26, _, _, _, _, _⟩) (by kernel_rfl) rfl (fun K hK => ?_)
  go_simp
  refine (mul_any _ _ _ _ _ _ _ _ (P : Int) (2 ^ (2 * g)) _ (HX5.out.below hB2 (Nat.le_refl _)) hN2 FP.out FG.out).mono ?_
  rintro e w3 ⟨n3, p3, l3, c3, rfl, hN3, hb3, -⟩
  rw [EX2.out] at hN3
  have hB3 := hB2.trans (hb3.mono hB2.size)
  have hBT := HKT.out.below hB3 hlt_t
  have hBP := HKP.out.below hB3 hlt_s1
  have xf : ∀ o, w3.frozen? ⟨s + 1, o, none⟩ = false := fun o => hBP.frozen o
  have w30 : w3.cell? ⟨t, 0, none⟩ = some (.bool n5) := by rw [(bcell hB3).1 _ _ hlt_t]; exact a0
  have w31 : w3.cell? ⟨t, 1, none⟩ = some (.slice p5 l5 c5) := by rw [(bcell hB3).1 _ _ hlt_t]; exact a1
  have w32 : w3.cell? ⟨s + 1, 0, none⟩ = some (.bool na) := by rw [(bcell hB3).1 _ _ hlt_s1]; exact x0
  have w33 : w3.cell? ⟨s + 1, 1, none⟩ = some (.slice a n c) := by rw [(bcell hB3).1 _ _ hlt_s1]; exact x1
  refine hK.out _ _ (by exact ⟨w30, w31, w32, w33⟩) ?_
  clear hK K hHeld
  intro hHeld
  try simp only [Act.put, List.setIfInBounds_toArray, List.set_cons_zero, List.set_cons_succ]
  refine wpAnyL_last (o := ⟨none, _, _, _, _, _⟩) (by kernel_rfl) (by kernel_rfl) rfl (fun K hK => ?_)
  go_simp
  refine hK _ _ ?_
  clear hK K hHeld
  try simp only [Act.put, List.setIfInBounds_toArray, List.set_cons_zero, List.set_cons_succ]
  obtain ⟨w9, hw9⟩ : ∃ w9, (w3.setCell ⟨s + 1, 0, none⟩ (.bool n3)).setCell ⟨s + 1, 1, none⟩ (.slice p3 l3 c3) = w9 := ⟨_, rfl⟩
  rw [hw9]
  have HKT9 : Hid (Blk w9 t 74 #[.bool n5, .slice p5 l5 c5]) := Lib.hid (by rw [← hw9]; exact (hBT.far (by simpa using hts) _).far (by simpa using hts) _)
  have HKP9 : Hid (Blk w9 (s + 1) 74 #[.bool n3, .slice p3 l3 c3]) := Lib.hid (by rw [← hw9]; exact ((hBP.set_ 0 _).set_ 1 _).to rfl)
  have HA9 : Hid (NumC w9 n5 p5 l5 c5 ((M * M * Q : Nat) : Int)) := Lib.hid (by rw [← hw9]; exact NumC.set2 (HN5.out.below hB3 (Nat.le_refl _)) w32 w33 _ _ _ _)
  have HP9 : Hid (NumC w9 n3 p3 l3 c3 ((P * 2 ^ (2 * g) : Nat) : Int)) := Lib.hid (by rw [← hw9]; exact NumC.set2 hN3 w32 w33 _ _ _ _)
  have HB9 : Hid (Below s w w9) := Lib.hid (by rw [← hw9]; exact ((HB5.out.trans (hB3.mono (by rw [← HSZ.out]; exact HB5.out.size))).setCell (by first | exact htge | simp) _).setCell (by first | exact htge | simp) _)
  clear hw9 hbA hB2 hN2 hB3 hN3 hBT hBP xf w20 w21 w22 w23 w30 w31 w32 w33 x0 x1 a0 a1 hlt_t hlt_s1 hb2 hb3 HX5 HN5 HKT HKP HB5
  have a0 : w9.cell? ⟨t, 0, none⟩ = some (.bool n5) := HKT9.out.cell 0
  have a1 : w9.cell? ⟨t, 1, none⟩ = some (.slice p5 l5 c5) := HKT9.out.cell 1
  have x0 : w9.cell? ⟨s + 1, 0, none⟩ = some (.bool n3) := HKP9.out.cell 0
  have x1 : w9.cell? ⟨s + 1, 1, none⟩ = some (.slice p3 l3 c3) := HKP9.out.cell 1
  go_wp2_with fail
  refine (cmp_at _ _ _ _ _ _ _ _ _ _ r _ HR.out HA9.out HP9.out).mono ?_
  rintro e w10 ⟨rfl, hb10⟩
  have HB10 := Lib.hid (HB9.out.trans (hb10.mono (by rw [← HSZ.out]; exact HB9.out.size)))
  clear hb10
  go_wp2_with fail
  go_ret
  exact ⟨rfl, by rw [HSZ.out]; exact HB10.out⟩

set_option maxRecDepth 100000 in
set_option maxHeartbeats 8000000 in
theorem rfits0_hi (nm na nb : Bool) (f a b : Option Addr) (k1 k2 n c m d M P Q g : Nat) (u r : Int) (w : World) (hm : NumC w nm f k1 k2 (M : Int)) (hx : NumC w na a n c (P : Int)) (hy : NumC w nb b m d (Q : Int)) (fM : Fit (M : Int)) (fMM : Fit ((M * M : Nat) : Int)) (fMQ : Fit ((M * M * Q : Nat) : Int)) (fP : Fit (P : Int)) (fQ : Fit (Q : Int)) (hg : IntKind.i64.wrap (2 * u) = ((2 * g : Nat) : Int)) (hu : decide (0 ≤ u) = true) (hg2 : g ≤ 10000)
  (hr : cmpZ ((M * M * Q * 2 ^ (2 * g) : Nat) : Int) ((P : Nat) : Int) = r) :
  Calls Tryz.prog 104 #[.agg #[.bool nm, .slice f k1 k2], .int .i64 u, .agg #[.bool na, .slice a n c], .agg #[.bool nb, .slice b m d]] w fun z w' => z = .returned (.bool ((r == 0))) ∧ Below w.heap.size w w' := by
 have HR := Lib.hid hr
 have HG := Lib.hid hg
 have FM := Lib.hid fM
 have FMM := Lib.hid fMM
 have FMQ := Lib.hid fMQ
 have FP := Lib.hid fP
 have FQ := Lib.hid fQ
 have FG := Lib.hid (fit_two (n := 2 * g) (by omega))
 have HTW := Lib.hid (fun w => two_any (2 * g) w (by omega))
 have EMM : Hid ((M : Int) * (M : Int) = ((M * M : Nat) : Int)) := Lib.hid (Int.natCast_mul _ _).symm
 have EMQ : Hid (((M * M : Nat) : Int) * (Q : Int) = ((M * M * Q : Nat) : Int)) := Lib.hid (Int.natCast_mul _ _).symm
 have EX2 : Hid (((M * M * Q : Nat) : Int) * 2 ^ (2 * g) = ((M * M * Q * 2 ^ (2 * g) : Nat) : Int)) := Lib.hid (nat_cast_pow _ _).symm
 obtain ⟨hk0, hk1, hk2, hbw⟩ := three_bx w 74 #[.bool nm, .slice f k1 k2] #[.bool na, .slice a n c] #[.bool nb, .slice b m d]
 have HB7 := Lib.hid hbw
 have HM := Lib.hid (hm.below hbw (Nat.le_refl _))
 have HX := Lib.hid (hx.below hbw (Nat.le_refl _))
 have HY := Lib.hid (hy.below hbw (Nat.le_refl _))
 clear hm hx hy hbw hr fM fMM fMQ fP fQ hg
 go_enter Tryz.func104, Tryz.ntmps104
 go_upto_region 1 with fail
 generalize (((w.alloc (.cells #[.bool nm, .slice f k1 k2] 74)).alloc (.cells #[.bool na, .slice a n c] 74)).alloc (.cells #[.bool nb, .slice b m d] 74)) = wb at *
 generalize hsz0 : w.heap.size = s at *
 have HSZ := Lib.hid hsz0
 have v0 : wb.cell? ⟨s, 0, none⟩ = some (.bool nm) := hk0.cell 0
 have v1 : wb.cell? ⟨s, 1, none⟩ = some (.slice f k1 k2) := hk0.cell 1
 have y0 : wb.cell? ⟨s + 2, 0, none⟩ = some (.bool nb) := hk2.cell 0
 have y1 : wb.cell? ⟨s + 2, 1, none⟩ = some (.slice b m d) := hk2.cell 1
 have hlt_s : s < wb.heap.size := hk0.lt
 have hlt_s2 : s + 2 < wb.heap.size := hk2.lt
 have HK1 := Lib.hid hk1
 clear hk0 hk1 hk2 hsz0
 have hbA : Below wb.heap.size wb wb.drew := (Below.refl _ _).drew
 go_upto_region 1 with fail
 go_cut [9] (fun sB wx => ∃ (t : Nat) (nB : Bool) (pB : Option Addr) (lB cB : Nat), sB = .pointer (some ⟨t, 0, none⟩) ∧ Blk wx t 74 #[.bool nB, .slice pB lB cB] ∧ NumC wx nB pB lB cB ((M : Int) * (M : Int) * (Q : Int)) ∧ Below wb.heap.size wb wx ∧ wb.heap.size ≤ t)
 case first =>
  go_region_held3 (fun w' => w'.cell? ⟨s, 0, none⟩ = some (.bool nm) ∧ w'.cell? ⟨s, 1, none⟩ = some (.slice f k1 k2) ∧ w'.cell? ⟨s + 2, 0, none⟩ = some (.bool nb) ∧ w'.cell? ⟨s + 2, 1, none⟩ = some (.slice b m d)) (first | (exact ⟨v0, v1, y0, y1⟩) | go_keep | (exact ⟨sR10, sR11, sR12, sR13⟩) | (exact ⟨sR20, sR21, sR22, sR23⟩) | (refine ⟨?_, ?_, ?_, ?_⟩ <;> (rw [World.cell?_alloc_lt _ _ _ (by (try simp) <;> omega)]; assumption)) | (refine ⟨?_, ?_, ?_, ?_⟩ <;> (rw [World.cell?_setCell_other _ _ _ _ (by (try simp) <;> omega), World.cell?_setCell_other _ _ _ _ (by (try simp) <;> omega)]; assumption)))
   (first
    | (go_at_call 61; (with_reducible refine (mul_any nR1 nb pR1 b lR1 cR1 m d ((M : Int) * (M : Int)) (Q : Int) _ (by first | exact hN1 | exact hN1.below ((Below.refl _ _).alloc (Nat.le_refl _) _) (Nat.le_refl _)) (by first | exact HY.out.below hbR1 (Nat.le_refl _) | exact HY.out.below (hbR1.alloc hbR1.size _) (Nat.le_refl _)) (by rw [EMM.out]; exact FMM.out) FQ.out).mono ?_); rintro e wR2 ⟨nR2, pR2, lR2, cR2, rfl, hN2, hbc2, -⟩; have hbR2 : Below wb.heap.size wb wR2 := (by first | exact hbR1.trans (hbc2.mono hbR1.size) | exact (hbR1.alloc hbR1.size _).trans (hbc2.mono (Nat.le_trans hbR1.size (by simp)))); have hsR2 := hbR2.size; have sR20 : wR2.cell? ⟨s, 0, none⟩ = some (.bool nm) := (by rw [(bcell hbR2).1 _ _ hlt_s]; exact v0); have sR21 : wR2.cell? ⟨s, 1, none⟩ = some (.slice f k1 k2) := (by rw [(bcell hbR2).1 _ _ hlt_s]; exact v1); have sR22 : wR2.cell? ⟨s + 2, 0, none⟩ = some (.bool nb) := (by rw [(bcell hbR2).1 _ _ hlt_s2]; exact y0); have sR23 : wR2.cell? ⟨s + 2, 1, none⟩ = some (.slice b m d) := (by rw [(bcell hbR2).1 _ _ hlt_s2]; exact y1); (try ((first | (have HT2 := HT1.below hbc2 HT1.lt) | (have HT2 := (Blk.new _ 74 #[.bool false, .slice none 0 0]).below hbc2 (by simp)) | (have HT2 := (Blk.new _ 74 #[.bool false, .slice none 0 0]).drew.below hbc2 (by simp))); have t20 : wR2.cell? ⟨_, 0, none⟩ = some (.bool false) := HT2.cell 0; have t21 : wR2.cell? ⟨_, 1, none⟩ = some (.slice none 0 0) := HT2.cell 1; have t2f := HT2.frozen)))
    | (go_at_call 61; (with_reducible refine (mul_any nm nm f f k1 k2 k1 k2 (M : Int) (M : Int) _ (by first | exact HM.out.below hbA (Nat.le_refl _) | exact HM.out.below (hbA.alloc hbA.size _) (Nat.le_refl _)) (by first | exact HM.out.below hbA (Nat.le_refl _) | exact HM.out.below (hbA.alloc hbA.size _) (Nat.le_refl _)) FM.out FM.out).mono ?_); rintro e wR1 ⟨nR1, pR1, lR1, cR1, rfl, hN1, hbc1, -⟩; have hbR1 : Below wb.heap.size wb wR1 := (by first | exact hbA.trans (hbc1.mono hbA.size) | exact (hbA.alloc hbA.size _).trans (hbc1.mono (Nat.le_trans hbA.size (by simp)))); have hsR1 := hbR1.size; have sR10 : wR1.cell? ⟨s, 0, none⟩ = some (.bool nm) := (by rw [(bcell hbR1).1 _ _ hlt_s]; exact v0); have sR11 : wR1.cell? ⟨s, 1, none⟩ = some (.slice f k1 k2) := (by rw [(bcell hbR1).1 _ _ hlt_s]; exact v1); have sR12 : wR1.cell? ⟨s + 2, 0, none⟩ = some (.bool nb) := (by rw [(bcell hbR1).1 _ _ hlt_s2]; exact y0); have sR13 : wR1.cell? ⟨s + 2, 1, none⟩ = some (.slice b m d) := (by rw [(bcell hbR1).1 _ _ hlt_s2]; exact y1); (try ((first | (have HT1 := (Blk.new _ 74 #[.bool false, .slice none 0 0]).below hbc1 (by simp)) | (have HT1 := (Blk.new _ 74 #[.bool false, .slice none 0 0]).drew.below hbc1 (by simp))); have t10 : wR1.cell? ⟨_, 0, none⟩ = some (.bool false) := HT1.cell 0; have t11 : wR1.cell? ⟨_, 1, none⟩ = some (.slice none 0 0) := HT1.cell 1; have t1f := HT1.frozen))))
  all_goals go_wp2_with fail
  all_goals go_meet
  ·exact ⟨_, nR2, pR2, lR2, cR2, rfl, Blk.new _ _ _, hN2.below ((Below.refl _ _).alloc (Nat.le_refl _) _) (Nat.le_refl _), hbR2.alloc hbR2.size _, hbR2.size⟩
  all_goals exact ⟨_, nR2, pR2, lR2, cR2, rfl, ((HT2.set_ 0 _).set_ 1 _).to rfl, NumC.set2 hN2 t20 t21 _ _ _ _, (hbR2.setCell (by (try simp) <;> omega) _).setCell (by (try simp) <;> omega) _, by first | exact hbR2.size | exact hbR1.size | simp⟩
 case rest =>
  obtain ⟨t, n5, p5, l5, c5, rfl, hkt, hN5, hb5, htl⟩ := hcut
  rw [EMM.out, EMQ.out] at hN5
  have hts : t ≠ s + 1 := by have := HK1.out.lt; omega
  have htge : s ≤ t := by omega
  have HB5 := Lib.hid (HB7.out.trans (hb5.mono (by rw [← HSZ.out]; exact HB7.out.size)))
  have HX5 := Lib.hid (HX.out.below hb5 (Nat.le_refl _))
  have hkp := HK1.out.below hb5 HK1.out.lt
  have HN5 := Lib.hid hN5
  have HKT := Lib.hid hkt
  have HKP := Lib.hid hkp
  clear htl hb5 hN5 v0 v1 y0 y1 hlt_s hlt_s2 HK1 HB7 HX HY HM
  have a0 : wc.cell? ⟨t, 0, none⟩ = some (.bool n5) := hkt.cell 0
  have a1 : wc.cell? ⟨t, 1, none⟩ = some (.slice p5 l5 c5) := hkt.cell 1
  have x0 : wc.cell? ⟨s + 1, 0, none⟩ = some (.bool na) := hkp.cell 0
  have x1 : wc.cell? ⟨s + 1, 1, none⟩ = some (.slice a n c) := hkp.cell 1
  have hlt_t : t < wc.heap.size := hkt.lt
  have hlt_s1 : s + 1 < wc.heap.size := hkp.lt
  clear hkt hkp
  go_wp2_with fail
  have hbA : Below wc.heap.size wc wc.drew := (Below.refl _ _).drew
  refine wp_regionL (fun w' => w'.cell? ⟨t, 0, none⟩ = some (.bool n5) ∧ w'.cell? ⟨t, 1, none⟩ = some (.slice p5 l5 c5) ∧ w'.cell? ⟨s + 1, 0, none⟩ = some (.bool na) ∧ w'.cell? ⟨s + 1, 1, none⟩ = some (.slice a n c)) 5 (by kernel_rfl) (by exact ⟨a0, a1, x0, x1⟩) (fun hHeld => ?_)
  refine wpAnyL_take (i := 0) (oi := ⟨some 17, _, _, _, _, _⟩) (v := ?_) rfl (by kernel_rfl) (by kernel_rfl) (by kernel_rfl) (by kernel_rfl) (by kernel_rfl) (fun _ _ _ h => h) (Or.inl ⟨by rfl, ?_⟩) (by assumption) ?_
  rotate_left 1
  ·(intro w hSw; (try dsimp only at hSw); go_simp; try with_reducible rfl)
  try simp only [Act.put, List.setIfInBounds_toArray, List.set_cons_zero, List.set_cons_succ]
  refine wpAnyL_take (i := 1) (oi := ⟨some 18, _, _, _, _, _⟩) (v := ?_) rfl (by kernel_rfl) (by kernel_rfl) (by kernel_rfl) (by kernel_rfl) (by kernel_rfl) (fun _ _ _ h => h) (Or.inl ⟨by rfl, ?_⟩) (by assumption) ?_
  rotate_left 1
  ·(intro w hSw; (try dsimp only at hSw); go_simp; try with_reducible rfl)
  try simp only [Act.put, List.setIfInBounds_toArray, List.set_cons_zero, List.set_cons_succ]
  refine wpAnyL_take (i := 2) (oi := ⟨some 19, _, _, _, _, _⟩) (v := ?_) rfl (by kernel_rfl) (by kernel_rfl) (by kernel_rfl) (by kernel_rfl) (by kernel_rfl) (fun _ _ _ h => h) (Or.inl ⟨by rfl, ?_⟩) (by assumption) ?_
  rotate_left 1
  ·(intro w hSw; (try dsimp only at hSw); go_simp; try with_reducible rfl)
  try simp only [Act.put, List.setIfInBounds_toArray, List.set_cons_zero, List.set_cons_succ]
  refine wpAnyL_one (i := 3) (o := ⟨some 20, _, _, _, _, _⟩) (by kernel_rfl) rfl (fun K hK => ?_)
  go_simp
  rw [HG.out]
  refine (HTW.out _).mono ?_
  rintro e w2 ⟨n2, p2, l2, c2, rfl, hN2, hb2, -⟩
  have hB2 := hbA.trans (hb2.mono (by exact Nat.le_refl _))
  have w20 : w2.cell? ⟨t, 0, none⟩ = some (.bool n5) := by rw [(bcell hB2).1 _ _ hlt_t]; exact a0
  have w21 : w2.cell? ⟨t, 1, none⟩ = some (.slice p5 l5 c5) := by rw [(bcell hB2).1 _ _ hlt_t]; exact a1
  have w22 : w2.cell? ⟨s + 1, 0, none⟩ = some (.bool na) := by rw [(bcell hB2).1 _ _ hlt_s1]; exact x0
  have w23 : w2.cell? ⟨s + 1, 1, none⟩ = some (.slice a n c) := by rw [(bcell hB2).1 _ _ hlt_s1]; exact x1
  refine hK.out _ _ (by exact ⟨w20, w21, w22, w23⟩) ?_
  clear hK K hHeld
  intro hHeld
  try simp only [Act.put, List.setIfInBounds_toArray, List.set_cons_zero, List.set_cons_succ]
  refine wpAnyL_one (i := 4) (o := ⟨some 21, _, _, _, _, _⟩) (by kernel_rfl) rfl (fun K hK => ?_)
  go_simp
  refine (mul_any _ _ _ _ _ _ _ _ ((M * M * Q : Nat) : Int) (2 ^ (2 * g)) _ (HN5.out.below hB2 (Nat.le_refl _)) hN2 FMQ.out FG.out).mono ?_
  rintro e w3 ⟨n3, p3, l3, c3, rfl, hN3, hb3, -⟩
  rw [EX2.out] at hN3
  have hB3 := hB2.trans (hb3.mono hB2.size)
  have hBT := HKT.out.below hB3 hlt_t
  have hBP := HKP.out.below hB3 hlt_s1
  have xf : ∀ o, w3.frozen? ⟨t, o, none⟩ = false := fun o => hBT.frozen o
  have w30 : w3.cell? ⟨t, 0, none⟩ = some (.bool n5) := by rw [(bcell hB3).1 _ _ hlt_t]; exact a0
  have w31 : w3.cell? ⟨t, 1, none⟩ = some (.slice p5 l5 c5) := by rw [(bcell hB3).1 _ _ hlt_t]; exact a1
  have w32 : w3.cell? ⟨s + 1, 0, none⟩ = some (.bool na) := by rw [(bcell hB3).1 _ _ hlt_s1]; exact x0
  have w33 : w3.cell? ⟨s + 1, 1, none⟩ = some (.slice a n c) := by rw [(bcell hB3).1 _ _ hlt_s1]; exact x1
  refine hK.out _ _ (by exact ⟨w30, w31, w32, w33⟩) ?_
  clear hK K hHeld
  intro hHeld
  try simp only [Act.put, List.setIfInBounds_toArray, List.set_cons_zero, List.set_cons_succ]
  refine wpAnyL_last (o := ⟨none, _, _, _, _, _⟩) (by kernel_rfl) (by kernel_rfl) rfl (fun K hK => ?_)
  go_simp
  refine hK _ _ ?_
  clear hK K hHeld
  try simp only [Act.put, List.setIfInBounds_toArray, List.set_cons_zero, List.set_cons_succ]
  obtain ⟨w9, hw9⟩ : ∃ w9, (w3.setCell ⟨t, 0, none⟩ (.bool n3)).setCell ⟨t, 1, none⟩ (.slice p3 l3 c3) = w9 := ⟨_, rfl⟩
  rw [hw9]
  have HKT9 : Hid (Blk w9 t 74 #[.bool n3, .slice p3 l3 c3]) := Lib.hid (by rw [← hw9]; exact ((hBT.set_ 0 _).set_ 1 _).to rfl)
  have HKP9 : Hid (Blk w9 (s + 1) 74 #[.bool na, .slice a n c]) := Lib.hid (by rw [← hw9]; exact (hBP.far (by simpa using hts.symm) _).far (by simpa using hts.symm) _)
  have HA9 : Hid (NumC w9 n3 p3 l3 c3 ((M * M * Q * 2 ^ (2 * g) : Nat) : Int)) := Lib.hid (by rw [← hw9]; exact NumC.set2 hN3 w30 w31 _ _ _ _)
  have HP9 : Hid (NumC w9 na a n c (P : Int)) := Lib.hid (by rw [← hw9]; exact NumC.set2 (HX5.out.below hB3 (Nat.le_refl _)) w30 w31 _ _ _ _)
  have HB9 : Hid (Below s w w9) := Lib.hid (by rw [← hw9]; exact ((HB5.out.trans (hB3.mono (by rw [← HSZ.out]; exact HB5.out.size))).setCell (by first | exact htge | simp) _).setCell (by first | exact htge | simp) _)
  clear hw9 hbA hB2 hN2 hB3 hN3 hBT hBP xf w20 w21 w22 w23 w30 w31 w32 w33 x0 x1 a0 a1 hlt_t hlt_s1 hb2 hb3 HX5 HN5 HKT HKP HB5
  have a0 : w9.cell? ⟨t, 0, none⟩ = some (.bool n3) := HKT9.out.cell 0
  have a1 : w9.cell? ⟨t, 1, none⟩ = some (.slice p3 l3 c3) := HKT9.out.cell 1
  have x0 : w9.cell? ⟨s + 1, 0, none⟩ = some (.bool na) := HKP9.out.cell 0
  have x1 : w9.cell? ⟨s + 1, 1, none⟩ = some (.slice a n c) := HKP9.out.cell 1
  go_wp2_with fail
  refine (cmp_at _ _ _ _ _ _ _ _ _ _ r _ HR.out HA9.out HP9.out).mono ?_
  rintro e w10 ⟨rfl, hb10⟩
  have HB10 := Lib.hid (HB9.out.trans (hb10.mono (by rw [← HSZ.out]; exact HB9.out.size)))
  clear hb10
  go_wp2_with fail
  go_ret
  exact ⟨rfl, by rw [HSZ.out]; exact HB10.out⟩

set_option maxRecDepth 100000 in
set_option maxHeartbeats 8000000 in
theorem rfits0_lo (nm na nb : Bool) (f a b : Option Addr) (k1 k2 n c m d M P Q g : Nat) (u r : Int) (w : World) (hm : NumC w nm f k1 k2 (M : Int)) (hx : NumC w na a n c (P : Int)) (hy : NumC w nb b m d (Q : Int)) (fM : Fit (M : Int)) (fMM : Fit ((M * M : Nat) : Int)) (fMQ : Fit ((M * M * Q : Nat) : Int)) (fP : Fit (P : Int)) (fQ : Fit (Q : Int)) (hg : IntKind.i64.wrap (-2 * u) = ((2 * g : Nat) : Int)) (hu : decide (0 ≤ u) = false) (hg2 : g ≤ 10000)
  (hr : cmpZ ((M * M * Q : Nat) : Int) ((P * 2 ^ (2 * g) : Nat) : Int) = r) :
  Calls Tryz.prog 104 #[.agg #[.bool nm, .slice f k1 k2], .int .i64 u, .agg #[.bool na, .slice a n c], .agg #[.bool nb, .slice b m d]] w fun z w' => z = .returned (.bool ((r == 0))) ∧ Below w.heap.size w w' := by
 have HR := Lib.hid hr
 have HG := Lib.hid hg
 have FM := Lib.hid fM
 have FMM := Lib.hid fMM
 have FMQ := Lib.hid fMQ
 have FP := Lib.hid fP
 have FQ := Lib.hid fQ
 have FG := Lib.hid (fit_two (n := 2 * g) (by omega))
 have HTW := Lib.hid (fun w => two_any (2 * g) w (by omega))
 have EMM : Hid ((M : Int) * (M : Int) = ((M * M : Nat) : Int)) := Lib.hid (Int.natCast_mul _ _).symm
 have EMQ : Hid (((M * M : Nat) : Int) * (Q : Int) = ((M * M * Q : Nat) : Int)) := Lib.hid (Int.natCast_mul _ _).symm
 have EX2 : Hid (((P : Nat) : Int) * 2 ^ (2 * g) = ((P * 2 ^ (2 * g) : Nat) : Int)) := Lib.hid (nat_cast_pow _ _).symm
 obtain ⟨hk0, hk1, hk2, hbw⟩ := three_bx w 74 #[.bool nm, .slice f k1 k2] #[.bool na, .slice a n c] #[.bool nb, .slice b m d]
 have HB7 := Lib.hid hbw
 have HM := Lib.hid (hm.below hbw (Nat.le_refl _))
 have HX := Lib.hid (hx.below hbw (Nat.le_refl _))
 have HY := Lib.hid (hy.below hbw (Nat.le_refl _))
 clear hm hx hy hbw hr fM fMM fMQ fP fQ hg
 go_enter Tryz.func104, Tryz.ntmps104
 go_upto_region 1 with fail
 generalize (((w.alloc (.cells #[.bool nm, .slice f k1 k2] 74)).alloc (.cells #[.bool na, .slice a n c] 74)).alloc (.cells #[.bool nb, .slice b m d] 74)) = wb at *
 generalize hsz0 : w.heap.size = s at *
 have HSZ := Lib.hid hsz0
 have v0 : wb.cell? ⟨s, 0, none⟩ = some (.bool nm) := hk0.cell 0
 have v1 : wb.cell? ⟨s, 1, none⟩ = some (.slice f k1 k2) := hk0.cell 1
 have y0 : wb.cell? ⟨s + 2, 0, none⟩ = some (.bool nb) := hk2.cell 0
 have y1 : wb.cell? ⟨s + 2, 1, none⟩ = some (.slice b m d) := hk2.cell 1
 have hlt_s : s < wb.heap.size := hk0.lt
 have hlt_s2 : s + 2 < wb.heap.size := hk2.lt
 have HK1 := Lib.hid hk1
 clear hk0 hk1 hk2 hsz0
 have hbA : Below wb.heap.size wb wb.drew := (Below.refl _ _).drew
 go_upto_region 1 with fail
 go_cut [9] (fun sB wx => ∃ (t : Nat) (nB : Bool) (pB : Option Addr) (lB cB : Nat), sB = .pointer (some ⟨t, 0, none⟩) ∧ Blk wx t 74 #[.bool nB, .slice pB lB cB] ∧ NumC wx nB pB lB cB ((M : Int) * (M : Int) * (Q : Int)) ∧ Below wb.heap.size wb wx ∧ wb.heap.size ≤ t)
 case first =>
  go_region_held3 (fun w' => w'.cell? ⟨s, 0, none⟩ = some (.bool nm) ∧ w'.cell? ⟨s, 1, none⟩ = some (.slice f k1 k2) ∧ w'.cell? ⟨s + 2, 0, none⟩ = some (.bool nb) ∧ w'.cell? ⟨s + 2, 1, none⟩ = some (.slice b m d)) (first | (exact ⟨v0, v1, y0, y1⟩) | go_keep | (exact ⟨sR10, sR11, sR12, sR13⟩) | (exact ⟨sR20, sR21, sR22, sR23⟩) | (refine ⟨?_, ?_, ?_, ?_⟩ <;> (rw [World.cell?_alloc_lt _ _ _ (by (try simp) <;> omega)]; assumption)) | (refine ⟨?_, ?_, ?_, ?_⟩ <;> (rw [World.cell?_setCell_other _ _ _ _ (by (try simp) <;> omega), World.cell?_setCell_other _ _ _ _ (by (try simp) <;> omega)]; assumption)))
   (first
    | (go_at_call 61; (with_reducible refine (mul_any nR1 nb pR1 b lR1 cR1 m d ((M : Int) * (M : Int)) (Q : Int) _ (by first | exact hN1 | exact hN1.below ((Below.refl _ _).alloc (Nat.le_refl _) _) (Nat.le_refl _)) (by first | exact HY.out.below hbR1 (Nat.le_refl _) | exact HY.out.below (hbR1.alloc hbR1.size _) (Nat.le_refl _)) (by rw [EMM.out]; exact FMM.out) FQ.out).mono ?_); rintro e wR2 ⟨nR2, pR2, lR2, cR2, rfl, hN2, hbc2, -⟩; have hbR2 : Below wb.heap.size wb wR2 := (by first | exact hbR1.trans (hbc2.mono hbR1.size) | exact (hbR1.alloc hbR1.size _).trans (hbc2.mono (Nat.le_trans hbR1.size (by simp)))); have hsR2 := hbR2.size; have sR20 : wR2.cell? ⟨s, 0, none⟩ = some (.bool nm) := (by rw [(bcell hbR2).1 _ _ hlt_s]; exact v0); have sR21 : wR2.cell? ⟨s, 1, none⟩ = some (.slice f k1 k2) := (by rw [(bcell hbR2).1 _ _ hlt_s]; exact v1); have sR22 : wR2.cell? ⟨s + 2, 0, none⟩ = some (.bool nb) := (by rw [(bcell hbR2).1 _ _ hlt_s2]; exact y0); have sR23 : wR2.cell? ⟨s + 2, 1, none⟩ = some (.slice b m d) := (by rw [(bcell hbR2).1 _ _ hlt_s2]; exact y1); (try ((first | (have HT2 := HT1.below hbc2 HT1.lt) | (have HT2 := (Blk.new _ 74 #[.bool false, .slice none 0 0]).below hbc2 (by simp)) | (have HT2 := (Blk.new _ 74 #[.bool false, .slice none 0 0]).drew.below hbc2 (by simp))); have t20 : wR2.cell? ⟨_, 0, none⟩ = some (.bool false) := HT2.cell 0; have t21 : wR2.cell? ⟨_, 1, none⟩ = some (.slice none 0 0) := HT2.cell 1; have t2f := HT2.frozen)))
    | (go_at_call 61; (with_reducible refine (mul_any nm nm f f k1 k2 k1 k2 (M : Int) (M : Int) _ (by first | exact HM.out.below hbA (Nat.le_refl _) | exact HM.out.below (hbA.alloc hbA.size _) (Nat.le_refl _)) (by first | exact HM.out.below hbA (Nat.le_refl _) | exact HM.out.below (hbA.alloc hbA.size _) (Nat.le_refl _)) FM.out FM.out).mono ?_); rintro e wR1 ⟨nR1, pR1, lR1, cR1, rfl, hN1, hbc1, -⟩; have hbR1 : Below wb.heap.size wb wR1 := (by first | exact hbA.trans (hbc1.mono hbA.size) | exact (hbA.alloc hbA.size _).trans (hbc1.mono (Nat.le_trans hbA.size (by simp)))); have hsR1 := hbR1.size; have sR10 : wR1.cell? ⟨s, 0, none⟩ = some (.bool nm) := (by rw [(bcell hbR1).1 _ _ hlt_s]; exact v0); have sR11 : wR1.cell? ⟨s, 1, none⟩ = some (.slice f k1 k2) := (by rw [(bcell hbR1).1 _ _ hlt_s]; exact v1); have sR12 : wR1.cell? ⟨s + 2, 0, none⟩ = some (.bool nb) := (by rw [(bcell hbR1).1 _ _ hlt_s2]; exact y0); have sR13 : wR1.cell? ⟨s + 2, 1, none⟩ = some (.slice b m d) := (by rw [(bcell hbR1).1 _ _ hlt_s2]; exact y1); (try ((first | (have HT1 := (Blk.new _ 74 #[.bool false, .slice none 0 0]).below hbc1 (by simp)) | (have HT1 := (Blk.new _ 74 #[.bool false, .slice none 0 0]).drew.below hbc1 (by simp))); have t10 : wR1.cell? ⟨_, 0, none⟩ = some (.bool false) := HT1.cell 0; have t11 : wR1.cell? ⟨_, 1, none⟩ = some (.slice none 0 0) := HT1.cell 1; have t1f := HT1.frozen))))
  all_goals go_wp2_with fail
  all_goals go_meet
  ·exact ⟨_, nR2, pR2, lR2, cR2, rfl, Blk.new _ _ _, hN2.below ((Below.refl _ _).alloc (Nat.le_refl _) _) (Nat.le_refl _), hbR2.alloc hbR2.size _, hbR2.size⟩
  all_goals exact ⟨_, nR2, pR2, lR2, cR2, rfl, ((HT2.set_ 0 _).set_ 1 _).to rfl, NumC.set2 hN2 t20 t21 _ _ _ _, (hbR2.setCell (by (try simp) <;> omega) _).setCell (by (try simp) <;> omega) _, by first | exact hbR2.size | exact hbR1.size | simp⟩
 case rest =>
  obtain ⟨t, n5, p5, l5, c5, rfl, hkt, hN5, hb5, htl⟩ := hcut
  rw [EMM.out, EMQ.out] at hN5
  have hts : t ≠ s + 1 := by have := HK1.out.lt; omega
  have htge : s ≤ t := by omega
  have HB5 := Lib.hid (HB7.out.trans (hb5.mono (by rw [← HSZ.out]; exact HB7.out.size)))
  have HX5 := Lib.hid (HX.out.below hb5 (Nat.le_refl _))
  have hkp := HK1.out.below hb5 HK1.out.lt
  have HN5 := Lib.hid hN5
  have HKT := Lib.hid hkt
  have HKP := Lib.hid hkp
  clear htl hb5 hN5 v0 v1 y0 y1 hlt_s hlt_s2 HK1 HB7 HX HY HM
  have a0 : wc.cell? ⟨t, 0, none⟩ = some (.bool n5) := hkt.cell 0
  have a1 : wc.cell? ⟨t, 1, none⟩ = some (.slice p5 l5 c5) := hkt.cell 1
  have x0 : wc.cell? ⟨s + 1, 0, none⟩ = some (.bool na) := hkp.cell 0
  have x1 : wc.cell? ⟨s + 1, 1, none⟩ = some (.slice a n c) := hkp.cell 1
  have hlt_t : t < wc.heap.size := hkt.lt
  have hlt_s1 : s + 1 < wc.heap.size := hkp.lt
  clear hkt hkp
  go_wp2_with fail
  have hbA : Below wc.heap.size wc wc.drew := (Below.refl _ _).drew
  refine wp_regionL (fun w' => w'.cell? ⟨t, 0, none⟩ = some (.bool n5) ∧ w'.cell? ⟨t, 1, none⟩ = some (.slice p5 l5 c5) ∧ w'.cell? ⟨s + 1, 0, none⟩ = some (.bool na) ∧ w'.cell? ⟨s + 1, 1, none⟩ = some (.slice a n c)) 5 (by kernel_rfl) (by exact ⟨a0, a1, x0, x1⟩) (fun hHeld => ?_)
  refine wpAnyL_take (i := 0) (oi := ⟨some 22, _, _, _, _, _⟩) (v := ?_) rfl (by kernel_rfl) (by kernel_rfl) (by kernel_rfl) (by kernel_rfl) (by kernel_rfl) (fun _ _ _ h => h) (Or.inl ⟨by rfl, ?_⟩) (by assumption) ?_
  rotate_left 1
  ·(intro w hSw; (try dsimp only at hSw); go_simp; try with_reducible rfl)
  try simp only [Act.put, List.setIfInBounds_toArray, List.set_cons_zero, List.set_cons_succ]
  refine wpAnyL_take (i := 1) (oi := ⟨some 23, _, _, _, _, _⟩) (v := ?_) rfl (by kernel_rfl) (by kernel_rfl) (by kernel_rfl) (by kernel_rfl) (by kernel_rfl) (fun _ _ _ h => h) (Or.inl ⟨by rfl, ?_⟩) (by assumption) ?_
  rotate_left 1
  ·(intro w hSw; (try dsimp only at hSw); go_simp; try with_reducible rfl)
  try simp only [Act.put, List.setIfInBounds_toArray, List.set_cons_zero, List.set_cons_succ]
  refine wpAnyL_take (i := 2) (oi := ⟨some 24, _, _, _, _, _⟩) (v := ?_) rfl (by kernel_rfl) (by kernel_rfl) (by kernel_rfl) (by kernel_rfl) (by kernel_rfl) (fun _ _ _ h => h) (Or.inl ⟨by rfl, ?_⟩) (by assumption) ?_
  rotate_left 1
  ·(intro w hSw; (try dsimp only at hSw); go_simp; try with_reducible rfl)
  try simp only [Act.put, List.setIfInBounds_toArray, List.set_cons_zero, List.set_cons_succ]
  refine wpAnyL_one (i := 3) (o := ⟨some 25, _, _, _, _, _⟩) (by kernel_rfl) rfl (fun K hK => ?_)
  go_simp
  rw [HG.out]
  refine (HTW.out _).mono ?_
  rintro e w2 ⟨n2, p2, l2, c2, rfl, hN2, hb2, -⟩
  have hB2 := hbA.trans (hb2.mono (by exact Nat.le_refl _))
  have w20 : w2.cell? ⟨t, 0, none⟩ = some (.bool n5) := by rw [(bcell hB2).1 _ _ hlt_t]; exact a0
  have w21 : w2.cell? ⟨t, 1, none⟩ = some (.slice p5 l5 c5) := by rw [(bcell hB2).1 _ _ hlt_t]; exact a1
  have w22 : w2.cell? ⟨s + 1, 0, none⟩ = some (.bool na) := by rw [(bcell hB2).1 _ _ hlt_s1]; exact x0
  have w23 : w2.cell? ⟨s + 1, 1, none⟩ = some (.slice a n c) := by rw [(bcell hB2).1 _ _ hlt_s1]; exact x1
  refine hK.out _ _ (by exact ⟨w20, w21, w22, w23⟩) ?_
  clear hK K hHeld
  intro hHeld
  try simp only [Act.put, List.setIfInBounds_toArray, List.set_cons_zero, List.set_cons_succ]
  refine wpAnyL_one (i := 4) (o := ⟨some 26, _, _, _, _, _⟩) (by kernel_rfl) rfl (fun K hK => ?_)
  go_simp
  refine (mul_any _ _ _ _ _ _ _ _ (P : Int) (2 ^ (2 * g)) _ (HX5.out.below hB2 (Nat.le_refl _)) hN2 FP.out FG.out).mono ?_
  rintro e w3 ⟨n3, p3, l3, c3, rfl, hN3, hb3, -⟩
  rw [EX2.out] at hN3
  have hB3 := hB2.trans (hb3.mono hB2.size)
  have hBT := HKT.out.below hB3 hlt_t
  have hBP := HKP.out.below hB3 hlt_s1
  have xf : ∀ o, w3.frozen? ⟨s + 1, o, none⟩ = false := fun o => hBP.frozen o
  have w30 : w3.cell? ⟨t, 0, none⟩ = some (.bool n5) := by rw [(bcell hB3).1 _ _ hlt_t]; exact a0
  have w31 : w3.cell? ⟨t, 1, none⟩ = some (.slice p5 l5 c5) := by rw [(bcell hB3).1 _ _ hlt_t]; exact a1
  have w32 : w3.cell? ⟨s + 1, 0, none⟩ = some (.bool na) := by rw [(bcell hB3).1 _ _ hlt_s1]; exact x0
  have w33 : w3.cell? ⟨s + 1, 1, none⟩ = some (.slice a n c) := by rw [(bcell hB3).1 _ _ hlt_s1]; exact x1
  refine hK.out _ _ (by exact ⟨w30, w31, w32, w33⟩) ?_
  clear hK K hHeld
  intro hHeld
  try simp only [Act.put, List.setIfInBounds_toArray, List.set_cons_zero, List.set_cons_succ]
  refine wpAnyL_last (o := ⟨none, _, _, _, _, _⟩) (by kernel_rfl) (by kernel_rfl) rfl (fun K hK => ?_)
  go_simp
  refine hK _ _ ?_
  clear hK K hHeld
  try simp only [Act.put, List.setIfInBounds_toArray, List.set_cons_zero, List.set_cons_succ]
  obtain ⟨w9, hw9⟩ : ∃ w9, (w3.setCell ⟨s + 1, 0, none⟩ (.bool n3)).setCell ⟨s + 1, 1, none⟩ (.slice p3 l3 c3) = w9 := ⟨_, rfl⟩
  rw [hw9]
  have HKT9 : Hid (Blk w9 t 74 #[.bool n5, .slice p5 l5 c5]) := Lib.hid (by rw [← hw9]; exact (hBT.far (by simpa using hts) _).far (by simpa using hts) _)
  have HKP9 : Hid (Blk w9 (s + 1) 74 #[.bool n3, .slice p3 l3 c3]) := Lib.hid (by rw [← hw9]; exact ((hBP.set_ 0 _).set_ 1 _).to rfl)
  have HA9 : Hid (NumC w9 n5 p5 l5 c5 ((M * M * Q : Nat) : Int)) := Lib.hid (by rw [← hw9]; exact NumC.set2 (HN5.out.below hB3 (Nat.le_refl _)) w32 w33 _ _ _ _)
  have HP9 : Hid (NumC w9 n3 p3 l3 c3 ((P * 2 ^ (2 * g) : Nat) : Int)) := Lib.hid (by rw [← hw9]; exact NumC.set2 hN3 w32 w33 _ _ _ _)
  have HB9 : Hid (Below s w w9) := Lib.hid (by rw [← hw9]; exact ((HB5.out.trans (hB3.mono (by rw [← HSZ.out]; exact HB5.out.size))).setCell (by first | exact htge | simp) _).setCell (by first | exact htge | simp) _)
  clear hw9 hbA hB2 hN2 hB3 hN3 hBT hBP xf w20 w21 w22 w23 w30 w31 w32 w33 x0 x1 a0 a1 hlt_t hlt_s1 hb2 hb3 HX5 HN5 HKT HKP HB5
  have a0 : w9.cell? ⟨t, 0, none⟩ = some (.bool n5) := HKT9.out.cell 0
  have a1 : w9.cell? ⟨t, 1, none⟩ = some (.slice p5 l5 c5) := HKT9.out.cell 1
  have x0 : w9.cell? ⟨s + 1, 0, none⟩ = some (.bool n3) := HKP9.out.cell 0
  have x1 : w9.cell? ⟨s + 1, 1, none⟩ = some (.slice p3 l3 c3) := HKP9.out.cell 1
  go_wp2_with fail
  refine (cmp_at _ _ _ _ _ _ _ _ _ _ r _ HR.out HA9.out HP9.out).mono ?_
  rintro e w10 ⟨rfl, hb10⟩
  have HB10 := Lib.hid (HB9.out.trans (hb10.mono (by rw [← HSZ.out]; exact HB9.out.size)))
  clear hb10
  go_wp2_with fail
  go_ret
  exact ⟨rfl, by rw [HSZ.out]; exact HB10.out⟩

end Go.Proofs.YtdbkgpakpadloaaGreat
