/- The walk of the law NatRoots. No conditions. -/
import Derived.Test.YtnbhcemgoifkgaaNatU
import Derived.Deep.DeepCutAuto
namespace Go.Proofs.Ytnbhcemgoifkgaa
open Go.RowKit

theorem one_box (w : World) (t : TypeId) (c1 : Array Value) : Blk (w.alloc (.cells c1 t)) w.heap.size t c1 ∧ Below w.heap.size w (w.alloc (.cells c1 t)) :=
  ⟨Blk.new _ _ _, (Below.refl _ _).alloc (Nat.le_refl _) _⟩
theorem root_lt {r X : Int} {k : Nat} (h0 : 0 ≤ r) (h1 : r * r ≤ X) (h2 : X < 4294967296 ^ k) : r < 4294967296 ^ k := by
  have p : (0 : Int) < 4294967296 ^ k := Int.pow_pos (by decide)
  generalize (4294967296 : Int) ^ k = P at *
  rcases Int.lt_or_le r P with h | h
  · exact h
  · have := Int.mul_le_mul h h (by omega) h0
    have := Int.mul_le_mul_of_nonneg_right (show 1 ≤ P by omega) (show 0 ≤ P by omega)
    omega
theorem cmpZ_le {x y : Int} (h : x ≤ y) : cmpZ x y ≤ 0 := by
  unfold cmpZ; split
  · omega
  · split <;> omega

set_option maxHeartbeats 4000000 in
theorem walk_natroots (a : Option Addr) (n c : Nat) (xs : List Int) (w : World) (hA : IsRow .u32 w a n c xs) :
    Calls Try.prog 5 #[.slice a n c] w fun e w' => e = .returned (.bool true) ∧ Below w.heap.size w w' := by
  have ha := hA.row
  have hx := hA.dig
  clear hA
  generalize xs.take n = xs at *
  have hn : n ≤ 9223372036854775807 := by have := ha.2.1; have := ha.2.2.1; unfold maxLen at this; omega
  have HA := Lib.hid ha
  have HX := Lib.hid hx
  by_cases hl : n ≤ 20
  · have VX := V_bd (B := 4294967296) (by decide) hx
    rw [ha.1] at VX
    have X1 := Int.lt_of_lt_of_le VX.2 (ipow_le (by decide) hl)
    have HX1 := Lib.hid X1
    have FX := Lib.hid (fit_b32 (natAbs_lt VX.1 X1) (by decide))
    clear ha hx VX X1
    go_enter Try.func5, Try.ntmps5
    go_wp2_with fail
    refine (root_any a n c xs w HA.out HX.out (by omega)).mono ?_; rintro e w1 ⟨r, hr0, hr1, hr2, ar, nr, cr, rfl, hN, hb1, -⟩
    have hr3 := root_lt hr0 hr1 HX1.out
    have hnr : nr ≤ 20 := hN.len hr3
    obtain ⟨rs, hrr, hrd, hrv, -⟩ := hN.tl
    have HNum := rnum_any ar nr cr rs w1 hrr hrd (by omega)
    rw [hrv] at HNum
    have HNM := Lib.hid HNum
    have HB1 := Lib.hid hb1
    have HR1 := Lib.hid hN
    have HR3 := Lib.hid hr3
    have FR := Lib.hid (fit_b32 (natAbs_lt hr0 hr3) (by decide))
    have FR1 : Hid (Fit (r + 1)) := Lib.hid (fit_b32 (k := 21) (natAbs_lt (by omega) (by
      have e : (4294967296 : Int) ^ 21 = 4294967296 * 4294967296 ^ 20 := by decide
      have p : (0 : Int) < 4294967296 ^ 20 := Int.pow_pos (by decide)
      rw [e]
      generalize (4294967296 : Int) ^ 20 = P at *
      omega)) (by decide))
    have F1 : Hid (Fit 1) := Lib.hid (fit_b32 (k := 1) (by decide) (by decide))
    have c1 := cmpZ_le hr1
    have c2 := cmpZ_gt hr2
    have HC2 := Lib.hid c2
    obtain ⟨d1, hd1⟩ : ∃ d, cmpZ (r * r) (V 4294967296 xs) = d := ⟨_, rfl⟩
    rw [hd1] at c1
    have HC1 := Lib.hid hd1
    clear hN hb1 hr1 hr2 hr3 hrr hrd hrv HNum c2 hd1
    go_wp2_with fail
    refine HNM.out.mono ?_; rintro e w2 ⟨n3, p3, l3, c3, rfl, hX, hb2, -⟩
    have HB2 := Lib.hid (HB1.out.trans (hb2.mono HB1.out.size))
    have HR2 := Lib.hid (HR1.out.below hb2 (Nat.le_refl _))
    have HX2 := Lib.hid hX
    clear hX hb2
    go_upto_region 5 with fail
    obtain ⟨hk0, hbw⟩ := one_box w2 27 #[.bool n3, .slice p3 l3 c3]
    have HB3 := Lib.hid (HB2.out.trans (hbw.mono HB2.out.size))
    have HR4 := Lib.hid (HR2.out.below hbw (Nat.le_refl _))
    have HX4 := Lib.hid (HX2.out.below hbw (Nat.le_refl _))
    have HK0 := Lib.hid hk0
    clear hbw HB1 HB2 HR1 HR2 HX2 HNM
    generalize (w2.alloc (.cells #[.bool n3, .slice p3 l3 c3] 27)) = wb at *
    generalize w2.heap.size = s at *
    clear w1 w2
    have x0 : wb.cell? ⟨s, 0, none⟩ = some (.bool n3) := hk0.cell 0
    have x1 : wb.cell? ⟨s, 1, none⟩ = some (.slice p3 l3 c3) := hk0.cell 1
    have hlt_s : s < wb.heap.size := hk0.lt
    clear hk0
    have hbA : Below wb.heap.size wb wb.drew := (Below.refl _ _).drew
    go_upto_region 6 with fail
    go_cut [5] (fun sB wx => ∃ (t : Nat) (nB : Bool) (pB : Option Addr) (lB cB : Nat), sB = .pointer (some ⟨t, 0, none⟩) ∧ Blk wx t 27 #[.bool nB, .slice pB lB cB] ∧ NumC wx nB pB lB cB (r + 1) ∧ Below wb.heap.size wb wx)
    case first =>
      go_region_held3 (fun w' => w'.cell? ⟨s, 0, none⟩ = some (.bool n3) ∧ w'.cell? ⟨s, 1, none⟩ = some (.slice p3 l3 c3)) (first | (exact ⟨x0, x1⟩) | go_keep | (exact ⟨sR10, sR11⟩) | (exact ⟨sR20, sR21⟩) | (refine ⟨?_, ?_⟩ <;> (rw [World.cell?_alloc_lt _ _ _ (by (try simp) <;> omega)]; assumption)) | (refine ⟨?_, ?_⟩ <;> (rw [World.cell?_setCell_other _ _ _ _ (by (try simp) <;> omega), World.cell?_setCell_other _ _ _ _ (by (try simp) <;> omega)]; assumption)))
        (first
          | (go_at_call 27; refine (nat_any 1 _ (by omega) (by omega)).mono ?_; rintro e wR1 ⟨nR1, pR1, lR1, cR1, rfl, hN1, hbc1, -⟩; have hbR1 : Below wb.heap.size wb wR1 := (by first | exact hbA.trans (hbc1.mono hbA.size) | exact (hbA.alloc hbA.size _).trans (hbc1.mono (Nat.le_trans hbA.size (by simp)))); have hsR1 := hbR1.size; have sR10 : wR1.cell? ⟨s, 0, none⟩ = some (.bool n3) := (by rw [(bcell hbR1).1 _ _ hlt_s]; exact x0); have sR11 : wR1.cell? ⟨s, 1, none⟩ = some (.slice p3 l3 c3) := (by rw [(bcell hbR1).1 _ _ hlt_s]; exact x1); (try ((first | (have HT1 := (Blk.new _ 27 #[.bool false, .slice none 0 0]).below hbc1 (by simp)) | (have HT1 := (Blk.new _ 27 #[.bool false, .slice none 0 0]).drew.below hbc1 (by simp))); have t10 : wR1.cell? ⟨_, 0, none⟩ = some (.bool false) := HT1.cell 0; have t11 : wR1.cell? ⟨_, 1, none⟩ = some (.slice none 0 0) := HT1.cell 1; have t1f := HT1.frozen)))
          | (go_at_call 26; refine (add_any _ _ _ _ _ _ _ _ r 1 _ (by first | exact HX4.out.below hbR1 (Nat.le_refl _) | exact HX4.out.below (hbR1.alloc hbR1.size _) (Nat.le_refl _)) (by first | exact hN1 | exact hN1.below ((Below.refl _ _).alloc (Nat.le_refl _) _) (Nat.le_refl _)) FR.out F1.out).mono ?_; rintro e wR2 ⟨nR2, pR2, lR2, cR2, rfl, hN2, hbc2, -⟩; have hbR2 : Below wb.heap.size wb wR2 := (by first | exact hbR1.trans (hbc2.mono hbR1.size) | exact (hbR1.alloc hbR1.size _).trans (hbc2.mono (Nat.le_trans hbR1.size (by simp)))); have hsR2 := hbR2.size; have sR20 : wR2.cell? ⟨s, 0, none⟩ = some (.bool n3) := (by rw [(bcell hbR2).1 _ _ hlt_s]; exact x0); have sR21 : wR2.cell? ⟨s, 1, none⟩ = some (.slice p3 l3 c3) := (by rw [(bcell hbR2).1 _ _ hlt_s]; exact x1); (try ((first | (have HT2 := HT1.below hbc2 HT1.lt) | (have HT2 := (Blk.new _ 27 #[.bool false, .slice none 0 0]).below hbc2 (by simp)) | (have HT2 := (Blk.new _ 27 #[.bool false, .slice none 0 0]).drew.below hbc2 (by simp))); have t20 : wR2.cell? ⟨_, 0, none⟩ = some (.bool false) := HT2.cell 0; have t21 : wR2.cell? ⟨_, 1, none⟩ = some (.slice none 0 0) := HT2.cell 1; have t2f := HT2.frozen))))
      all_goals go_wp2_with fail
      all_goals go_meet
      · exact ⟨_, nR2, pR2, lR2, cR2, rfl, Blk.new _ _ _, hN2.below ((Below.refl _ _).alloc (Nat.le_refl _) _) (Nat.le_refl _), hbR2.alloc hbR2.size _⟩
      all_goals exact ⟨_, nR2, pR2, lR2, cR2, rfl, ((HT2.set_ 0 _).set_ 1 _).to rfl, NumC.set2 hN2 t20 t21 _ _ _ _, (hbR2.setCell (by (try simp) <;> omega) _).setCell (by (try simp) <;> omega) _⟩
    case rest =>
      obtain ⟨t, n5, p5, l5, c5, rfl, hk1, hN5, hb5⟩ := hcut
      have HB5 := Lib.hid (HB3.out.trans (hb5.mono HB3.out.size))
      have HR5 := Lib.hid (HR4.out.below hb5 (Nat.le_refl _))
      have HX5 := Lib.hid (HX4.out.below hb5 (Nat.le_refl _))
      have HY5 := Lib.hid hN5
      have HK05 := Lib.hid (HK0.out.below hb5 HK0.out.lt)
      have HK15 := Lib.hid hk1
      clear hk1 hN5 hb5 HB3 HR4 HX4 HK0 x0 x1 hlt_s
      go_wp2_with fail
      refine (rnum_any a n c xs _ (HA.out.below HB5.out (Nat.le_refl _)) HX.out (by omega)).mono ?_; rintro e w6 ⟨n6, p6, l6, c6, rfl, hP, hb6, -⟩
      have HB6 := Lib.hid (HB5.out.trans (hb6.mono HB5.out.size))
      have HR6 := Lib.hid (HR5.out.below hb6 (Nat.le_refl _))
      have HX6 := Lib.hid (HX5.out.below hb6 (Nat.le_refl _))
      have HY6 := Lib.hid (HY5.out.below hb6 (Nat.le_refl _))
      have HP6 := Lib.hid hP
      have HK06 := Lib.hid (HK05.out.below hb6 HK05.out.lt)
      have HK16 := Lib.hid (HK15.out.below hb6 HK15.out.lt)
      clear hP hb6 HB5 HR5 HX5 HY5 HK05 HK15
      go_upto_region 7 with fail
      obtain ⟨hk2, hbw⟩ := one_box w6 27 #[.bool n6, .slice p6 l6 c6]
      have HB7 := Lib.hid (HB6.out.trans (hbw.mono HB6.out.size))
      have HR7 := Lib.hid (HR6.out.below hbw (Nat.le_refl _))
      have HX7 := Lib.hid (HX6.out.below hbw (Nat.le_refl _))
      have HY7 := Lib.hid (HY6.out.below hbw (Nat.le_refl _))
      have HP7 := Lib.hid (HP6.out.below hbw (Nat.le_refl _))
      have hk0 := HK06.out.below hbw HK06.out.lt
      have hk1 := HK16.out.below hbw HK16.out.lt
      clear hbw HB6 HR6 HX6 HY6 HP6 HK06 HK16
      generalize (w6.alloc (.cells #[.bool n6, .slice p6 l6 c6] 27)) = w7 at *
      generalize w6.heap.size = v at *
      have x0 : w7.cell? ⟨s, 0, none⟩ = some (.bool n3) := hk0.cell 0
      have x1 : w7.cell? ⟨s, 1, none⟩ = some (.slice p3 l3 c3) := hk0.cell 1
      have y0 : w7.cell? ⟨t, 0, none⟩ = some (.bool n5) := hk1.cell 0
      have y1 : w7.cell? ⟨t, 1, none⟩ = some (.slice p5 l5 c5) := hk1.cell 1
      have z0 : w7.cell? ⟨v, 0, none⟩ = some (.bool n6) := hk2.cell 0
      have z1 : w7.cell? ⟨v, 1, none⟩ = some (.slice p6 l6 c6) := hk2.cell 1
      have hs0 : s < w7.heap.size := hk0.lt
      have hs1 : t < w7.heap.size := hk1.lt
      have hs2 : v < w7.heap.size := hk2.lt
      clear hk0 hk1 hk2
      generalize V 4294967296 xs = X at *
      have hbA : Below w7.heap.size w7 w7.drew := (Below.refl _ _).drew
      go_region_held3 (fun w' => w'.cell? ⟨s, 0, none⟩ = some (.bool n3) ∧ w'.cell? ⟨s, 1, none⟩ = some (.slice p3 l3 c3) ∧ w'.cell? ⟨t, 0, none⟩ = some (.bool n5) ∧ w'.cell? ⟨t, 1, none⟩ = some (.slice p5 l5 c5) ∧ w'.cell? ⟨v, 0, none⟩ = some (.bool n6) ∧ w'.cell? ⟨v, 1, none⟩ = some (.slice p6 l6 c6)) (go_keep)
        (first
          | (go_at_call 20; refine (ris2_any _ _ _ _ _ _ _ _ _ (HR7.out.below hbA (Nat.le_refl _)) (HX7.out.below hbA (Nat.le_refl _)) (by omega)).mono ?_; rintro e w9 ⟨rfl, hb9⟩; replace hbA := hbA.trans (hb9.mono (Nat.le_trans (by simp) hbA.size)); clear hb9; obtain ⟨bc8, bf8⟩ := bcell hbA)
          | (go_at_call 29; have tk := tok1; refine (mul_any _ _ _ _ _ _ _ _ (r + 1) (r + 1) _ (HY7.out.below hbA (Nat.le_refl _)) (HY7.out.below hbA (Nat.le_refl _)) FR1.out FR1.out).mono ?_; clear tk; rintro e w8 ⟨m8, b8, l8, d8, rfl, hM8, hb8, -⟩; replace hbA := hbA.trans (hb8.mono (Nat.le_trans (by simp) hbA.size)); clear hb8 bc8 bf8; obtain ⟨bc8, bf8⟩ := bcell hbA)
          | (go_at_call 29; refine (mul_any _ _ _ _ _ _ _ _ r r _ (HX7.out.below hbA (Nat.le_refl _)) (HX7.out.below hbA (Nat.le_refl _)) FR.out FR.out).mono ?_; rintro e w8 ⟨m8, b8, l8, d8, rfl, hM8, hb8, -⟩; replace hbA := hbA.trans (hb8.mono (Nat.le_trans (by simp) hbA.size)); clear hb8 bc8 bf8; obtain ⟨bc8, bf8⟩ := bcell hbA)
          | (go_at_call 28; have tk := tok1; refine (cmp_at _ _ _ _ _ _ _ _ _ X 1 _ HC2.out hM8 (HP7.out.below hbA (Nat.le_refl _))).mono ?_; rintro e w9 ⟨rfl, hb9⟩; clear hM8 bc8 bf8 tk; replace hbA := hbA.trans (hb9.mono (Nat.le_trans (by simp) hbA.size)); clear hb9; obtain ⟨bc8, bf8⟩ := bcell hbA)
          | (go_at_call 28; refine (cmp_at _ _ _ _ _ _ _ _ _ X d1 _ HC1.out hM8 (HP7.out.below hbA (Nat.le_refl _))).mono ?_; rintro e w9 ⟨rfl, hb9⟩; clear hM8 bc8 bf8; have tok1 : True := trivial; replace hbA := hbA.trans (hb9.mono (Nat.le_trans (by simp) hbA.size)); clear hb9; obtain ⟨bc8, bf8⟩ := bcell hbA)
          | (go_at_call 16; refine (awake_nat _).mono ?_; rintro e w9 ⟨rfl, hb9⟩; clear bc8 bf8; replace hbA := hbA.trans (hb9.mono (Nat.le_trans (by simp) hbA.size)); clear hb9; obtain ⟨bc8, bf8⟩ := bcell hbA))
      all_goals
        clear bc8 bf8
        have HBE := Lib.hid (HB7.out.trans (hbA.mono HB7.out.size))
        clear hbA
        go_wp2_with fail
        go_ret
        exact ⟨rfl, HBE.out⟩
  · clear ha hx
    go_enter Try.func5, Try.ntmps5
    go_wp2_with fail
    refine (awake_nat w).mono ?_; rintro e w1 ⟨rfl, hb1⟩
    have HB1 := Lib.hid hb1
    clear hb1
    go_wp2_with fail
    go_ret
    exact ⟨rfl, HB1.out⟩
end Go.Proofs.Ytnbhcemgoifkgaa
