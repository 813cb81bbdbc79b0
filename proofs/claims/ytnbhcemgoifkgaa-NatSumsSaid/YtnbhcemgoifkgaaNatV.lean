/- The walk of the law NatSums. No conditions. -/
import Derived.Test.YtnbhcemgoifkgaaNatU
namespace Go.Proofs.Ytnbhcemgoifkgaa
open Go.RowKit

set_option maxHeartbeats 4000000 in
theorem walk_natsums (a : Option Addr) (n c : Nat) (xs : List Int) (b : Option Addr) (m d : Nat) (ys : List Int) (w : World) (hA : IsRow .u32 w a n c xs) (hB : IsRow .u32 w b m d ys) :
    Calls Try.prog 9 #[.slice a n c, .slice b m d] w fun e w' => e = .returned (.bool true) ∧ Below w.heap.size w w' := by
  have ha := hA.row
  have hb := hB.row
  have hx := hA.dig
  have hy := hB.dig
  clear hA hB
  generalize xs.take n = xs at *
  generalize ys.take m = ys at *
  have hn : n ≤ 9223372036854775807 := by have := ha.2.1; have := ha.2.2.1; unfold maxLen at this; omega
  have hm : m ≤ 9223372036854775807 := by have := hb.2.1; have := hb.2.2.1; unfold maxLen at this; omega
  have HL := Lib.hid (light_any a b n c m d w hn hm)
  have HA := Lib.hid ha
  have HB := Lib.hid hb
  have HX := Lib.hid hx
  have HY := Lib.hid hy
  by_cases hl : n ≤ 40 ∧ m ≤ 40
  · rw [show decide (n ≤ 40 ∧ m ≤ 40) = true from by simpa using hl] at HL
    obtain ⟨hn4, hm4⟩ := hl
    have VX := V_bd (B := 4294967296) (by decide) hx
    have VY := V_bd (B := 4294967296) (by decide) hy
    rw [ha.1] at VX
    rw [hb.1] at VY
    have X1 := Int.lt_of_lt_of_le VX.2 (ipow_le (by decide) hn4)
    have Y1 := Int.lt_of_lt_of_le VY.2 (ipow_le (by decide) hm4)
    have FX := Lib.hid (fit_b32 (natAbs_lt VX.1 X1) (by decide))
    have FY := Lib.hid (fit_b32 (natAbs_lt VY.1 Y1) (by decide))
    have HS1 : Hid (V 4294967296 xs + V 4294967296 ys < 4294967296 ^ 41) := Lib.hid (by
      have e : (4294967296 : Int) ^ 41 = 4294967296 * 4294967296 ^ 40 := by decide
      have p : (0 : Int) < 4294967296 ^ 40 := Int.pow_pos (by decide)
      rw [e]
      generalize (4294967296 : Int) ^ 40 = P at *
      omega)
    have HM1 : Hid (V 4294967296 xs * V 4294967296 ys < 4294967296 ^ 80) := Lib.hid (by
      rw [show (80 : Nat) = 40 + 40 from rfl, Int.pow_add]
      exact Int.lt_of_le_of_lt (Int.mul_le_mul_of_nonneg_left (Int.le_of_lt Y1) VX.1) (Int.mul_lt_mul_of_pos_right X1 (Int.pow_pos (by decide))))
    have HD1 : Hid (V 4294967296 ys ≤ V 4294967296 xs → V 4294967296 xs - V 4294967296 ys < 4294967296 ^ 40) := Lib.hid (fun _ => by omega)
    have Hnadd := Lib.hid (fun (w1 : World) (hw : Below w.heap.size w w1) => nadd_any a b n c m d xs ys w1 (ha.below hw (Nat.le_refl _)) (hb.below hw (Nat.le_refl _)) hx hy (by omega) (by omega))
    have Hnmul := Lib.hid (fun (w1 : World) (hw : Below w.heap.size w w1) => nmul_any a b n c m d xs ys w1 (ha.below hw (Nat.le_refl _)) (hb.below hw (Nat.le_refl _)) hx hy (by omega) (by omega))
    have Hno := Lib.hid (fun (w1 : World) (hw : Below w.heap.size w w1) => nsub_no a b n c m d xs ys w1 (ha.below hw (Nat.le_refl _)) (hb.below hw (Nat.le_refl _)) hx hy)
    have Hyes := Lib.hid (fun (w1 : World) (hw : Below w.heap.size w w1) => nsub_any a b n c m d xs ys w1 (ha.below hw (Nat.le_refl _)) (hb.below hw (Nat.le_refl _)) hx hy (by omega) (by omega))
    clear ha hb hx hy VX VY X1 Y1
    go_enter Try.func9, Try.ntmps9
    go_wp2_with fail
    refine HL.out.mono ?_; rintro e w1 ⟨rfl, rfl⟩
    go_wp2_with fail
    refine (rnum_any a n c xs w HA.out HX.out (by omega)).mono ?_; rintro e w1 ⟨np, pp, lp, cp, rfl, hP, hb1, -⟩
    have HB1 := Lib.hid hb1
    have HP1 := Lib.hid hP
    clear hP hb1
    go_wp2_with fail
    refine (rnum_any b m d ys w1 (HB.out.below HB1.out (Nat.le_refl _)) HY.out (by omega)).mono ?_; rintro e w2 ⟨nq, pq, lq, cq, rfl, hQ, hb2, -⟩
    have HB2 := Lib.hid (HB1.out.trans (hb2.mono HB1.out.size))
    have HP2 := Lib.hid (HP1.out.below hb2 (Nat.le_refl _))
    have HQ2 := Lib.hid hQ
    clear hQ hb2 HB1 HP1
    go_wp2_with fail
    obtain ⟨hk0, hk1, hbw, hsz⟩ := two_boxes w2 27 #[.bool np, .slice pp lp cp] #[.bool nq, .slice pq lq cq]
    have HB3 := Lib.hid (HB2.out.trans (hbw.mono HB2.out.size))
    have HP3 := Lib.hid (HP2.out.below hbw (Nat.le_refl _))
    have HQ3 := Lib.hid (HQ2.out.below hbw (Nat.le_refl _))
    have HK0 := Lib.hid hk0
    have HK1 := Lib.hid hk1
    clear hk0 hk1 hbw hsz HP2 HQ2 HB2 HA HB HX HY
    generalize (w2.alloc (.cells #[.bool np, .slice pp lp cp] 27)).alloc (.cells #[.bool nq, .slice pq lq cq] 27) = w3 at *
    generalize w2.heap.size = s at *
    clear w1 w2
    generalize V 4294967296 xs = X at *
    generalize V 4294967296 ys = Y at *
    have hcm : (X < Y ∧ cmpZ X Y = -1) ∨ ∃ r, Y ≤ X ∧ cmpZ X Y = r ∧ 0 ≤ r := by
      rcases Int.lt_trichotomy X Y with h | h | h
      · exact .inl ⟨h, cmpZ_lt h⟩
      · exact .inr ⟨0, by omega, cmpZ_eq h, by omega⟩
      · exact .inr ⟨1, by omega, cmpZ_gt h, by omega⟩
    rcases hcm with ⟨hlt, hcz⟩ | ⟨r, hge, hcz, hr⟩
    have HC := Lib.hid hcz
    have HN := Lib.hid (Hno.out w3 HB3.out hlt)
    clear hcz hlt
    go_wp2_with fail
    refine HN.out.mono ?_; rintro e w4 ⟨rfl, hb4⟩
    have HB4 := Lib.hid (HB3.out.trans (hb4.mono HB3.out.size))
    have HP4 := Lib.hid (HP3.out.below hb4 (Nat.le_refl _))
    have HQ4 := Lib.hid (HQ3.out.below hb4 (Nat.le_refl _))
    have hk0 := HK0.out.below hb4 HK0.out.lt
    have hk1 := HK1.out.below hb4 HK1.out.lt
    have x0 : w4.cell? ⟨s, 0, none⟩ = some (.bool np) := hk0.cell 0
    have x1 : w4.cell? ⟨s, 1, none⟩ = some (.slice pp lp cp) := hk0.cell 1
    have y0 : w4.cell? ⟨s + 1, 0, none⟩ = some (.bool nq) := hk1.cell 0
    have y1 : w4.cell? ⟨s + 1, 1, none⟩ = some (.slice pq lq cq) := hk1.cell 1
    have HKa := Lib.hid hk0
    have HKb := Lib.hid hk1
    clear hk0 hk1 hb4
    go_wp2_with fail
    refine (cmp_at _ _ _ _ _ _ _ _ X Y (-1) w4 HC.out HP4.out HQ4.out).mono ?_; rintro e w7 ⟨rfl, hb5⟩
    have HB7 := Lib.hid (HB4.out.trans (hb5.mono HB4.out.size))
    have HP7 := Lib.hid (HP4.out.below hb5 (Nat.le_refl _))
    have HQ7 := Lib.hid (HQ4.out.below hb5 (Nat.le_refl _))
    have hk0 := HKa.out.below hb5 HKa.out.lt
    have hk1 := HKb.out.below hb5 HKb.out.lt
    clear HKa HKb x0 x1 y0 y1 HB4 HP4 HQ4 HB3 HP3 HQ3 HK0 HK1 hb5 HC HN Hno Hyes HD1
    rotate_left
    have HC := Lib.hid hcz
    have HN := Lib.hid (Hyes.out w3 HB3.out hge)
    have HDD := Lib.hid (HD1.out hge)
    clear hcz hge
    go_wp2_with fail
    refine HN.out.mono ?_; rintro e w4 ⟨a1, n1, c1, rfl, hN1, hb4, -⟩
    have HN1 := Lib.hid hN1
    have hn1 : n1 ≤ 1000 := Nat.le_trans (hN1.len HDD.out) (by decide)
    have HB4 := Lib.hid (HB3.out.trans (hb4.mono HB3.out.size))
    have HP4 := Lib.hid (HP3.out.below hb4 (Nat.le_refl _))
    have HQ4 := Lib.hid (HQ3.out.below hb4 (Nat.le_refl _))
    have hk0 := HK0.out.below hb4 HK0.out.lt
    have hk1 := HK1.out.below hb4 HK1.out.lt
    have x0 : w4.cell? ⟨s, 0, none⟩ = some (.bool np) := hk0.cell 0
    have x1 : w4.cell? ⟨s, 1, none⟩ = some (.slice pp lp cp) := hk0.cell 1
    have y0 : w4.cell? ⟨s + 1, 0, none⟩ = some (.bool nq) := hk1.cell 0
    have y1 : w4.cell? ⟨s + 1, 1, none⟩ = some (.slice pq lq cq) := hk1.cell 1
    have HKa := Lib.hid hk0
    have HKb := Lib.hid hk1
    clear hk0 hk1 hb4 hN1
    go_wp2_with fail
    refine (cmp_at _ _ _ _ _ _ _ _ X Y r w4 HC.out HP4.out HQ4.out).mono ?_; rintro e w5 ⟨rfl, hb5⟩
    have HB5 := Lib.hid (HB4.out.trans (hb5.mono HB4.out.size))
    have HP5 := Lib.hid (HP4.out.below hb5 (Nat.le_refl _))
    have HQ5 := Lib.hid (HQ4.out.below hb5 (Nat.le_refl _))
    have HN5 := Lib.hid (HN1.out.below hb5 (Nat.le_refl _))
    have hk0 := HKa.out.below hb5 HKa.out.lt
    have hk1 := HKb.out.below hb5 HKb.out.lt
    clear HKa HKb x0 x1 y0 y1
    have x0 : w5.cell? ⟨s, 0, none⟩ = some (.bool np) := hk0.cell 0
    have x1 : w5.cell? ⟨s, 1, none⟩ = some (.slice pp lp cp) := hk0.cell 1
    have y0 : w5.cell? ⟨s + 1, 0, none⟩ = some (.bool nq) := hk1.cell 0
    have y1 : w5.cell? ⟨s + 1, 1, none⟩ = some (.slice pq lq cq) := hk1.cell 1
    have HKa := Lib.hid hk0
    have HKb := Lib.hid hk1
    clear hk0 hk1 hb5
    go_wp2_with fail
    refine (sub_any _ _ _ _ _ _ _ _ X Y w5 HP5.out HQ5.out FX.out FY.out).mono ?_; rintro e w6 ⟨n5, p5, l5, c5, rfl, hS, hb6, -⟩
    have HB6 := Lib.hid (HB5.out.trans (hb6.mono HB5.out.size))
    have HP6 := Lib.hid (HP5.out.below hb6 (Nat.le_refl _))
    have HQ6 := Lib.hid (HQ5.out.below hb6 (Nat.le_refl _))
    have HN6 := Lib.hid (HN5.out.below hb6 (Nat.le_refl _))
    have HS6 := Lib.hid hS
    have HKc := Lib.hid (HKa.out.below hb6 HKa.out.lt)
    have HKd := Lib.hid (HKb.out.below hb6 HKb.out.lt)
    clear HKa HKb x0 x1 y0 y1 hb6 hS
    go_wp2_with fail
    refine (ris2_any _ _ _ _ _ _ _ _ w6 HN6.out HS6.out hn1).mono ?_; rintro e w7 ⟨rfl, hb7⟩
    have HB7 := Lib.hid (HB6.out.trans (hb7.mono HB6.out.size))
    have HP7 := Lib.hid (HP6.out.below hb7 (Nat.le_refl _))
    have HQ7 := Lib.hid (HQ6.out.below hb7 (Nat.le_refl _))
    have hk0 := HKc.out.below hb7 HKc.out.lt
    have hk1 := HKd.out.below hb7 HKd.out.lt
    clear HKc HKd HB4 HP4 HQ4 HB3 HP3 HQ3 HK0 HK1 HB5 HP5 HQ5 HB6 HP6 HQ6 hb7 HC HN Hno Hyes HD1 HN1 HN5 HN6 HDD HS6
    all_goals
      have x0 : w7.cell? ⟨s, 0, none⟩ = some (.bool np) := hk0.cell 0
      have x1 : w7.cell? ⟨s, 1, none⟩ = some (.slice pp lp cp) := hk0.cell 1
      have y0 : w7.cell? ⟨s + 1, 0, none⟩ = some (.bool nq) := hk1.cell 0
      have y1 : w7.cell? ⟨s + 1, 1, none⟩ = some (.slice pq lq cq) := hk1.cell 1
      have hs0 : s < w7.heap.size := hk0.lt
      have hs1 : s + 1 < w7.heap.size := hk1.lt
      clear hk0 hk1
      have hbA : Below w7.heap.size w7 w7.drew := (Below.refl _ _).drew
      go_wp2_with fail
      go_region_held3 (fun w' => w'.cell? ⟨s, 0, none⟩ = some (.bool np) ∧ w'.cell? ⟨s, 1, none⟩ = some (.slice pp lp cp) ∧ w'.cell? ⟨s + 1, 0, none⟩ = some (.bool nq) ∧ w'.cell? ⟨s + 1, 1, none⟩ = some (.slice pq lq cq)) (go_keep)
        (first
          | (go_at_call 23; refine (Hnadd.out _ (HB7.out.trans (hbA.mono HB7.out.size))).mono ?_; rintro e w8 ⟨a8, n8, c8, rfl, hN8, hb8, -⟩; have hn8 : n8 ≤ 1000 := Nat.le_trans (hN8.len HS1.out) (by decide); (try replace hM8 := NumC.below hM8 hb8 (Nat.le_refl _)); replace hbA := hbA.trans (hb8.mono (Nat.le_trans (by simp) hbA.size)); clear hb8; (try clear bc8 bf8); obtain ⟨bc8, bf8⟩ := bcell hbA)
          | (go_at_call 24; refine (Hnmul.out _ (HB7.out.trans (hbA.mono HB7.out.size))).mono ?_; rintro e w8 ⟨a8, n8, c8, rfl, hN8, hb8, -⟩; have hn8 : n8 ≤ 1000 := Nat.le_trans (hN8.len HM1.out) (by decide); (try replace hM8 := NumC.below hM8 hb8 (Nat.le_refl _)); replace hbA := hbA.trans (hb8.mono (Nat.le_trans (by simp) hbA.size)); clear hb8; (try clear bc8 bf8); obtain ⟨bc8, bf8⟩ := bcell hbA)
          | (go_at_call 26; refine (add_any _ _ _ _ _ _ _ _ X Y _ (HP7.out.below hbA (Nat.le_refl _)) (HQ7.out.below hbA (Nat.le_refl _)) FX.out FY.out).mono ?_; rintro e w8 ⟨m8, b8, l8, d8, rfl, hM8, hb8, -⟩; (try replace hN8 := NatC.below hN8 hb8 (Nat.le_refl _)); replace hbA := hbA.trans (hb8.mono (Nat.le_trans (by simp) hbA.size)); clear hb8; (try clear bc8 bf8); obtain ⟨bc8, bf8⟩ := bcell hbA)
          | (go_at_call 29; refine (mul_any _ _ _ _ _ _ _ _ X Y _ (HP7.out.below hbA (Nat.le_refl _)) (HQ7.out.below hbA (Nat.le_refl _)) FX.out FY.out).mono ?_; rintro e w8 ⟨m8, b8, l8, d8, rfl, hM8, hb8, -⟩; (try replace hN8 := NatC.below hN8 hb8 (Nat.le_refl _)); replace hbA := hbA.trans (hb8.mono (Nat.le_trans (by simp) hbA.size)); clear hb8; (try clear bc8 bf8); obtain ⟨bc8, bf8⟩ := bcell hbA)
          | (go_at_call 20; refine (ris2_any _ _ _ _ _ _ _ _ _ hN8 hM8 hn8).mono ?_; rintro e w9 ⟨rfl, hb9⟩; clear hN8 hM8 hn8 bc8 bf8; replace hbA := hbA.trans (hb9.mono (Nat.le_trans (by simp) hbA.size)); clear hb9; obtain ⟨bc8, bf8⟩ := bcell hbA)
          | (go_at_call 16; refine (awake_nat _).mono ?_; rintro e w9 ⟨rfl, hb9⟩; clear bc8 bf8; replace hbA := hbA.trans (hb9.mono (Nat.le_trans (by simp) hbA.size)); clear hb9; obtain ⟨bc8, bf8⟩ := bcell hbA))
      all_goals
        clear bc8 bf8
        have HBE := Lib.hid (HB7.out.trans (hbA.mono HB7.out.size))
        clear hbA
        go_wp2_with fail
        go_ret
        exact ⟨rfl, HBE.out⟩
  · rw [show decide (n ≤ 40 ∧ m ≤ 40) = false from by simpa using hl] at HL
    clear ha hb hx hy hl
    go_enter Try.func9, Try.ntmps9
    go_wp2_with fail
    refine HL.out.mono ?_; rintro e w1 ⟨rfl, rfl⟩
    go_wp2_with fail
    refine (awake_nat w).mono ?_; rintro e w1 ⟨rfl, hb1⟩
    have HB1 := Lib.hid hb1
    clear hb1
    go_wp2_with fail
    go_ret
    exact ⟨rfl, HB1.out⟩
end Go.Proofs.Ytnbhcemgoifkgaa
