/- The walk of the law NatBack. No conditions. -/
import Derived.Test.YtnbhcemgoifkgaaNatS
namespace Go.Proofs.Ytnbhcemgoifkgaa
open Go.RowKit

theorem light_any (a b : Option Addr) (n c m d : Nat) (w : World) (hn : n ≤ 9223372036854775807) (hm : m ≤ 9223372036854775807) :
    Calls Try.prog 15 #[.slice a n c, .slice b m d] w fun e w' => e = .returned (.bool (decide (n ≤ 40 ∧ m ≤ 40))) ∧ w = w' := by
  by_cases h1 : n ≤ 40
  · by_cases h2 : m ≤ 40
    · have h3 : decide (n ≤ 40 ∧ m ≤ 40) = true := by simp; omega
      rw [h3]
      clear h3
      go_enter Try.func15, Try.ntmps15
      go_wp2_with fail
      go_ret
      exact ⟨ret_bool (by simp; omega), rfl⟩
    · have h3 : decide (n ≤ 40 ∧ m ≤ 40) = false := by simp; omega
      rw [h3]
      clear h3
      go_enter Try.func15, Try.ntmps15
      go_wp2_with fail
      go_ret
      exact ⟨ret_bool (by simp; omega), rfl⟩
  · have h3 : decide (n ≤ 40 ∧ m ≤ 40) = false := by simp; omega
    rw [h3]
    clear h3
    go_enter Try.func15, Try.ntmps15
    go_wp2_with fail
    go_ret
    exact ⟨ret_bool (by simp), rfl⟩

set_option maxHeartbeats 1000000 in
theorem walk_back (a : Option Addr) (n c : Nat) (xs : List Int) (b : Option Addr) (m d : Nat) (ys : List Int) (w : World) (hA : IsRow .u32 w a n c xs) (hB : IsRow .u32 w b m d ys) :
    Calls Try.prog 4 #[.slice a n c, .slice b m d] w fun e w' => e = .returned (.bool true) ∧ Below w.heap.size w w' := by
  have ha := hA.row
  have hb := hB.row
  have hx := hA.dig
  have hy := hB.dig
  clear hA hB
  generalize xs.take n = xs at *
  generalize ys.take m = ys at *
  have hn : n ≤ 9223372036854775807 := by have := ha.2.1; have := ha.2.2.1; unfold maxLen at this; omega
  have hm : m ≤ 9223372036854775807 := by have := hb.2.1; have := hb.2.2.1; unfold maxLen at this; omega
  have HL := Lib.hid (light_any a b n c m d w hn hm)
  have HA := Lib.hid ha
  have HB := Lib.hid hb
  have HX := Lib.hid hx
  have HY := Lib.hid hy
  by_cases hl : n ≤ 40 ∧ m ≤ 40
  · rw [show decide (n ≤ 40 ∧ m ≤ 40) = true from by simpa using hl] at HL
    obtain ⟨hn4, hm4⟩ := hl
    by_cases h0 : V 4294967296 ys = 0
    · have HD := Lib.hid (ndiv_no a b n c m d ys w hb hy h0)
      have HT := Lib.hid (trim_any b m d ys w hb hy (by omega))
      rw [h0] at HT
      clear ha hb hx hy h0
      go_enter Try.func4, Try.ntmps4
      go_wp2_with fail
      refine HL.out.mono ?_; rintro e w1 ⟨rfl, rfl⟩
      go_wp2_with fail
      refine HD.out.mono ?_; rintro e w1 ⟨rfl, rfl⟩
      go_wp2_with fail
      refine HT.out.mono ?_; rintro e w1 ⟨a1, n1, c1, rfl, hN, hb1, -⟩
      have hn1 : n1 = 0 := Nat.le_zero.1 (hN.len (k := 0) (by decide))
      subst hn1
      have HB1 := Lib.hid hb1
      clear hN hb1
      go_wp2_with fail
      refine (awake_nat w1).mono ?_; rintro e w2 ⟨rfl, hb2⟩
      have HB2 := Lib.hid (HB1.out.trans (hb2.mono HB1.out.size))
      clear hb2
      go_wp2_with fail
      go_ret
      exact ⟨rfl, HB2.out⟩
    · have HD := Lib.hid (ndiv_any a b n c m d xs ys w ha hb hx hy (by omega) (by omega) h0)
      have hV0 := (V_bd (B := 4294967296) (by decide) hy).1
      have hX0 := (V_bd (B := 4294967296) (by decide) hx).1
      have hX1 := (V_bd (B := 4294967296) (by decide) hx).2
      have r0 := Int.emod_nonneg (V 4294967296 xs) h0
      have r1 := Int.emod_lt_of_pos (V 4294967296 xs) (show 0 < V 4294967296 ys by omega)
      have HE := Lib.hid (Int.mul_ediv_add_emod (V 4294967296 xs) (V 4294967296 ys))
      have q1 : V 4294967296 xs / V 4294967296 ys < 4294967296 ^ n := Int.lt_of_le_of_lt (Int.ediv_le_self _ hX0) (by rw [ha.1] at hX1; exact hX1)
      have r2 : V 4294967296 xs % V 4294967296 ys < 4294967296 ^ m := Int.lt_trans r1 (by have := (V_bd (B := 4294967296) (by decide) hy).2; rw [hb.1] at this; exact this)
      have HX1 : Hid (V 4294967296 xs < 4294967296 ^ n) := Lib.hid (by rw [ha.1] at hX1; exact hX1)
      have HQ1 := Lib.hid q1
      have HR2 := Lib.hid r2
      have HR1 := Lib.hid r1
      clear ha hb hx hy h0 q1 r2 r1 hX1
      generalize hQ : V 4294967296 xs / V 4294967296 ys = Q at *
      generalize hR : V 4294967296 xs % V 4294967296 ys = R at *
      clear hQ hR
      go_enter Try.func4, Try.ntmps4
      go_wp2_with fail
      refine HL.out.mono ?_; rintro e w1 ⟨rfl, rfl⟩
      go_wp2_with fail
      refine HD.out.mono ?_; rintro e w1 ⟨a1, n1, c1, a2, n2, c2, rfl, hN1, hN2, hb1, -, -⟩
      have hn1 := hN1.len HQ1.out
      have hn2 := hN2.len HR2.out
      obtain ⟨qs, hqr, hqd, hqv, -⟩ := hN1.tl
      obtain ⟨rs, hrr, hrd, hrv, -⟩ := hN2.tl
      have HB1 := Lib.hid hb1
      have HQR := Lib.hid hqr
      have HRR := Lib.hid hrr
      have hcm := ncmp_any a2 b n2 c2 m d rs ys w1 hrr (HB.out.below hb1 (Nat.le_refl _)) hrd HY.out
      rw [hrv, cmpZ_lt HR1.out] at hcm
      have HCM := Lib.hid hcm
      have HQD := Lib.hid hqd
      have HRD := Lib.hid hrd
      have HQV := Lib.hid hqv
      have HRV := Lib.hid hrv
      clear hN1 hN2 hb1 hqr hrr hcm hqd hrd hqv hrv
      go_wp2_with fail
      refine HCM.out.mono ?_; rintro e w2 ⟨rfl, hb2⟩
      have HB2 := Lib.hid (HB1.out.trans (hb2.mono HB1.out.size))
      have hmu := nmul_any a1 b n1 c1 m d qs ys w2 (HQR.out.below hb2 (Nat.le_refl _)) (HB.out.below HB2.out (Nat.le_refl _)) HQD.out HY.out (by omega) (by omega)
      rw [HQV.out] at hmu
      have HMU := Lib.hid hmu
      have HRR2 := Lib.hid (HRR.out.below hb2 (Nat.le_refl _))
      clear hb2 hmu
      go_wp2_with fail
      refine HMU.out.mono ?_; rintro e w3 ⟨a3, n3, c3, rfl, hN3, hb3, -⟩
      have HB3 := Lib.hid (HB2.out.trans (hb3.mono HB2.out.size))
      have hn3 : n3 ≤ n := hN3.len (by
        have h1 := HE.out
        have h2 := HX1.out
        rw [Int.mul_comm] at h1
        omega)
      obtain ⟨ps, hpr, hpd, hpv, -⟩ := hN3.tl
      have had := nadd_any a3 a2 n3 c3 n2 c2 ps rs w3 hpr (HRR2.out.below hb3 (Nat.le_refl _)) hpd HRD.out (by omega) (by omega)
      rw [hpv, HRV.out, show Q * V 4294967296 ys + R = V 4294967296 xs from by have := HE.out; rw [Int.mul_comm] at this; exact this] at had
      have HAD := Lib.hid had
      clear hN3 hb3 hpr hpd hpv had
      go_wp2_with fail
      refine HAD.out.mono ?_; rintro e w4 ⟨a4, n4, c4, rfl, hN4, hb4, -⟩
      have HB4 := Lib.hid (HB3.out.trans (hb4.mono HB3.out.size))
      obtain ⟨ss, hsr, hsd, hsv, -⟩ := hN4.tl
      have hc2 := ncmp_any a4 a n4 c4 n c ss xs w4 hsr (HA.out.below HB4.out (Nat.le_refl _)) hsd HX.out
      rw [hsv, cmpZ_eq rfl] at hc2
      have HC2 := Lib.hid hc2
      clear hN4 hb4 hsr hsd hsv hc2
      go_wp2_with fail
      refine HC2.out.mono ?_; rintro e w5 ⟨rfl, hb5⟩
      have HB5 := Lib.hid (HB4.out.trans (hb5.mono HB4.out.size))
      clear hb5
      go_wp2_with fail
      refine (awake_nat w5).mono ?_; rintro e w6 ⟨rfl, hb6⟩
      have HB6 := Lib.hid (HB5.out.trans (hb6.mono HB5.out.size))
      clear hb6
      go_wp2_with fail
      go_ret
      exact ⟨rfl, HB6.out⟩
  · rw [show decide (n ≤ 40 ∧ m ≤ 40) = false from by simpa using hl] at HL
    clear ha hb hx hy hl
    go_enter Try.func4, Try.ntmps4
    go_wp2_with fail
    refine HL.out.mono ?_; rintro e w1 ⟨rfl, rfl⟩
    go_wp2_with fail
    refine (awake_nat w).mono ?_; rintro e w1 ⟨rfl, hb1⟩
    have HB1 := Lib.hid hb1
    clear hb1
    go_wp2_with fail
    go_ret
    exact ⟨rfl, HB1.out⟩
end Go.Proofs.Ytnbhcemgoifkgaa
