/- The walk of the law NatDivides. No conditions. -/
import Derived.Test.YtnbhcemgoifkgaaNatT
import Derived.Test.YtnbhcemgoifkgaaRef02b
namespace Go.Proofs.Ytnbhcemgoifkgaa
open Go.RowKit

theorem NumC.none0 {w : World} {neg : Bool} {a : Option Addr} {n c : Nat} (h : NumC w neg a n c 0) : n = 0 := by
  obtain ⟨xs, hr, hd, ht, hz, hg⟩ := h
  have hp := V_pos (B := 1000) (by decide) hd ht
  have h0 : ¬ 0 < V 1000 xs := by
    intro h1; cases neg <;> simp at hz <;> omega
  have e : xs = [] := Decidable.byContradiction fun h => h0 (hp.2 h)
  subst e; exact hr.1.symm
theorem NumC.some0 {w : World} {neg : Bool} {a : Option Addr} {n c : Nat} {z : Int} (h : NumC w neg a n c z) (hz : z ≠ 0) : 0 < n := by
  obtain ⟨xs, hr, hd, ht, he, hg⟩ := h
  rcases Nat.eq_zero_or_pos n with e | e
  · subst e
    have : xs = [] := List.eq_nil_of_length_eq_zero hr.1
    subst this
    rw [V_nil] at he
    cases neg <;> simp at he <;> omega
  · exact e
theorem two_boxes (w : World) (t : TypeId) (c1 c2 : Array Value) : Blk ((w.alloc (.cells c1 t)).alloc (.cells c2 t)) w.heap.size t c1 ∧ Blk ((w.alloc (.cells c1 t)).alloc (.cells c2 t)) (w.heap.size + 1) t c2 ∧
    Below w.heap.size w ((w.alloc (.cells c1 t)).alloc (.cells c2 t)) ∧ ((w.alloc (.cells c1 t)).alloc (.cells c2 t)).heap.size = w.heap.size + 1 + 1 := by
  refine ⟨(Blk.new _ _ _).alloc _, ?_, ((Below.refl _ _).alloc (Nat.le_refl _) _).alloc (by simp) _, by simp⟩
  have h := Blk.new (w.alloc (.cells c1 t)) t c2
  simpa using h
theorem div_fit {x y : Int} {k : Nat} (h0 : 0 ≤ x) (h1 : x < 4294967296 ^ k) (h2 : 0 ≤ y) (h3 : y < 4294967296 ^ k) (hk : k ≤ 29999) : Fit ((x.natAbs : Int) + 1000 * (y.natAbs : Int) + 1000) := by
  refine fit_b32 (natAbs_lt (k := k + 1) (by omega) ?_) (by omega)
  have p : (0 : Int) < 4294967296 ^ k := Int.pow_pos (by decide)
  rw [Int.pow_succ]
  generalize (4294967296 : Int) ^ k = P at *
  omega

set_option maxHeartbeats 2000000 in
theorem walk_divides (a : Option Addr) (n c : Nat) (xs : List Int) (b : Option Addr) (m d : Nat) (ys : List Int) (w : World) (hA : IsRow .u32 w a n c xs) (hB : IsRow .u32 w b m d ys) :
    Calls Try.prog 3 #[.slice a n c, .slice b m d] w fun e w' => e = .returned (.bool true) ∧ Below w.heap.size w w' := by
  have ha := hA.row
  have hb := hB.row
  have hx := hA.dig
  have hy := hB.dig
  clear hA hB
  generalize xs.take n = xs at *
  generalize ys.take m = ys at *
  have hn : n ≤ 9223372036854775807 := by have := ha.2.1; have := ha.2.2.1; unfold maxLen at this; omega
  have hm : m ≤ 9223372036854775807 := by have := hb.2.1; have := hb.2.2.1; unfold maxLen at this; omega
  have HL := Lib.hid (light_any a b n c m d w hn hm)
  have HA := Lib.hid ha
  have HB := Lib.hid hb
  have HX := Lib.hid hx
  have HY := Lib.hid hy
  by_cases hl : n ≤ 40 ∧ m ≤ 40
  · rw [show decide (n ≤ 40 ∧ m ≤ 40) = true from by simpa using hl] at HL
    obtain ⟨hn4, hm4⟩ := hl
    have VX := V_bd (B := 4294967296) (by decide) hx
    have VY := V_bd (B := 4294967296) (by decide) hy
    rw [ha.1] at VX
    rw [hb.1] at VY
    have HVX := Lib.hid VX
    have HVY := Lib.hid VY
    have hF : Hid (Fit (((V 4294967296 xs).natAbs : Int) + 1000 * ((V 4294967296 ys).natAbs : Int) + 1000)) := Lib.hid (div_fit (k := 40) VX.1 (Int.lt_of_lt_of_le VX.2 (ipow_le (by decide) hn4)) VY.1 (Int.lt_of_lt_of_le VY.2 (ipow_le (by decide) hm4)) (by decide))
    clear ha hb hx hy VX VY
    go_enter Try.func3, Try.ntmps3
    go_wp2_with fail
    refine HL.out.mono ?_; rintro e w1 ⟨rfl, rfl⟩
    go_wp2_with fail
    refine (rnum_any a n c xs w HA.out HX.out (by omega)).mono ?_; rintro e w1 ⟨np, pp, lp, cp, rfl, hP, hb1, -⟩
    have HB1 := Lib.hid hb1
    have HP1 := Lib.hid hP
    clear hP hb1
    go_wp2_with fail
    refine (rnum_any b m d ys w1 (HB.out.below HB1.out (Nat.le_refl _)) HY.out (by omega)).mono ?_; rintro e w2 ⟨nq, pq, lq, cq, rfl, hQ, hb2, -⟩
    have HB2 := Lib.hid (HB1.out.trans (hb2.mono HB1.out.size))
    have HP2 := Lib.hid (HP1.out.below hb2 (Nat.le_refl _))
    have HQ2 := Lib.hid hQ
    clear hQ hb2 HB1 HP1
    go_wp2_with fail
    obtain ⟨hk0, hk1, hbw, hsz⟩ := two_boxes w2 27 #[.bool np, .slice pp lp cp] #[.bool nq, .slice pq lq cq]
    have HB3 := Lib.hid (HB2.out.trans (hbw.mono HB2.out.size))
    have HP3 := Lib.hid (HP2.out.below hbw (Nat.le_refl _))
    have HQ3 := Lib.hid (HQ2.out.below hbw (Nat.le_refl _))
    have HK0 := Lib.hid hk0
    have HK1 := Lib.hid hk1
    clear hk0 hk1 hbw hsz HP2 HQ2 HB2
    generalize (w2.alloc (.cells #[.bool np, .slice pp lp cp] 27)).alloc (.cells #[.bool nq, .slice pq lq cq] 27) = w3 at *
    generalize w2.heap.size = s at *
    clear w1 w2
    by_cases h0 : V 4294967296 ys = 0
    · have HD := Lib.hid (ndiv_no a b n c m d ys w3 (HB.out.below HB3.out (Nat.le_refl _)) HY.out h0)
      rw [h0] at HQ3
      have hlq := HQ3.out.none0
      subst hlq
      have y1 : w3.cell? ⟨s + 1, 1, none⟩ = some (.slice pq 0 cq) := HK1.out.cell 1
      clear h0
      go_wp2_with fail
      refine HD.out.mono ?_; rintro e w4 ⟨rfl, rfl⟩
      go_wp2_with fail
      refine (awake_nat w3).mono ?_; rintro e w4 ⟨rfl, hb4⟩
      have HB4 := Lib.hid (HB3.out.trans (hb4.mono HB3.out.size))
      clear hb4
      go_wp2_with fail
      go_ret
      exact ⟨rfl, HB4.out⟩
    · have hlq := HQ3.out.some0 h0
      have HD := Lib.hid (ndiv_any a b n c m d xs ys w3 (HA.out.below HB3.out (Nat.le_refl _)) (HB.out.below HB3.out (Nat.le_refl _)) HX.out HY.out (by omega) (by omega) h0)
      have hne : ((lq : Int) == 0) = false := by simp; omega
      have hX0 := HVX.out.1
      have hY0 := HVY.out.1
      have q0 : 0 ≤ V 4294967296 xs / V 4294967296 ys := Int.ediv_nonneg hX0 hY0
      have q1 : V 4294967296 xs / V 4294967296 ys < 4294967296 ^ n := Int.lt_of_le_of_lt (Int.ediv_le_self _ hX0) HVX.out.2
      have r1 : V 4294967296 xs % V 4294967296 ys < 4294967296 ^ m := Int.lt_trans (Int.emod_lt_of_pos _ (show 0 < V 4294967296 ys by omega)) HVY.out.2
      have HQ1 := Lib.hid q1
      have HR1 := Lib.hid r1
      have H0 := Lib.hid h0
      have HFD := Lib.hid (show (V 4294967296 xs).fdiv (V 4294967296 ys) = V 4294967296 xs / V 4294967296 ys ∧ (V 4294967296 xs).fmod (V 4294967296 ys) = V 4294967296 xs % V 4294967296 ys from ⟨Int.fdiv_eq_ediv_of_nonneg _ hY0, Int.fmod_eq_emod_of_nonneg _ hY0⟩)
      have y1 : w3.cell? ⟨s + 1, 1, none⟩ = some (.slice pq lq cq) := HK1.out.cell 1
      clear h0 q0 q1 r1 hX0 hY0
      generalize V 4294967296 xs = X at *
      generalize V 4294967296 ys = Y at *
      go_wp2_with fail
      refine HD.out.mono ?_
      rintro e w4 ⟨a1, n1, c1, a2, n2, c2, rfl, hN1, hN2, hb4, -, -⟩
      have HB4 := Lib.hid (HB3.out.trans (hb4.mono HB3.out.size))
      have HP4 := Lib.hid (HP3.out.below hb4 (Nat.le_refl _))
      have HQ4 := Lib.hid (HQ3.out.below hb4 (Nat.le_refl _))
      have hk0 := HK0.out.below hb4 HK0.out.lt
      have hk1 := HK1.out.below hb4 HK1.out.lt
      have x0 : w4.cell? ⟨s, 0, none⟩ = some (.bool np) := hk0.cell 0
      have x1 : w4.cell? ⟨s, 1, none⟩ = some (.slice pp lp cp) := hk0.cell 1
      have y0' : w4.cell? ⟨s + 1, 0, none⟩ = some (.bool nq) := hk1.cell 0
      have y1' : w4.cell? ⟨s + 1, 1, none⟩ = some (.slice pq lq cq) := hk1.cell 1
      have hn1 := hN1.len HQ1.out
      have hn2 := hN2.len HR1.out
      have HN1 := Lib.hid hN1
      have HN2 := Lib.hid hN2
      clear hN1 hN2 hb4 hk0 hk1 y1 HP3 HQ3 HK0 HK1 HB3
      go_wp2_with fail
      refine (div_any _ _ _ _ _ _ _ _ X Y _ HP4.out HQ4.out H0.out hF.out).mono ?_
      rintro e w5 ⟨n5, p5, l5, c5, n6, p6, l6, c6, rfl, hZ1, hZ2, hb5⟩
      have HB5 := Lib.hid (HB4.out.trans (hb5.mono HB4.out.size))
      have HN15 := Lib.hid (HN1.out.below hb5 (Nat.le_refl _))
      have HN25 := Lib.hid (HN2.out.below hb5 (Nat.le_refl _))
      rw [HFD.out.1] at hZ1
      rw [HFD.out.2] at hZ2
      have HZ1 := Lib.hid hZ1
      have HZ2 := Lib.hid hZ2
      clear hZ1 hZ2 hb5 HB4 HN1 HN2 x0 x1 y0' y1' HP4 HQ4
      go_wp2_with fail
      obtain ⟨hk0, hk1, hbw, hsz⟩ := two_boxes w5 27 #[.bool n5, .slice p5 l5 c5] #[.bool n6, .slice p6 l6 c6]
      have HB6 := Lib.hid (HB5.out.trans (hbw.mono HB5.out.size))
      have HN16 := Lib.hid (HN15.out.below hbw (Nat.le_refl _))
      have HN26 := Lib.hid (HN25.out.below hbw (Nat.le_refl _))
      have HZ16 := Lib.hid (HZ1.out.below hbw (Nat.le_refl _))
      have HZ26 := Lib.hid (HZ2.out.below hbw (Nat.le_refl _))
      have HK0 := Lib.hid hk0
      have HK1 := Lib.hid hk1
      clear hbw hsz HB5 HN15 HN25 HZ1 HZ2
      generalize (w5.alloc (.cells #[.bool n5, .slice p5 l5 c5] 27)).alloc (.cells #[.bool n6, .slice p6 l6 c6] 27) = w6 at *
      generalize w5.heap.size = u at *
      have u0 : w6.cell? ⟨u, 0, none⟩ = some (.bool n5) := hk0.cell 0
      have u1 : w6.cell? ⟨u, 1, none⟩ = some (.slice p5 l5 c5) := hk0.cell 1
      clear hk0 hk1
      go_wp2_with fail
      refine (ris2_any _ _ _ _ _ _ _ _ w6 HN16.out HZ16.out (by omega)).mono ?_
      rintro e w7 ⟨rfl, hb7⟩
      have HB7 := Lib.hid (HB6.out.trans (hb7.mono HB6.out.size))
      have HN27 := Lib.hid (HN26.out.below hb7 (Nat.le_refl _))
      have HZ27 := Lib.hid (HZ26.out.below hb7 (Nat.le_refl _))
      have hk1 := HK1.out.below hb7 HK1.out.lt
      have v0 : w7.cell? ⟨u + 1, 0, none⟩ = some (.bool n6) := hk1.cell 0
      have v1 : w7.cell? ⟨u + 1, 1, none⟩ = some (.slice p6 l6 c6) := hk1.cell 1
      clear hb7 hk1
      go_wp2_with fail
      refine (ris2_any _ _ _ _ _ _ _ _ w7 HN27.out HZ27.out (by omega)).mono ?_
      rintro e w8 ⟨rfl, hb8⟩
      have HB8 := Lib.hid (HB7.out.trans (hb8.mono HB7.out.size))
      clear hb8
      go_wp2_with fail
      refine (awake_nat w8).mono ?_; rintro e w9 ⟨rfl, hb9⟩
      have HB9 := Lib.hid (HB8.out.trans (hb9.mono HB8.out.size))
      clear hb9
      go_wp2_with fail
      go_ret
      exact ⟨rfl, HB9.out⟩
  · rw [show decide (n ≤ 40 ∧ m ≤ 40) = false from by simpa using hl] at HL
    clear ha hb hx hy hl
    go_enter Try.func3, Try.ntmps3
    go_wp2_with fail
    refine HL.out.mono ?_; rintro e w1 ⟨rfl, rfl⟩
    go_wp2_with fail
    refine (awake_nat w).mono ?_; rintro e w1 ⟨rfl, hb1⟩
    have HB1 := Lib.hid hb1
    clear hb1
    go_wp2_with fail
    go_ret
    exact ⟨rfl, HB1.out⟩
end Go.Proofs.Ytnbhcemgoifkgaa
