/- Contract of package nat's Cmp. Condition: the words of the lists are below 2^32. -/
import Derived.Test.YtnbhcemgoifkgaaNatA
namespace Go.Proofs.Ytnbhcemgoifkgaa
open Go.RowKit

theorem below_dn {B : Nat} {a w : World} (h : Below B a w) (n : Nat) : Below B a (w.drewN n) := ⟨h.os, h.tape, h.output, h.size, h.block⟩

theorem ncmp_any (a b : Option Addr) (n cap m cb : Nat) (xs ys : List Int) (w : World) (ha : RowK .u32 w a n cap xs) (hb : RowK .u32 w b m cb ys) (hx : Dig 4294967296 xs) (hy : Dig 4294967296 ys) :
    Calls Try.prog 22 #[.slice a n cap, .slice b m cb] w fun e w' => e = .returned (.int .i64 (cmpZ (V 4294967296 xs) (V 4294967296 ys))) ∧ Below w.heap.size w w' := by
  have HA := Lib.hid ha
  have HB := Lib.hid hb
  have HX := Lib.hid hx
  have HY := Lib.hid hy
  have SA := Lib.hid (size_any a n cap xs w ha)
  have SB := Lib.hid (size_any b m cb ys w hb)
  have hp := tl_le xs
  rw [ha.1] at hp
  have hq := tl_le ys
  rw [hb.1] at hq
  have hn : n ≤ 9223372036854775807 := by have := ha.2.1; have := ha.2.2.1; unfold maxLen at this; omega
  have hm : m ≤ 9223372036854775807 := by have := hb.2.1; have := hb.2.2.1; unfold maxLen at this; omega
  have H1 := Lib.hid (fun h => tl_lt (B := 4294967296) (by decide) hx hy h)
  have H2 := Lib.hid (fun h => tl_lt (B := 4294967296) (by decide) hy hx h)
  have Z1 := Lib.hid (fun i (h : tl xs ≤ i) => tl_zero (xs := xs) h)
  have Z2 := Lib.hid (fun i (h : tl ys ≤ i) => tl_zero (xs := ys) h)
  clear ha hb hx hy
  generalize tl xs = p at *
  generalize tl ys = q at *
  by_cases hpq : p = q
  · subst hpq
    have hne : ((p : Int) != (p : Int)) = false := by simp
    go_enter Try.func22, Try.ntmps22
    go_wp2_with fail
    refine SA.out.mono ?_; rintro e w1 ⟨rfl, rfl⟩
    go_wp2_with fail
    refine SB.out.mono ?_; rintro e w1 ⟨rfl, rfl⟩
    go_wp2_with fail
    go_loopg [7] p (fun k u wr => u = .int .i64 ((k : Int) - 1) ∧ k ≤ p ∧ (∀ i, k ≤ i → xs.getD i 0 = ys.getD i 0) ∧ Below w.heap.size w wr)
    case atStart => exact ⟨rfl, Nat.le_refl _, fun i hi => by rw [Z1.out i hi, Z2.out i hi], Below.refl _ _⟩
    case round =>
      obtain ⟨rfl, hk, hab, hbl⟩ := hrel
      have HAB := Lib.hid hab
      have HBL := Lib.hid hbl
      clear hab
      by_cases h0 : gk = 0
      · subst h0
        have HZ := Lib.hid (less_same (B := 4294967296) (fun i => HAB.out i (Nat.zero_le i)))
        clear hbl
        go_wp2_with fail
        go_ret
        exact ⟨ret_int (cmpZ_eq HZ.out).symm, HBL.out⟩
      · obtain ⟨j, hj⟩ : ∃ j, gk = j + 1 := ⟨gk - 1, by omega⟩
        subst hj
        rw [show ((j + 1 : Nat) : Int) - 1 = (j : Int) from by omega]
        obtain ⟨-, -, -, h4⟩ := HA.out.below hbl (Nat.le_refl _)
        obtain ⟨-, -, -, k4⟩ := HB.out.below hbl (Nat.le_refl _)
        rcases h4 with hcap0 | ⟨ba, oa, rfl, -, hc⟩
        · have := HA.out.2.1; omega
        rcases k4 with hcap0 | ⟨bb, ob, rfl, -, hd⟩
        · have := HB.out.2.1; omega
        have hc1 := hc j (by omega)
        have hd1 := hd j (by omega)
        obtain ⟨d, hdd⟩ : ∃ d, xs.getD j 0 = d := ⟨_, rfl⟩
        obtain ⟨e, hee⟩ : ∃ e, ys.getD j 0 = e := ⟨_, rfl⟩
        rw [hdd] at hc1
        rw [hee] at hd1
        have HD := Lib.hid hdd
        have HE := Lib.hid hee
        have g0 : (0 : Int) ≤ (j : Int) := by omega
        have g1 : (j : Int) < (n : Int) := by omega
        have g2 : (j : Int) < (m : Int) := by omega
        clear hc hd hdd hee h0 hbl
        rcases Int.lt_trichotomy d e with hlt | heq | hgt
        · have HZ := Lib.hid (less_step (B := 4294967296) (by decide) HX.out HY.out (k := j) (fun i hi => HAB.out i hi) (by rw [HD.out, HE.out]; exact hlt))
          go_wp2_with fail
          go_quiet (fail)
          go_wp2_with fail
          go_ret
          exact ⟨ret_int (cmpZ_lt HZ.out).symm, below_dn HBL.out _⟩
        · subst heq
          have hl1 : ¬ (d < d) := by omega
          go_wp2_with fail
          go_quiet (fail)
          go_wp2_with fail
          go_quiet (fail)
          go_wp2_with fail
          go_roundg j
          case measure => omega
          case rel => exact ⟨rfl, by omega, fun i hi => (by
            by_cases h : i = j
            · rw [h, HD.out, HE.out]
            · exact HAB.out i (by omega)), below_dn HBL.out _⟩
        · have HZ := Lib.hid (less_step (B := 4294967296) (by decide) HY.out HX.out (k := j) (fun i hi => (HAB.out i hi).symm) (by rw [HD.out, HE.out]; exact hgt))
          have hl1 : ¬ (d < e) := by omega
          go_wp2_with fail
          go_quiet (fail)
          go_wp2_with fail
          go_quiet (fail)
          go_wp2_with fail
          go_ret
          exact ⟨ret_int (cmpZ_gt HZ.out).symm, below_dn (below_dn HBL.out _) _⟩
  · have hne : ((p : Int) != (q : Int)) = true := by simp; omega
    by_cases hlt : p < q
    · have HZ := Lib.hid (H1.out hlt)
      go_enter Try.func22, Try.ntmps22
      go_wp2_with fail
      refine SA.out.mono ?_; rintro e w1 ⟨rfl, rfl⟩
      go_wp2_with fail
      refine SB.out.mono ?_; rintro e w1 ⟨rfl, rfl⟩
      go_wp2_with fail
      go_ret
      exact ⟨ret_int (cmpZ_lt HZ.out).symm, Below.refl _ _⟩
    · have HZ := Lib.hid (H2.out (by omega))
      go_enter Try.func22, Try.ntmps22
      go_wp2_with fail
      refine SA.out.mono ?_; rintro e w1 ⟨rfl, rfl⟩
      go_wp2_with fail
      refine SB.out.mono ?_; rintro e w1 ⟨rfl, rfl⟩
      go_wp2_with fail
      go_ret
      exact ⟨ret_int (cmpZ_gt HZ.out).symm, Below.refl _ _⟩
end Go.Proofs.Ytnbhcemgoifkgaa
