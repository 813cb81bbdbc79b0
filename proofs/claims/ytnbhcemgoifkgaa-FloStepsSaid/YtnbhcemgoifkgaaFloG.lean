/- Contracts of package bushelref03's Less, Least, Most. Conditions: words below 2^64. -/
import Derived.Test.YtnbhcemgoifkgaaFloF
namespace Go.Proofs.Ytnbhcemgoifkgaa
open Go.RowKit Ieee

set_option maxHeartbeats 1000000 in
theorem rless_any (a b : Nat) (w : World) (ha : a < 18446744073709551616) (hb : b < 18446744073709551616) : Calls Try.prog 57 #[.float .f64 a, .float .f64 b] w fun e w' => e = .returned (.bool (decide (keyN a < keyN b))) ∧ Below w.heap.size w w' := by
  have HKA := Lib.hid (fun w => rkind_any a w ha)
  have HKB := Lib.hid (fun w => rkind_any b w hb)
  by_cases h1 : INF < a % S63
  · have hk1 := kind3.2 h1
    have hq1 := key_nan h1
    rw [hk1] at HKA
    rw [show decide (keyN a < keyN b) = false from by rw [hq1]; have := keyN_lt hb; simp; omega]
    clear hk1 h1 ha hb hq1 HKB
    go_enter Try.func57, Try.ntmps57
    go_wp2_with fail
    refine (HKA.out _).mono ?_; rintro e w1 ⟨rfl, hb1⟩
    have HB1 := Lib.hid hb1
    clear hb1
    go_wp2_with fail
    refine (HKA.out _).mono ?_; rintro e w2 ⟨rfl, hb2⟩
    have HB2 := Lib.hid (HB1.out.trans (hb2.mono HB1.out.size))
    clear hb2
    go_wp2_with fail
    go_ret
    exact ⟨rfl, HB2.out⟩
  · have hk1 : kindZ a ≠ 3 := fun h => h1 (kind3.1 h)
    by_cases h2 : INF < b % S63
    · have hk2 := kind3.2 h2
      rw [show decide (keyN a < keyN b) = true from by rw [key_nan h2]; have := key_num ha h1; simp; omega]
      rw [hk2] at HKB
      generalize kindZ a = ka at *
      have hk3 : (ka == (3 : Int)) = false := by simp; omega
      have hk4 : (ka != (3 : Int)) = true := by simp; omega
      clear hk1 hk2 h1 h2 ha hb
      go_enter Try.func57, Try.ntmps57
      go_wp2_with fail
      refine (HKA.out _).mono ?_; rintro e w1 ⟨rfl, hb1⟩
      have HB1 := Lib.hid hb1
      clear hb1
      go_wp2_with fail
      refine (HKB.out _).mono ?_; rintro e w2 ⟨rfl, hb2⟩
      have HB2 := Lib.hid (HB1.out.trans (hb2.mono HB1.out.size))
      clear hb2
      go_wp2_with fail
      refine (HKA.out _).mono ?_; rintro e w3 ⟨rfl, hb3⟩
      have HB3 := Lib.hid (HB2.out.trans (hb3.mono HB2.out.size))
      clear hb3
      go_wp2_with fail
      go_ret
      exact ⟨rfl, HB3.out⟩
    · have hk2 : kindZ b ≠ 3 := fun h => h2 (kind3.1 h)
      have HLA := Lib.hid (fun w => rbelow_any a w ha)
      have HLB := Lib.hid (fun w => rbelow_any b w hb)
      rw [below_num h1] at HLA
      rw [below_num h2] at HLB
      have hok := order_key ha hb h1 h2
      have ho := order_lt ha hb h1 h2
      have hka : (kindZ a == 3) = false := by simpa using hk1
      have hkb : (kindZ b == 3) = false := by simpa using hk2
      generalize kindZ a = ka at *
      generalize kindZ b = kb at *
      rcases Int.lt_trichotomy (sk a) (sk b) with h3 | h3 | h3
      · rw [cmp_lt h3] at ho
        rw [show decide (keyN a < keyN b) = true from by simpa using hok.1 h3]
        clear hk1 hk2 h1 h2 ha hb hok h3
        go_enter Try.func57, Try.ntmps57
        go_wp2_with fail
        refine (HKA.out _).mono ?_; rintro e w1 ⟨rfl, hb1⟩
        have HB1 := Lib.hid hb1
        clear hb1
        go_wp2_with fail
        refine (HKB.out _).mono ?_; rintro e w2 ⟨rfl, hb2⟩
        have HB2 := Lib.hid (HB1.out.trans (hb2.mono HB1.out.size))
        clear hb2
        go_wp2_with fail
        go_ret
        exact ⟨rfl, HB2.out⟩
      · rw [cmp_same h3] at ho
        rw [show decide (keyN a < keyN b) = (decide (S63 ≤ a) && !decide (S63 ≤ b)) from by rw [Bool.eq_iff_iff]; simp; exact ((hok.2.2 h3).1.trans (by simp))]
        generalize decide (S63 ≤ a) = sa at *
        generalize decide (S63 ≤ b) = sb' at *
        clear hk1 hk2 h1 h2 ha hb hok h3
        cases sa
        · go_enter Try.func57, Try.ntmps57
          go_wp2_with fail
          refine (HKA.out _).mono ?_; rintro e w1 ⟨rfl, hb1⟩
          have HB1 := Lib.hid hb1
          clear hb1
          go_wp2_with fail
          refine (HKB.out _).mono ?_; rintro e w2 ⟨rfl, hb2⟩
          have HB2 := Lib.hid (HB1.out.trans (hb2.mono HB1.out.size))
          clear hb2
          go_wp2_with fail
          refine (HLA.out _).mono ?_; rintro e w3 ⟨rfl, rfl⟩
          go_wp2_with fail
          go_ret
          exact ⟨rfl, HB2.out⟩
        · go_enter Try.func57, Try.ntmps57
          go_wp2_with fail
          refine (HKA.out _).mono ?_; rintro e w1 ⟨rfl, hb1⟩
          have HB1 := Lib.hid hb1
          clear hb1
          go_wp2_with fail
          refine (HKB.out _).mono ?_; rintro e w2 ⟨rfl, hb2⟩
          have HB2 := Lib.hid (HB1.out.trans (hb2.mono HB1.out.size))
          clear hb2
          go_wp2_with fail
          refine (HLA.out _).mono ?_; rintro e w3 ⟨rfl, rfl⟩
          go_wp2_with fail
          refine (HLB.out _).mono ?_; rintro e w3 ⟨rfl, rfl⟩
          go_wp2_with fail
          go_ret
          exact ⟨ret_bool (by simp), HB2.out⟩
      · rw [cmp_gt h3] at ho
        rw [show decide (keyN a < keyN b) = false from by have := hok.2.1 h3; simp; omega]
        clear hk1 hk2 h1 h2 ha hb hok h3
        go_enter Try.func57, Try.ntmps57
        go_wp2_with fail
        refine (HKA.out _).mono ?_; rintro e w1 ⟨rfl, hb1⟩
        have HB1 := Lib.hid hb1
        clear hb1
        go_wp2_with fail
        refine (HKB.out _).mono ?_; rintro e w2 ⟨rfl, hb2⟩
        have HB2 := Lib.hid (HB1.out.trans (hb2.mono HB1.out.size))
        clear hb2
        go_wp2_with fail
        go_ret
        exact ⟨rfl, HB2.out⟩

theorem rleast_any (a b : Nat) (w : World) (ha : a < 18446744073709551616) (hb : b < 18446744073709551616) : Calls Try.prog 62 #[.float .f64 a, .float .f64 b] w fun e w' => e = .returned (.float .f64 (if keyN b < keyN a then b else a)) ∧ Below w.heap.size w w' := by
  have hl := rless_any b a w hb ha
  clear ha hb
  by_cases h : keyN b < keyN a
  · rw [if_pos h]
    rw [show decide (keyN b < keyN a) = true from by simpa using h] at hl
    have HL := Lib.hid hl
    clear hl h
    go_enter Try.func62, Try.ntmps62
    go_wp2_with fail
    refine HL.out.mono ?_; rintro e w1 ⟨rfl, hb1⟩
    go_wp2_with fail
    go_ret
    exact ⟨rfl, hb1⟩
  · rw [if_neg h]
    rw [show decide (keyN b < keyN a) = false from by simpa using h] at hl
    have HL := Lib.hid hl
    clear hl h
    go_enter Try.func62, Try.ntmps62
    go_wp2_with fail
    refine HL.out.mono ?_; rintro e w1 ⟨rfl, hb1⟩
    go_wp2_with fail
    go_ret
    exact ⟨rfl, hb1⟩
theorem rmost_any (a b : Nat) (w : World) (ha : a < 18446744073709551616) (hb : b < 18446744073709551616) : Calls Try.prog 64 #[.float .f64 a, .float .f64 b] w fun e w' => e = .returned (.float .f64 (if keyN a < keyN b then b else a)) ∧ Below w.heap.size w w' := by
  have hl := rless_any a b w ha hb
  clear ha hb
  by_cases h : keyN a < keyN b
  · rw [if_pos h]
    rw [show decide (keyN a < keyN b) = true from by simpa using h] at hl
    have HL := Lib.hid hl
    clear hl h
    go_enter Try.func64, Try.ntmps64
    go_wp2_with fail
    refine HL.out.mono ?_; rintro e w1 ⟨rfl, hb1⟩
    go_wp2_with fail
    go_ret
    exact ⟨rfl, hb1⟩
  · rw [if_neg h]
    rw [show decide (keyN a < keyN b) = false from by simpa using h] at hl
    have HL := Lib.hid hl
    clear hl h
    go_enter Try.func64, Try.ntmps64
    go_wp2_with fail
    refine HL.out.mono ?_; rintro e w1 ⟨rfl, hb1⟩
    go_wp2_with fail
    go_ret
    exact ⟨rfl, hb1⟩
end Go.Proofs.Ytnbhcemgoifkgaa
