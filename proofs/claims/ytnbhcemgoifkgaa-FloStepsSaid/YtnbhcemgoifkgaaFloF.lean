/- Contracts of package bushelref03's Same, Less, Least, Most. Conditions: words below 2^64. -/
import Derived.Test.YtnbhcemgoifkgaaFloE
namespace Go.Proofs.Ytnbhcemgoifkgaa
open Go.RowKit Ieee

theorem kind3 {b : Nat} : kindZ b = 3 ↔ INF < b % S63 := by
  unfold kindZ
  constructor
  · intro h
    by_cases h1 : INF < b % S63
    · exact h1
    · rw [if_neg h1] at h
      split at h
      · omega
      · split at h <;> omega
  · intro h; rw [if_pos h]
theorem key_nan {b : Nat} (h : INF < b % S63) : keyN b = 18446744073709551615 := by unfold keyN; rw [if_pos h]
theorem key_num {b : Nat} (hb : b < 18446744073709551616) (h : ¬ INF < b % S63) : keyN b < 18446744073709551615 := by
  unfold keyN
  rw [if_neg h]
  unfold S63 INF at *
  split <;> omega
/-- the order of numbers by their keys -/
theorem order_key {a b : Nat} (ha : a < 18446744073709551616) (hb : b < 18446744073709551616) (na : ¬ INF < a % S63) (nb : ¬ INF < b % S63) :
    (sk a < sk b → keyN a < keyN b) ∧ (sk b < sk a → keyN b < keyN a) ∧ (sk a = sk b → (keyN a < keyN b ↔ (S63 ≤ a ∧ ¬ S63 ≤ b)) ∧ (keyN a = keyN b ↔ (S63 ≤ a ↔ S63 ≤ b))) := by
  unfold keyN sk sg
  rw [if_neg na, if_neg nb]
  unfold S63 INF at *
  by_cases h1 : 9223372036854775808 ≤ a <;> by_cases h2 : 9223372036854775808 ≤ b <;> simp [h1, h2] <;> omega
theorem order_lt {a b : Nat} (ha : a < 18446744073709551616) (hb : b < 18446744073709551616) (na : ¬ INF < a % S63) (nb : ¬ INF < b % S63) :
    FloatKind.f64.format.order a b = some (compare (sk a) (sk b)) := order_num ha hb (by omega) (by omega)
theorem below_num {a : Nat} (na : ¬ INF < a % S63) : belowB a = decide (S63 ≤ a) := by
  unfold belowB
  rw [show decide (a % S63 ≤ INF) = true from by simpa using Nat.le_of_not_lt na, Bool.and_true]

set_option maxHeartbeats 1000000 in
theorem rsame_any (a b : Nat) (w : World) (ha : a < 18446744073709551616) (hb : b < 18446744073709551616) : Calls Try.prog 51 #[.float .f64 a, .float .f64 b] w fun e w' => e = .returned (.bool (decide (keyN a = keyN b))) ∧ Below w.heap.size w w' := by
  have HKA := Lib.hid (fun w => rkind_any a w ha)
  have HKB := Lib.hid (fun w => rkind_any b w hb)
  by_cases h1 : INF < a % S63
  · have hk1 := kind3.2 h1
    have hq1 := key_nan h1
    rw [hk1] at HKA
    by_cases h2 : INF < b % S63
    · have hk2 := kind3.2 h2
      rw [show decide (keyN a = keyN b) = true from by rw [hq1, key_nan h2]; rfl]
      rw [hk2] at HKB
      clear hk1 hk2 h1 h2 ha hb hq1
      go_enter Try.func51, Try.ntmps51
      go_wp2_with fail
      refine (HKA.out _).mono ?_; rintro e w1 ⟨rfl, hb1⟩
      have HB1 := Lib.hid hb1
      clear hb1
      go_wp2_with fail
      refine (HKA.out _).mono ?_; rintro e w2 ⟨rfl, hb2⟩
      have HB2 := Lib.hid (HB1.out.trans (hb2.mono HB1.out.size))
      clear hb2
      go_wp2_with fail
      refine (HKB.out _).mono ?_; rintro e w3 ⟨rfl, hb3⟩
      have HB3 := Lib.hid (HB2.out.trans (hb3.mono HB2.out.size))
      clear hb3
      go_wp2_with fail
      go_ret
      exact ⟨rfl, HB3.out⟩
    · have hk2 : kindZ b ≠ 3 := fun h => h2 (kind3.1 h)
      rw [show decide (keyN a = keyN b) = false from by rw [hq1]; have := key_num hb h2; simp; omega]
      generalize kindZ b = kb at *
      have hk3 : ((3 : Int) == kb) = false := by simp; omega
      clear hk1 hk2 h1 h2 ha hb hq1
      go_enter Try.func51, Try.ntmps51
      go_wp2_with fail
      refine (HKA.out _).mono ?_; rintro e w1 ⟨rfl, hb1⟩
      have HB1 := Lib.hid hb1
      clear hb1
      go_wp2_with fail
      refine (HKA.out _).mono ?_; rintro e w2 ⟨rfl, hb2⟩
      have HB2 := Lib.hid (HB1.out.trans (hb2.mono HB1.out.size))
      clear hb2
      go_wp2_with fail
      refine (HKB.out _).mono ?_; rintro e w3 ⟨rfl, hb3⟩
      have HB3 := Lib.hid (HB2.out.trans (hb3.mono HB2.out.size))
      clear hb3
      go_wp2_with fail
      go_ret
      exact ⟨rfl, HB3.out⟩
  · have hk1 : kindZ a ≠ 3 := fun h => h1 (kind3.1 h)
    by_cases h2 : INF < b % S63
    · have hk2 := kind3.2 h2
      rw [show decide (keyN a = keyN b) = false from by rw [key_nan h2]; have := key_num ha h1; simp; omega]
      rw [hk2] at HKB
      generalize kindZ a = ka at *
      have hk3 : (ka == (3 : Int)) = false := by simp; omega
      clear hk1 hk2 h1 h2 ha hb
      go_enter Try.func51, Try.ntmps51
      go_wp2_with fail
      refine (HKA.out _).mono ?_; rintro e w1 ⟨rfl, hb1⟩
      have HB1 := Lib.hid hb1
      clear hb1
      go_wp2_with fail
      refine (HKB.out _).mono ?_; rintro e w2 ⟨rfl, hb2⟩
      have HB2 := Lib.hid (HB1.out.trans (hb2.mono HB1.out.size))
      clear hb2
      go_wp2_with fail
      refine (HKA.out _).mono ?_; rintro e w3 ⟨rfl, hb3⟩
      have HB3 := Lib.hid (HB2.out.trans (hb3.mono HB2.out.size))
      clear hb3
      go_wp2_with fail
      refine (HKB.out _).mono ?_; rintro e w4 ⟨rfl, hb4⟩
      have HB4 := Lib.hid (HB3.out.trans (hb4.mono HB3.out.size))
      clear hb4
      go_wp2_with fail
      go_ret
      exact ⟨rfl, HB4.out⟩
    · have hk2 : kindZ b ≠ 3 := fun h => h2 (kind3.1 h)
      have HLA := Lib.hid (fun w => rbelow_any a w ha)
      have HLB := Lib.hid (fun w => rbelow_any b w hb)
      rw [below_num h1] at HLA
      rw [below_num h2] at HLB
      have hok := order_key ha hb h1 h2
      have ho := order_lt ha hb h1 h2
      have hka : (kindZ a == 3) = false := by simpa using hk1
      have hkb : (kindZ b == 3) = false := by simpa using hk2
      generalize kindZ a = ka at *
      generalize kindZ b = kb at *
      by_cases h3 : sk a = sk b
      · rw [cmp_same h3] at ho
        rw [show decide (keyN a = keyN b) = (decide (S63 ≤ a) == decide (S63 ≤ b)) from by rw [Bool.eq_iff_iff]; simp; exact ((hok.2.2 h3).2)]
        generalize decide (S63 ≤ a) = sa at *
        generalize decide (S63 ≤ b) = sb' at *
        clear hk1 hk2 h1 h2 ha hb hok h3
        go_enter Try.func51, Try.ntmps51
        go_wp2_with fail
        refine (HKA.out _).mono ?_; rintro e w1 ⟨rfl, hb1⟩
        have HB1 := Lib.hid hb1
        clear hb1
        go_wp2_with fail
        refine (HKB.out _).mono ?_; rintro e w2 ⟨rfl, hb2⟩
        have HB2 := Lib.hid (HB1.out.trans (hb2.mono HB1.out.size))
        clear hb2
        go_wp2_with fail
        refine (HLA.out _).mono ?_; rintro e w3 ⟨rfl, rfl⟩
        go_wp2_with fail
        refine (HLB.out _).mono ?_; rintro e w3 ⟨rfl, rfl⟩
        go_wp2_with fail
        go_ret
        exact ⟨rfl, HB2.out⟩
      · have ho2 : (FloatKind.f64.format.order a b == some .eq) = false := by
          rw [ho]
          rcases Int.lt_or_gt_of_ne h3 with h4 | h4
          · rw [cmp_lt h4]; rfl
          · rw [cmp_gt h4]; rfl
        rw [show decide (keyN a = keyN b) = false from by
          rcases Int.lt_or_gt_of_ne h3 with h4 | h4
          · have := hok.1 h4; simp; omega
          · have := hok.2.1 h4; simp; omega]
        clear hk1 hk2 h1 h2 ha hb hok h3 ho
        go_enter Try.func51, Try.ntmps51
        go_wp2_with fail
        refine (HKA.out _).mono ?_; rintro e w1 ⟨rfl, hb1⟩
        have HB1 := Lib.hid hb1
        clear hb1
        go_wp2_with fail
        refine (HKB.out _).mono ?_; rintro e w2 ⟨rfl, hb2⟩
        have HB2 := Lib.hid (HB1.out.trans (hb2.mono HB1.out.size))
        clear hb2
        go_wp2_with fail
        go_ret
        exact ⟨rfl, HB2.out⟩
end Go.Proofs.Ytnbhcemgoifkgaa
