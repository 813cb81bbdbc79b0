/- Contracts of package flo's Kind and of package bushelref03's Kind, Below, Sign; math's Inf, NaN, Copysign. Conditions: words below 2^64. -/
import Derived.Test.YtnbhcemgoifkgaaFloC
namespace Go.Proofs.Ytnbhcemgoifkgaa
open Go.RowKit Ieee

/-- nought 0, finite 1, infinite 2, none 3 -/
def kindZ (b : Nat) : Int := if INF < b % S63 then 3 else if b % S63 = INF then 2 else if b % S63 = 0 then 0 else 1
theorem order_self {b : Nat} (hb : b < 18446744073709551616) : FloatKind.f64.format.order b b = if INF < b % S63 then none else some .eq := by
  show double.order b b = _
  by_cases h : INF < b % S63
  · rw [if_pos h]; exact order_nan (.inl h)
  · rw [if_neg h, order_num hb hb (by omega) (by omega), cmp_same rfl]
theorem order_zero {b : Nat} (hb : b < 18446744073709551616) (h : ¬ INF < b % S63) : FloatKind.f64.format.order b 0 = some (if b % S63 = 0 then .eq else if S63 ≤ b then .lt else .gt) := by
  show double.order b 0 = _
  rw [order_num hb (by decide) (by omega) (by decide)]
  congr 1
  have h0 : sk 0 = 0 := by decide
  rw [h0]
  unfold sk sg
  by_cases h1 : b % S63 = 0
  · rw [if_pos h1, h1]
    exact cmp_same (by split <;> rfl)
  · rw [if_neg h1]
    by_cases h2 : S63 ≤ b
    · rw [if_pos h2, if_pos (by simpa using h2)]
      exact cmp_lt (by omega)
    · rw [if_neg h2, if_neg (by simpa using h2)]
      exact cmp_gt (by omega)

set_option maxHeartbeats 400000 in
theorem fkind_any (b : Nat) (w : World) (hb : b < 18446744073709551616) : Calls Try.prog 48 #[.float .f64 b] w fun e w' => e = .returned (.int .i64 (kindZ b)) ∧ w = w' := by
  have hi := isinf_any b w hb
  have hs := order_self hb
  unfold kindZ
  by_cases h1 : INF < b % S63
  · rw [if_pos h1] at hs ⊢
    clear hi h1 hb
    go_enter Try.func48, Try.ntmps48
    go_wp2_with fail
    go_ret
    exact ⟨rfl, rfl⟩
  · have hz := order_zero hb h1
    rw [if_neg h1] at hs ⊢
    by_cases h2 : b % S63 = INF
    · rw [if_pos h2]
      rw [show decide (b % S63 = INF) = true from by simpa using h2] at hi
      have HI := Lib.hid hi
      clear hi h1 h2 hz hb
      go_enter Try.func48, Try.ntmps48
      go_wp2_with fail
      refine HI.out.mono ?_; rintro e w1 ⟨rfl, rfl⟩
      go_wp2_with fail
      go_ret
      exact ⟨rfl, rfl⟩
    · rw [if_neg h2]
      rw [show decide (b % S63 = INF) = false from by simpa using h2] at hi
      have HI := Lib.hid hi
      clear hi h2
      by_cases h3 : b % S63 = 0
      · rw [if_pos h3] at hz ⊢
        clear h3 h1 hb
        go_enter Try.func48, Try.ntmps48
        go_wp2_with fail
        refine HI.out.mono ?_; rintro e w1 ⟨rfl, rfl⟩
        go_wp2_with fail
        go_ret
        exact ⟨rfl, rfl⟩
      · rw [if_neg h3] at hz ⊢
        have hz2 : (FloatKind.f64.format.order b 0 == some .eq) = false := by rw [hz]; split <;> rfl
        clear h3 h1 hb hz
        go_enter Try.func48, Try.ntmps48
        go_wp2_with fail
        refine HI.out.mono ?_; rintro e w1 ⟨rfl, rfl⟩
        go_wp2_with fail
        go_ret
        exact ⟨rfl, rfl⟩

theorem sub_self_fin {b : Nat} (hb : b < 18446744073709551616) (h : b % S63 < INF) : floatBits .sub .f64 b b = some 0 := by
  show ((double.read b).sum (double.read b).opposite).map double.write = some 0
  rw [read_fin hb h]
  unfold Datum.opposite Datum.sum
  simp only
  have e : ∀ (s : Bool) (m k : Nat), Ieee.signed s m k + Ieee.signed (!s) m k = 0 := by
    intro s m k
    rw [signed_eq, signed_eq]
    generalize m * 2 ^ k = N
    unfold sg
    cases s <;> simp <;> omega
  rw [e]
  simp only [if_true, Int.natAbs_zero, Option.map_some]
  cases decide (S63 ≤ b) <;> rfl
theorem sub_self_inf {b : Nat} (hb : b < 18446744073709551616) (h : b % S63 = INF) : floatBits .sub .f64 b b = none := by
  show ((double.read b).sum (double.read b).opposite).map double.write = none
  rw [read_inf hb h]
  cases decide (S63 ≤ b) <;> rfl

set_option maxHeartbeats 400000 in
theorem rkind_any (b : Nat) (w : World) (hb : b < 18446744073709551616) : Calls Try.prog 49 #[.float .f64 b] w fun e w' => e = .returned (.int .i64 (kindZ b)) ∧ Below w.heap.size w w' := by
  have hs := order_self hb
  unfold kindZ
  by_cases h1 : INF < b % S63
  · rw [if_pos h1] at hs ⊢
    clear h1 hb
    go_enter Try.func49, Try.ntmps49
    go_wp2_with fail
    go_ret
    exact ⟨rfl, Below.refl _ _⟩
  · have hz := order_zero hb h1
    rw [if_neg h1] at hs ⊢
    by_cases h3 : b % S63 = 0
    · have h4 : ¬ b % S63 = INF := by rw [h3]; decide
      rw [if_neg h4, if_pos h3]
      rw [if_pos h3] at hz
      clear h3 h4 h1 hb
      go_enter Try.func49, Try.ntmps49
      go_wp2_with fail
      go_ret
      exact ⟨rfl, Below.refl _ _⟩
    · rw [if_neg h3] at hz
      have hz2 : (FloatKind.f64.format.order b 0 == some .eq) = false := by rw [hz]; split <;> rfl
      by_cases h2 : b % S63 = INF
      · rw [if_pos h2]
        obtain ⟨r, hr0, hr1, hrun⟩ := run_float_nan .sub 64 b b (sub_self_inf hb h2) (by simp) w
        have hrz : FloatKind.f64.format.order r 0 = none := order_nan (.inl hr1)
        clear h3 h1 h2 hb hz hr0 hr1
        go_enter Try.func49, Try.ntmps49
        go_wp2_with fail
        go_ret
        exact ⟨rfl, (Below.refl _ _).drew⟩
      · rw [if_neg h2, if_neg h3]
        have hrun := run_float_arith (P := Try.prog) w .sub 64 .f64 b b 0 (sub_self_fin hb (by omega))
        have hrz : FloatKind.f64.format.order 0 0 = some .eq := by decide
        clear h3 h1 h2 hb hz
        go_enter Try.func49, Try.ntmps49
        go_wp2_with fail
        go_ret
        exact ⟨rfl, Below.refl _ _⟩

/-- has a number a minus? -/
def belowB (b : Nat) : Bool := decide (S63 ≤ b) && decide (b % S63 ≤ INF)
theorem quo_zero {b : Nat} (hb : b < 18446744073709551616) (h : b % S63 = 0) : floatBits .quo .f64 4607182418800017408 b = some (if S63 ≤ b then S63 + INF else INF) := by
  have hz : b = 0 ∨ b = S63 := by unfold S63 at *; omega
  rcases hz with rfl | rfl <;> decide

set_option maxHeartbeats 400000 in
theorem rbelow_any (b : Nat) (w : World) (hb : b < 18446744073709551616) : Calls Try.prog 77 #[.float .f64 b] w fun e w' => e = .returned (.bool (belowB b)) ∧ w = w' := by
  by_cases h1 : INF < b % S63
  · have ho : FloatKind.f64.format.order b 0 = none := order_nan (.inl h1)
    have hv : belowB b = false := by unfold belowB; simp; intro _; omega
    rw [hv]
    clear h1 hb hv
    go_enter Try.func77, Try.ntmps77
    go_wp2_with fail
    go_ret
    exact ⟨rfl, rfl⟩
  · have hz := order_zero hb h1
    have hle : decide (b % S63 ≤ INF) = true := by simpa using Nat.le_of_not_lt h1
    have hv : belowB b = decide (S63 ≤ b) := by unfold belowB; rw [hle, Bool.and_true]
    rw [hv]
    by_cases h3 : b % S63 = 0
    · rw [if_pos h3] at hz
      have hq := run_float_arith (P := Try.prog) w .quo 64 .f64 4607182418800017408 b _ (quo_zero hb h3)
      by_cases h4 : S63 ≤ b
      · rw [if_pos h4] at hq
        have ho2 : FloatKind.f64.format.order (S63 + INF) 0 = some .lt := by decide
        rw [show decide (S63 ≤ b) = true from by simpa using h4]
        generalize S63 + INF = q at *
        clear h1 h3 h4 hb hle hv
        go_enter Try.func77, Try.ntmps77
        go_wp2_with fail
        go_ret
        exact ⟨rfl, rfl⟩
      · rw [if_neg h4] at hq
        have ho2 : FloatKind.f64.format.order INF 0 = some .gt := by decide
        rw [show decide (S63 ≤ b) = false from by simpa using h4]
        generalize INF = q at *
        clear h1 h3 h4 hb hle hv
        go_enter Try.func77, Try.ntmps77
        go_wp2_with fail
        go_ret
        exact ⟨rfl, rfl⟩
    · rw [if_neg h3] at hz
      by_cases h4 : S63 ≤ b
      · rw [if_pos h4] at hz
        rw [show decide (S63 ≤ b) = true from by simpa using h4]
        clear h1 h3 h4 hb hle hv
        go_enter Try.func77, Try.ntmps77
        go_wp2_with fail
        go_ret
        exact ⟨rfl, rfl⟩
      · rw [if_neg h4] at hz
        rw [show decide (S63 ≤ b) = false from by simpa using h4]
        clear h1 h3 h4 hb hle hv
        go_enter Try.func77, Try.ntmps77
        go_wp2_with fail
        go_ret
        exact ⟨rfl, rfl⟩

theorem copysign_any (f s : Nat) (w : World) (hf : f < 18446744073709551616) (hs : s < 18446744073709551616) : Calls Try.prog 92 #[.float .f64 f, .float .f64 s] w fun e w' => e = .returned (.float .f64 (s / S63 * S63 + f % S63)) ∧ w = w' := by
  have h1 := f64bits f
  have h1' := f64bits s
  have h2 := andNot_63 hf
  have h3 := and_63 hs
  have h4 : bits .or .u64 ((f % 9223372036854775808 : Nat) : Int) ((s / 9223372036854775808 * 9223372036854775808 : Nat) : Int) = ((s / 9223372036854775808 * 9223372036854775808 + f % 9223372036854775808 : Nat) : Int) := by
    rw [or_comm64 (by omega) (by omega)]
    exact or_split (n := 63) (by omega) (by omega) (by omega) (by omega)
  have h5 := fun w => f64from ((s / 9223372036854775808 * 9223372036854775808 + f % 9223372036854775808 : Nat) : Int) w
  rw [Int.toNat_natCast] at h5
  show Calls _ _ _ _ fun e w' => e = .returned (.float .f64 (s / 9223372036854775808 * 9223372036854775808 + f % 9223372036854775808)) ∧ w = w'
  generalize s / 9223372036854775808 * 9223372036854775808 + f % 9223372036854775808 = r at *
  generalize s / 9223372036854775808 * 9223372036854775808 = q at *
  generalize f % 9223372036854775808 = m at *
  clear hf hs
  go_enter Try.func92, Try.ntmps92
  go_wp2_with fail
  go_ret
  exact ⟨rfl, rfl⟩
theorem inf_any (s : Int) (w : World) : Calls Try.prog 81 #[.int .i64 s] w fun e w' => e = .returned (.float .f64 (if 0 ≤ s then INF else S63 + INF)) ∧ w = w' := by
  by_cases h : 0 ≤ s
  · rw [if_pos h]
    have h5 := fun w => f64from 9218868437227405312 w
    rw [show (9218868437227405312 : Int).toNat = INF from rfl] at h5
    generalize INF = q at *
    go_enter Try.func81, Try.ntmps81
    go_wp2_with fail
    go_ret
    exact ⟨rfl, rfl⟩
  · rw [if_neg h]
    have h5 := fun w => f64from 18442240474082181120 w
    rw [show (18442240474082181120 : Int).toNat = S63 + INF from rfl] at h5
    generalize S63 + INF = q at *
    go_enter Try.func81, Try.ntmps81
    go_wp2_with fail
    go_ret
    exact ⟨rfl, rfl⟩
theorem nan_any (w : World) : Calls Try.prog 85 #[] w fun e w' => e = .returned (.float .f64 9221120237041090561) ∧ w = w' := by
  have h5 := fun w => f64from 9221120237041090561 w
  rw [show (9221120237041090561 : Int).toNat = 9221120237041090561 from rfl] at h5
  generalize (9221120237041090561 : Nat) = q at *
  go_enter Try.func85, Try.ntmps85
  go_wp2_with fail
  go_ret
  exact ⟨rfl, rfl⟩
theorem fsigned_any (neg : Bool) (b : Nat) (w : World) (hb : b < 18446744073709551616) : Calls Try.prog 80 #[.bool neg, .float .f64 b] w fun e w' => e = .returned (.float .f64 (if neg then S63 + b % S63 else b)) ∧ w = w' := by
  have hc := copysign_any b 13830554455654793216 w hb (by decide)
  rw [show 13830554455654793216 / S63 * S63 = S63 from by decide] at hc
  have HC := Lib.hid hc
  generalize S63 + b % S63 = q at *
  clear hb hc
  cases neg
  · go_enter Try.func80, Try.ntmps80
    go_wp2_with fail
    go_ret
    exact ⟨rfl, rfl⟩
  · go_enter Try.func80, Try.ntmps80
    go_wp2_with fail
    refine HC.out.mono ?_; rintro e w1 ⟨rfl, rfl⟩
    go_wp2_with fail
    go_ret
    exact ⟨rfl, rfl⟩
theorem rsign_any (neg : Bool) (b : Nat) (w : World) (hb : b < 18446744073709551616) : Calls Try.prog 79 #[.bool neg, .float .f64 b] w fun e w' => e = .returned (.float .f64 (if neg then flipS b else b)) ∧ w = w' := by
  have hu := unary_flip hb
  clear hb
  cases neg
  · go_enter Try.func79, Try.ntmps79
    go_wp2_with fail
    go_ret
    exact ⟨rfl, rfl⟩
  · go_enter Try.func79, Try.ntmps79
    go_wp2_with fail
    go_ret
    exact ⟨rfl, rfl⟩
end Go.Proofs.Ytnbhcemgoifkgaa
