/- Plain lemmas on squares and powers. No conditions but those stated. -/
import Derived.WalkKit
namespace Go.Proofs.Ytflhmbbkmpdogaa
theorem root_step (lo hi : Int) (h0 : 0 ≤ lo) (h2 : hi ≤ 3037000500) (h3 : 1 < hi - lo) :
    lo < lo + (hi - lo) / 2 ∧ lo + (hi - lo) / 2 < hi ∧ 0 ≤ (lo + (hi - lo) / 2) * (lo + (hi - lo) / 2) ∧ (lo + (hi - lo) / 2) * (lo + (hi - lo) / 2) ≤ 9223372030926249001 := by
  have a1 : lo < lo + (hi - lo) / 2 := by omega
  have a2 : lo + (hi - lo) / 2 < hi := by omega
  have a3 : lo + (hi - lo) / 2 ≤ 3037000499 := by omega
  refine ⟨a1, a2, ?_, ?_⟩
  · exact Int.mul_nonneg (by omega) (by omega)
  · have := Int.mul_le_mul a3 a3 (by omega) (by omega)
    omega
theorem root_top (a : Int) (h2 : a ≤ 9223372036854775807) : a < 3037000500 * 3037000500 := by omega
theorem root_end (lo hi a : Int) (h1 : lo < hi) (h3 : ¬ (1 < hi - lo)) (h4 : a < hi * hi) : a < (lo + 1) * (lo + 1) := by
  have : hi = lo + 1 := by omega
  subst this; exact h4

theorem pow_natAbs (a : Int) (k : Nat) : (a ^ k).natAbs = a.natAbs ^ k := Int.natAbs_pow a k
theorem pow_big (a : Int) (k n : Nat) (ha : 2 ≤ a.natAbs) (hk : k < n) (h : 9223372036854775808 ≤ (a ^ k).natAbs) : 18446744073709551616 ≤ (a ^ n).natAbs := by
  rw [Int.natAbs_pow] at *
  have h1 : a.natAbs ^ (k + 1) ≤ a.natAbs ^ n := Nat.pow_le_pow_right (by omega) (by omega)
  have h2 : a.natAbs ^ k * 2 ≤ a.natAbs ^ k * a.natAbs := Nat.mul_le_mul_left _ ha
  rw [Nat.pow_succ] at h1
  omega
theorem pow_64 (a : Int) (n : Nat) (ha : 2 ≤ a.natAbs) (hk : 63 < n) : 18446744073709551616 ≤ (a ^ n).natAbs := by
  rw [Int.natAbs_pow]
  have h1 : 2 ^ n ≤ a.natAbs ^ n := Nat.pow_le_pow_left ha n
  have h2 : 2 ^ 64 ≤ 2 ^ n := Nat.pow_le_pow_right (by omega) (by omega)
  omega
theorem pow_zero_case (n : Nat) (h : 0 < n) : (0 : Int) ^ n = 0 := Int.zero_pow (by omega)
theorem pow_m1_even (n : Nat) (h : n % 2 = 0) : (-1 : Int) ^ n = 1 := by
  have : n = 2 * (n / 2) := by omega
  rw [this, Int.pow_mul]; simp [Int.one_pow]
theorem pow_m1_odd (n : Nat) (h : n % 2 = 1) : (-1 : Int) ^ n = -1 := by
  have : n = 2 * (n / 2) + 1 := by omega
  rw [this, Int.pow_succ, Int.pow_mul]; simp [Int.one_pow]
end Go.Proofs.Ytflhmbbkmpdogaa
