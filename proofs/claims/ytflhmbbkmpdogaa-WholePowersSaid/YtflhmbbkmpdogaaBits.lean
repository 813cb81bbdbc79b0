/- Plain lemmas on the bits of 64-bit integers. No conditions. -/
import Derived.WalkKit
namespace Go.Proofs.Ytflhmbbkmpdogaa
open Go.RowKit
theorem bits_and_i64 (a b : Int) : bits .and .i64 a b = IntKind.i64.wrap ((((a % 18446744073709551616).toNat &&& (b % 18446744073709551616).toNat) : Nat) : Int) := by
  show IntKind.i64.wrap ((BitVec.ofInt 64 a &&& BitVec.ofInt 64 b).toNat : Int) = _
  rw [BitVec.toNat_and, BitVec.toNat_ofInt, BitVec.toNat_ofInt]
  rfl
theorem nat_and_par (x y : Nat) : (x &&& y) % 2 = (x % 2) * (y % 2) := by
  have h := Nat.and_mod_two_pow (a := x) (b := y) (n := 1)
  simp only [Nat.pow_one] at h
  rw [h]
  rcases Nat.mod_two_eq_zero_or_one x with h1 | h1 <;> rcases Nat.mod_two_eq_zero_or_one y with h2 | h2 <;> rw [h1, h2] <;> decide
theorem i64_and_one (n : Int) : bits .and .i64 n 1 = n % 2 := by
  rw [bits_and_i64, show ((1 : Int) % 18446744073709551616).toNat = 1 from by decide, Nat.and_one_is_mod, IntKind.wrap_i64]
  omega
theorem wrap_par (n : Int) : (IntKind.i64.wrap n) % 2 = n % 2 := by rw [IntKind.wrap_i64]; omega
theorem toNat_par (a : Int) : (a % 18446744073709551616).toNat % 2 = (a % 2).toNat := by omega
theorem i64_and_par (a b : Int) : bits .and .i64 (bits .and .i64 a b) 1 = (a % 2) * (b % 2) := by
  rw [i64_and_one, bits_and_i64, wrap_par]
  have h := nat_and_par (a % 18446744073709551616).toNat (b % 18446744073709551616).toNat
  rw [toNat_par, toNat_par] at h
  generalize ((a % 18446744073709551616).toNat &&& (b % 18446744073709551616).toNat) = z at h
  have h3 : ((z % 2 : Nat) : Int) = (a % 2) * (b % 2) := by
    rw [h, Int.natCast_mul, Int.toNat_of_nonneg (by omega), Int.toNat_of_nonneg (by omega)]
  rw [← h3]; omega
theorem half_p (a b : Int) : (a % 2) * (b % 2) = (a + b) / 2 - (a / 2 + b / 2) := by
  rcases Int.emod_two_eq a with e | e <;> rcases Int.emod_two_eq b with f | f <;> rw [e, f]
  · rw [Int.zero_mul]; omega
  · rw [Int.zero_mul]; omega
  · rw [Int.mul_zero]; omega
  · rw [Int.one_mul]; omega
theorem half_q (a b p : Int) (hp : p = (a + b) / 2 - (a / 2 + b / 2)) (h1 : -9223372036854775808 ≤ a) (h2 : a ≤ 9223372036854775807) (h3 : -9223372036854775808 ≤ b) (h4 : b ≤ 9223372036854775807) :
    wrap64 (a / 2 + b / 2 + p) = (a + b) / 2 := by
  rw [IntWalk.wrap64_in _ (by omega)]
  omega
theorem half_eq (a b : Int) (h1 : -9223372036854775808 ≤ a) (h2 : a ≤ 9223372036854775807) (h3 : -9223372036854775808 ≤ b) (h4 : b ≤ 9223372036854775807) :
    wrap64 (a / 2 + b / 2 + bits .and .i64 (bits .and .i64 a b) 1) = (a + b) / 2 :=
  half_q a b _ ((i64_and_par a b).trans (half_p a b)) h1 h2 h3 h4
end Go.Proofs.Ytflhmbbkmpdogaa
