/- Plain theory of 64-bit floating point: products with powers of two, halves, whole numbers as floats and back. No conditions. -/
import Derived.Test.YtkojcamlllenkaaDoorMFloA
import Derived.Test.YtkojcamlllenkaaDoorMNatB
import Derived.Deep.DeepCutAuto
namespace Go.Proofs.YtkojcamlllenkaaDoor
open Go.RowKit Ieee

theorem unit_iv (q : Nat) : Unit (iv q) 1 (sh q) := by
 refine ⟨by decide, ?_, ?_⟩
 ·rw [Nat.one_mul, Nat.pow_add, Nat.mul_comm]
  exact Nat.mul_lt_mul_of_pos_right (Nat.lt_of_lt_of_le (mg_lt q) (by decide)) (Nat.two_pow_pos _)
 ·rcases Nat.eq_zero_or_pos (sh q) with h | h
  ·exact .inl h
  ·right
   rw [Nat.one_mul, Nat.pow_add, Nat.mul_comm]
   exact Nat.mul_le_mul_right _ (mg_ge (.inl (by omega)))
theorem rne_iv (q : Nat) : sh q * B52 + rne (iv q) (1 * 2 ^ sh q) = q := by
 rw [Nat.one_mul]
 unfold iv
 rw [rne_mul (Nat.two_pow_pos _)]
 exact rung_eq q
/-- a number that a rung has, rounded -/
theorem nearest_iv {q mag a b : Nat} {place : Int} (neg : Bool) (hm : 0 < mag) (hp : place + 1074 = (a : Int) - (b : Int)) (hv : mag * 2 ^ a = iv q * 2 ^ b) :
  double.nearest neg mag place = double.word neg (min q INF) := by
 rw [nearest_of neg (unit_iv q) hm hp (by rw [Nat.mul_one]; exact hv), rne_iv]
theorem word_eq (b : Nat) (hb : b < 18446744073709551616) (q : Nat) : double.word (decide (S63 ≤ b)) q = b / S63 * S63 + q := by
 unfold S63 at *
 by_cases h : 9223372036854775808 ≤ b
 ·rw [show decide (9223372036854775808 ≤ b) = true from by simpa using h]
  have : b / 9223372036854775808 = 1 := by omega
  rw [this]; rfl
 ·rw [show decide (9223372036854775808 ≤ b) = false from by simpa using h]
  have : b / 9223372036854775808 = 0 := by omega
  rw [this]
  show q = _
  omega
/-- a product with a power of two -/
theorem mul_pow2 {b pw x y N D t : Nat} (hb : b < 18446744073709551616) (h : b % S63 < INF) (h0 : 0 < b % S63) (hp : double.read pw = .number false B52 ((x : Int) - (y : Int) - 52)) (hu : Unit N D t) (hv : iv (b % S63) * 2 ^ x * D = N * 2 ^ y) :
    floatBits .mul .f64 b pw = some (b / S63 * S63 + min (t * B52 + rne N (D * 2 ^ t)) INF) := by
  show ((double.read b).product (double.read pw)).map double.write = _
  rw [read_fin hb h, hp]
  have hm : 0 < mg (b % S63) := by
    rcases Nat.eq_zero_or_pos (mg (b % S63)) with h1 | h1
    · have := iv_pos h0; unfold iv at this; rw [h1, Nat.zero_mul] at this; omega
    · exact h1
  unfold Datum.product
  simp only [Option.map_some, Bool.xor_false]
  congr 1
  show double.nearest _ _ _ = _
  rw [nearest_of (a := sh (b % S63) + x) (b := y + 52) _ hu (Nat.mul_pos hm (by decide)) (by omega) ?_, word_eq b hb]
  have e : iv (b % S63) = mg (b % S63) * 2 ^ sh (b % S63) := rfl
  calc mg (b % S63) * B52 * 2 ^ (sh (b % S63) + x) * D = (mg (b % S63) * 2 ^ sh (b % S63)) * 2 ^ x * D * B52 := by rw [Nat.pow_add]; ac_rfl
    _ = N * 2 ^ y * B52 := by rw [← e, hv]
    _ = N * 2 ^ (y + 52) := by rw [Nat.pow_add]; show N * 2 ^ y * 2 ^ 52 = _; ac_rfl
theorem read_two : double.read 4611686018427387904 = .number false B52 (((1 : Nat) : Int) - ((0 : Nat) : Int) - 52) := by decide
/-- twice a number -/
theorem mul_two {b q : Nat} (hb : b < 18446744073709551616) (h : b % S63 < INF) (h0 : 0 < b % S63) (hq : iv q = 2 * iv (b % S63)) : floatBits .mul .f64 b 4611686018427387904 = some (b / S63 * S63 + min q INF) := by
 rw [mul_pow2 hb h h0 read_two (unit_iv q) (by rw [hq, Nat.pow_zero, Nat.pow_one]; omega), rne_iv]
/-- half a number -/
theorem div_two {b q : Nat} (hb : b < 18446744073709551616) (h : b % S63 < INF) (h0 : 0 < b % S63) (hq : iv (b % S63) = 2 * iv q) (hqi : q < INF) : floatBits .quo .f64 b 4611686018427387904 = some (b / S63 * S63 + q) := by
  show ((double.read b).quotient 54 (double.read 4611686018427387904)).map double.write = _
  rw [read_fin hb h, show double.read 4611686018427387904 = .number false B52 (-51) from by decide]
  have hm : 0 < mg (b % S63) := by
    rcases Nat.eq_zero_or_pos (mg (b % S63)) with h1 | h1
    · have := iv_pos h0; unfold iv at this; rw [h1, Nat.zero_mul] at this; omega
    · exact h1
  have e : iv (b % S63) = mg (b % S63) * 2 ^ sh (b % S63) := rfl
  have hml := mg_lt (b % S63)
  generalize mg (b % S63) = m at *
  generalize sh (b % S63) = s at *
  unfold Datum.quotient
  simp only
  rw [if_neg (by decide)]
  simp only [Option.map_some, Bool.xor_false]
  congr 1
  have hlog : m.log2 < 53 := by
    have h1 : 2 ^ m.log2 ≤ m := Nat.log2_self_le (by omega)
    have h2 : (2 : Nat) ^ m.log2 < 2 ^ 53 := Nat.lt_of_le_of_lt h1 (Nat.lt_of_lt_of_le hml (by decide))
    exact two_pow_lt h2
  have hb52 : Nat.log2 B52 = 52 := by decide
  rw [hb52]
  obtain ⟨k, hk⟩ : ∃ k, 54 + 52 - m.log2 = 52 + k := ⟨54 - m.log2, by omega⟩
  rw [hk, Nat.shiftLeft_eq, Nat.pow_add, Nat.mul_left_comm]
  have hB : (2 : Nat) ^ 52 = B52 := by decide
  rw [hB, Nat.mul_div_cancel_left _ (by decide), Nat.mul_mod_right]
  show double.nearest _ _ _ = _
  rw [nearest_iv (q := q) (a := s) (b := 1 + k + 1) _ ?_ (by omega) ?_, word_eq b hb, Nat.min_eq_left (by omega)]
  · have := Nat.mul_pos hm (Nat.two_pow_pos k)
    simp
    omega
  · have e2 : m * 2 ^ s = 2 * iv q := by rw [← e, hq]
    have hz : (0 != 0 : Bool).toNat = 0 := rfl
    rw [hz, Nat.add_zero]
    calc 2 * (m * 2 ^ k) * 2 ^ s = (m * 2 ^ s) * (2 * 2 ^ k) := by ac_rfl
      _ = iv q * 2 ^ (1 + k + 1) := by rw [e2, Nat.pow_succ, Nat.pow_add, Nat.pow_one]; ac_rfl
/-- every number of 53 bits times a power of two has a rung -/
theorem rung_ex : ∀ (k u : Nat), u ≤ 2 * B52 → ∃ q, iv q = u * 2 ^ k
 | 0, u, h => ⟨0 * B52 + u, rung_of h (.inl rfl)⟩
 | k + 1, u, h => by
  rcases Nat.lt_or_ge u B52 with h1 | h1
  ·obtain ⟨q, hq⟩ := rung_ex k (2 * u) (by omega)
   exact ⟨q, by rw [hq, Nat.pow_succ]; ac_rfl⟩
  ·exact ⟨(k + 1) * B52 + u, rung_of h (.inr h1)⟩
theorem iv_le_of {r s : Nat} (h : iv r ≤ iv s) : r ≤ s := by
 rcases Nat.lt_or_ge s r with h1 | h1
 ·have := iv_lt h1; omega
 ·exact h1
theorem iv_lt_of {r s : Nat} (h : iv r < iv s) : r < s := by
 rcases Nat.lt_or_ge r s with h1 | h1
 ·exact h1
 ·have := iv_le h1; omega
def K2046 : Nat := 2046
theorem iv_inf : iv INF = B52 * 2 ^ K2046 := by
 have h := rung_of (m := B52) (t := K2046) (by decide) (.inr (Nat.le_refl _))
 rw [show K2046 * B52 + B52 = INF from by decide] at h
 exact h
/-- the units of one, as a power of two -/
def K1074 : Nat := 1074
/-- a whole number as a float -/
theorem int_float {n q : Nat} (hn : 0 < n) (hq : iv q = n * 2 ^ K1074) (hqi : q < INF) : floatOfInt .f64 (n : Int) = q := by
 show double.nearest (decide ((n : Int) < 0)) (Int.natAbs (n : Int)) 0 = q
 rw [show decide ((n : Int) < 0) = false from by simp, Int.natAbs_natCast, nearest_iv (q := q) (a := K1074) (b := 0) false hn (by unfold K1074; omega) (by rw [hq, Nat.pow_zero, Nat.mul_one]), Nat.min_eq_left (by omega)]
 rfl
theorem int_float0 : floatOfInt .f64 0 = 0 := by decide
/-- the whole part of a float -/
theorem float_int {r : Nat} (h : r < INF) {u : Nat} (hu : iv r / 2 ^ K1074 = u) (hv : u < 18446744073709551616) : floatToIntVal .f64 r .u64 = some ((u : Nat) : Int) := by
 have hr : r < 18446744073709551616 := by unfold INF at h; omega
 have hrm : r % S63 = r := Nat.mod_eq_of_lt (by unfold S63; unfold INF at h; omega)
 have hd : decide (S63 ≤ r) = false := by unfold S63; unfold INF at h; simp; omega
 have ht : (FloatKind.decode .f64 r).toInt .zero = some ((u : Nat) : Int) := by
  show (double.read r).toInt .zero = _
  rw [read_fin hr (by rw [hrm]; exact h), hrm, hd]
  unfold Datum.toInt Datum.integral
  simp only
  rw [signed_eq, Nat.pow_zero, Nat.mul_one]
  congr 1
  show ((Toward.zero.cut false (mg r <<< (-1074 + (sh r : Int)).toNat) (-(-1074 + (sh r : Int))).toNat : Nat) : Int) = _
  congr 1
  have hcut : ∀ n d : Nat, Toward.zero.cut false n d = n / 2 ^ d := by
   intro n d
   unfold Toward.cut
   have hlog : n < 2 ^ (n.log2 + 1) := Nat.lt_log2_self
   simp only [Nat.one_shiftLeft]
   show n / 2 ^ min d (n.log2 + 2) + 0 = _
   rw [Nat.add_zero]
   rcases Nat.lt_or_ge (n.log2 + 2) d with h1 | h1
   ·rw [Nat.min_eq_right (by omega)]
    have hp : 2 ^ (n.log2 + 2) = 2 * 2 ^ (n.log2 + 1) := by rw [Nat.pow_succ]; omega
    have hq : 2 ^ (n.log2 + 2) ≤ 2 ^ d := Nat.pow_le_pow_right (by decide) (by omega)
    rw [Nat.div_eq_of_lt (by omega), Nat.div_eq_of_lt (by omega)]
   ·rw [Nat.min_eq_left h1]
  rw [hcut, Nat.shiftLeft_eq, ← hu]
  unfold iv
  rcases Nat.lt_or_ge (sh r) 1074 with h1 | h1
  ·rw [show (-1074 + (sh r : Int)).toNat = 0 from by omega, show (-(-1074 + (sh r : Int))).toNat = 1074 - sh r from by omega, Nat.pow_zero, Nat.mul_one]
   have e : (2 : Nat) ^ K1074 = 2 ^ (1074 - sh r) * 2 ^ sh r := by rw [← Nat.pow_add]; congr 1; unfold K1074; omega
   rw [e, Nat.mul_div_mul_right _ _ (Nat.two_pow_pos _)]
  ·rw [show (-1074 + (sh r : Int)).toNat = sh r - 1074 from by omega, show (-(-1074 + (sh r : Int))).toNat = 0 from by omega, Nat.pow_zero, Nat.div_one]
   have e : (2 : Nat) ^ sh r = 2 ^ (sh r - 1074) * 2 ^ K1074 := by rw [← Nat.pow_add]; congr 1; unfold K1074; omega
   rw [e, ← Nat.mul_assoc, Nat.mul_div_cancel _ (Nat.two_pow_pos _)]
 unfold floatToIntVal
 rw [ht]
 simp only
 rw [if_pos]
 constructor
 ·show (0 : Int) ≤ _
  omega
 ·show _ ≤ (18446744073709551615 : Int)
  omega
end Go.Proofs.YtkojcamlllenkaaDoor
/- Contract of math's Ldexp. Conditions: a normal positive number; the result is exact, or infinite. -/
namespace Go.Proofs.YtkojcamlllenkaaDoor
open Go.RowKit Ieee

end Go.Proofs.YtkojcamlllenkaaDoor
/- Contract of math's Ldexp of a whole number; plain theory of the rounding in package flo's Join. Conditions: at most 2^53; the place is one of the format's. -/
namespace Go.Proofs.YtkojcamlllenkaaDoor
open Go.RowKit Ieee

/-- the rung nearest to X 2^e -/
def nearN (X : Nat) (e : Int) : Nat := double.nearest false X e
end Go.Proofs.YtkojcamlllenkaaDoor
/- Contracts of package flo's bit and Join. Conditions: at most 150 words; an int64 place. -/
namespace Go.Proofs.YtkojcamlllenkaaDoor
open Go.RowKit Ieee

/-- the word of X 2^e, with a sign -/
def joinN (neg : Bool) (X : Nat) (e : Int) : Nat := if neg then S63 + nearN X e else nearN X e
end Go.Proofs.YtkojcamlllenkaaDoor
/- Contract of package flo's Join. Conditions: at most 150 words; an int64 place. -/
namespace Go.Proofs.YtkojcamlllenkaaDoor
open Go.RowKit Ieee

end Go.Proofs.YtkojcamlllenkaaDoor
