/- Plain theory of 64-bit floating point: products with powers of two, halves, whole numbers as floats and back. No conditions. -/
import Derived.Test.YtehmompbmnejkaaGreatMFloA
import Derived.Test.YtehmompbmnejkaaGreatMNatB
import Derived.Deep.DeepCutAuto
namespace Go.Proofs.YtehmompbmnejkaaGreat
open Go.RowKit Ieee

theorem unit_iv (q : Nat) : Unit (iv q) 1 (sh q) := by
 refine ⟨by decide, ?_, ?_⟩
 ·rw [Nat.one_mul, Nat.pow_add, Nat.mul_comm]
  exact Nat.mul_lt_mul_of_pos_right (Nat.lt_of_lt_of_le (mg_lt q) (by decide)) (Nat.two_pow_pos _)
 ·rcases Nat.eq_zero_or_pos (sh q) with h | h
  ·exact .inl h
  ·right
   rw [Nat.one_mul, Nat.pow_add, Nat.mul_comm]
   exact Nat.mul_le_mul_right _ (mg_ge (.inl (by omega)))
theorem rne_iv (q : Nat) : sh q * B52 + rne (iv q) (1 * 2 ^ sh q) = q := by
 rw [Nat.one_mul]
 unfold iv
 rw [rne_mul (Nat.two_pow_pos _)]
 exact rung_eq q
/-- a number that a rung has, rounded -/
theorem nearest_iv {q mag a b : Nat} {place : Int} (neg : Bool) (hm : 0 < mag) (hp : place + 1074 = (a : Int) - (b : Int)) (hv : mag * 2 ^ a = iv q * 2 ^ b) :
  double.nearest neg mag place = double.word neg (min q INF) := by
 rw [nearest_of neg (unit_iv q) hm hp (by rw [Nat.mul_one]; exact hv), rne_iv]
theorem word_eq (b : Nat) (hb : b < 18446744073709551616) (q : Nat) : double.word (decide (S63 ≤ b)) q = b / S63 * S63 + q := by
 unfold S63 at *
 by_cases h : 9223372036854775808 ≤ b
 ·rw [show decide (9223372036854775808 ≤ b) = true from by simpa using h]
  have : b / 9223372036854775808 = 1 := by omega
  rw [this]; rfl
 ·rw [show decide (9223372036854775808 ≤ b) = false from by simpa using h]
  have : b / 9223372036854775808 = 0 := by omega
  rw [this]
  show q = _
  omega
/-- a product with a power of two -/
theorem mul_pow2 {b pw x y N D t : Nat} (hb : b < 18446744073709551616) (h : b % S63 < INF) (h0 : 0 < b % S63) (hp : double.read pw = .number false B52 ((x : Int) - (y : Int) - 52)) (hu : Unit N D t) (hv : iv (b % S63) * 2 ^ x * D = N * 2 ^ y) :
    floatBits .mul .f64 b pw = some (b / S63 * S63 + min (t * B52 + rne N (D * 2 ^ t)) INF) := by
  show ((double.read b).product (double.read pw)).map double.write = _
  rw [read_fin hb h, hp]
  have hm : 0 < mg (b % S63) := by
    rcases Nat.eq_zero_or_pos (mg (b % S63)) with h1 | h1
    · have := iv_pos h0; unfold iv at this; rw [h1, Nat.zero_mul] at this; omega
    · exact h1
  unfold Datum.product
  simp only [Option.map_some, Bool.xor_false]
  congr 1
  show double.nearest _ _ _ = _
  rw [nearest_of (a := sh (b % S63) + x) (b := y + 52) _ hu (Nat.mul_pos hm (by decide)) (by omega) ?_, word_eq b hb]
  have e : iv (b % S63) = mg (b % S63) * 2 ^ sh (b % S63) := rfl
  calc mg (b % S63) * B52 * 2 ^ (sh (b % S63) + x) * D = (mg (b % S63) * 2 ^ sh (b % S63)) * 2 ^ x * D * B52 := by rw [Nat.pow_add]; ac_rfl
    _ = N * 2 ^ y * B52 := by rw [← e, hv]
    _ = N * 2 ^ (y + 52) := by rw [Nat.pow_add]; show N * 2 ^ y * 2 ^ 52 = _; ac_rfl
theorem read_two : double.read 4611686018427387904 = .number false B52 (((1 : Nat) : Int) - ((0 : Nat) : Int) - 52) := by decide
/-- twice a number -/
theorem mul_two {b q : Nat} (hb : b < 18446744073709551616) (h : b % S63 < INF) (h0 : 0 < b % S63) (hq : iv q = 2 * iv (b % S63)) : floatBits .mul .f64 b 4611686018427387904 = some (b / S63 * S63 + min q INF) := by
 rw [mul_pow2 hb h h0 read_two (unit_iv q) (by rw [hq, Nat.pow_zero, Nat.pow_one]; omega), rne_iv]
/-- half a number -/
theorem div_two {b q : Nat} (hb : b < 18446744073709551616) (h : b % S63 < INF) (h0 : 0 < b % S63) (hq : iv (b % S63) = 2 * iv q) (hqi : q < INF) : floatBits .quo .f64 b 4611686018427387904 = some (b / S63 * S63 + q) := by
  show ((double.read b).quotient 54 (double.read 4611686018427387904)).map double.write = _
  rw [read_fin hb h, show double.read 4611686018427387904 = .number false B52 (-51) from by decide]
  have hm : 0 < mg (b % S63) := by
    rcases Nat.eq_zero_or_pos (mg (b % S63)) with h1 | h1
    · have := iv_pos h0; unfold iv at this; rw [h1, Nat.zero_mul] at this; omega
    · exact h1
  have e : iv (b % S63) = mg (b % S63) * 2 ^ sh (b % S63) := rfl
  have hml := mg_lt (b % S63)
  generalize mg (b % S63) = m at *
  generalize sh (b % S63) = s at *
  unfold Datum.quotient
  simp only
  rw [if_neg (by decide)]
  simp only [Option.map_some, Bool.xor_false]
  congr 1
  have hlog : m.log2 < 53 := by
    have h1 : 2 ^ m.log2 ≤ m := Nat.log2_self_le (by omega)
    have h2 : (2 : Nat) ^ m.log2 < 2 ^ 53 := Nat.lt_of_le_of_lt h1 (Nat.lt_of_lt_of_le hml (by decide))
    exact two_pow_lt h2
  have hb52 : Nat.log2 B52 = 52 := by decide
  rw [hb52]
  obtain ⟨k, hk⟩ : ∃ k, 54 + 52 - m.log2 = 52 + k := ⟨54 - m.log2, by omega⟩
  rw [hk, Nat.shiftLeft_eq, Nat.pow_add, Nat.mul_left_comm]
  have hB : (2 : Nat) ^ 52 = B52 := by decide
  rw [hB, Nat.mul_div_cancel_left _ (by decide), Nat.mul_mod_right]
  show double.nearest _ _ _ = _
  rw [nearest_iv (q := q) (a := s) (b := 1 + k + 1) _ ?_ (by omega) ?_, word_eq b hb, Nat.min_eq_left (by omega)]
  · have := Nat.mul_pos hm (Nat.two_pow_pos k)
    simp
    omega
  · have e2 : m * 2 ^ s = 2 * iv q := by rw [← e, hq]
    have hz : (0 != 0 : Bool).toNat = 0 := rfl
    rw [hz, Nat.add_zero]
    calc 2 * (m * 2 ^ k) * 2 ^ s = (m * 2 ^ s) * (2 * 2 ^ k) := by ac_rfl
      _ = iv q * 2 ^ (1 + k + 1) := by rw [e2, Nat.pow_succ, Nat.pow_add, Nat.pow_one]; ac_rfl
/-- every number of 53 bits times a power of two has a rung -/
theorem rung_ex : ∀ (k u : Nat), u ≤ 2 * B52 → ∃ q, iv q = u * 2 ^ k
 | 0, u, h => ⟨0 * B52 + u, rung_of h (.inl rfl)⟩
 | k + 1, u, h => by
  rcases Nat.lt_or_ge u B52 with h1 | h1
  ·obtain ⟨q, hq⟩ := rung_ex k (2 * u) (by omega)
   exact ⟨q, by rw [hq, Nat.pow_succ]; ac_rfl⟩
  ·exact ⟨(k + 1) * B52 + u, rung_of h (.inr h1)⟩
theorem iv_le_of {r s : Nat} (h : iv r ≤ iv s) : r ≤ s := by
 rcases Nat.lt_or_ge s r with h1 | h1
 ·have := iv_lt h1; omega
 ·exact h1
theorem iv_lt_of {r s : Nat} (h : iv r < iv s) : r < s := by
 rcases Nat.lt_or_ge r s with h1 | h1
 ·exact h1
 ·have := iv_le h1; omega
def K2046 : Nat := 2046
theorem iv_inf : iv INF = B52 * 2 ^ K2046 := by
 have h := rung_of (m := B52) (t := K2046) (by decide) (.inr (Nat.le_refl _))
 rw [show K2046 * B52 + B52 = INF from by decide] at h
 exact h
/-- the units of one, as a power of two -/
def K1074 : Nat := 1074
/-- a whole number as a float -/
theorem int_float {n q : Nat} (hn : 0 < n) (hq : iv q = n * 2 ^ K1074) (hqi : q < INF) : floatOfInt .f64 (n : Int) = q := by
 show double.nearest (decide ((n : Int) < 0)) (Int.natAbs (n : Int)) 0 = q
 rw [show decide ((n : Int) < 0) = false from by simp, Int.natAbs_natCast, nearest_iv (q := q) (a := K1074) (b := 0) false hn (by unfold K1074; omega) (by rw [hq, Nat.pow_zero, Nat.mul_one]), Nat.min_eq_left (by omega)]
 rfl
theorem int_float0 : floatOfInt .f64 0 = 0 := by decide
/-- the whole part of a float -/
theorem float_int {r : Nat} (h : r < INF) {u : Nat} (hu : iv r / 2 ^ K1074 = u) (hv : u < 18446744073709551616) : floatToIntVal .f64 r .u64 = some ((u : Nat) : Int) := by
 have hr : r < 18446744073709551616 := by unfold INF at h; omega
 have hrm : r % S63 = r := Nat.mod_eq_of_lt (by unfold S63; unfold INF at h; omega)
 have hd : decide (S63 ≤ r) = false := by unfold S63; unfold INF at h; simp; omega
 have ht : (FloatKind.decode .f64 r).toInt .zero = some ((u : Nat) : Int) := by
  show (double.read r).toInt .zero = _
  rw [read_fin hr (by rw [hrm]; exact h), hrm, hd]
  unfold Datum.toInt Datum.integral
  simp only
  rw [signed_eq, Nat.pow_zero, Nat.mul_one]
  congr 1
  show ((Toward.zero.cut false (mg r <<< (-1074 + (sh r : Int)).toNat) (-(-1074 + (sh r : Int))).toNat : Nat) : Int) = _
  congr 1
  have hcut : ∀ n d : Nat, Toward.zero.cut false n d = n / 2 ^ d := by
   intro n d
   unfold Toward.cut
   have hlog : n < 2 ^ (n.log2 + 1) := Nat.lt_log2_self
   simp only [Nat.one_shiftLeft]
   show n / 2 ^ min d (n.log2 + 2) + 0 = _
   rw [Nat.add_zero]
   rcases Nat.lt_or_ge (n.log2 + 2) d with h1 | h1
   ·rw [Nat.min_eq_right (by omega)]
    have hp : 2 ^ (n.log2 + 2) = 2 * 2 ^ (n.log2 + 1) := by rw [Nat.pow_succ]; omega
    have hq : 2 ^ (n.log2 + 2) ≤ 2 ^ d := Nat.pow_le_pow_right (by decide) (by omega)
    rw [Nat.div_eq_of_lt (by omega), Nat.div_eq_of_lt (by omega)]
   ·rw [Nat.min_eq_left h1]
  rw [hcut, Nat.shiftLeft_eq, ← hu]
  unfold iv
  rcases Nat.lt_or_ge (sh r) 1074 with h1 | h1
  ·rw [show (-1074 + (sh r : Int)).toNat = 0 from by omega, show (-(-1074 + (sh r : Int))).toNat = 1074 - sh r from by omega, Nat.pow_zero, Nat.mul_one]
   have e : (2 : Nat) ^ K1074 = 2 ^ (1074 - sh r) * 2 ^ sh r := by rw [← Nat.pow_add]; congr 1; unfold K1074; omega
   rw [e, Nat.mul_div_mul_right _ _ (Nat.two_pow_pos _)]
  ·rw [show (-1074 + (sh r : Int)).toNat = sh r - 1074 from by omega, show (-(-1074 + (sh r : Int))).toNat = 0 from by omega, Nat.pow_zero, Nat.div_one]
   have e : (2 : Nat) ^ sh r = 2 ^ (sh r - 1074) * 2 ^ K1074 := by rw [← Nat.pow_add]; congr 1; unfold K1074; omega
   rw [e, ← Nat.mul_assoc, Nat.mul_div_cancel _ (Nat.two_pow_pos _)]
 unfold floatToIntVal
 rw [ht]
 simp only
 rw [if_pos]
 constructor
 ·show (0 : Int) ≤ _
  omega
 ·show _ ≤ (18446744073709551615 : Int)
  omega
end Go.Proofs.YtehmompbmnejkaaGreat
/- Contract of math's Ldexp. Conditions: a normal positive number; the result is exact, or infinite. -/
namespace Go.Proofs.YtehmompbmnejkaaGreat
open Go.RowKit Ieee

theorem bits_and_i64 {a b : Nat} (ha : a < 9223372036854775808) (hb : b < 9223372036854775808) : bits .and .i64 (a : Int) (b : Int) = ((a &&& b : Nat) : Int) := by
 have e : bits .and .i64 (a : Int) (b : Int) = IntKind.i64.wrap (((((a : Int) % 18446744073709551616).toNat &&& ((b : Int) % 18446744073709551616).toNat) : Nat) : Int) := by
  show IntKind.i64.wrap ((BitVec.ofInt 64 a &&& BitVec.ofInt 64 b).toNat : Int) = _
  rw [BitVec.toNat_and, BitVec.toNat_ofInt, BitVec.toNat_ofInt]
  rfl
 rw [e, Int.emod_eq_of_lt (by omega) (by omega), Int.emod_eq_of_lt (by omega) (by omega), Int.toNat_natCast, Int.toNat_natCast]
 have h : a &&& b ≤ a := Nat.and_le_left
 exact IntWalk.i64_in _ (by omega)
theorem andNot_exp {a : Nat} (ha : a < 9223372036854775808) : bits .andNot .u64 (a : Int) 9218868437227405312 = ((a % 4503599627370496 : Nat) : Int) := by
 have e : bits .andNot .u64 (a : Int) 9218868437227405312 = bits .and .u64 (a : Int) ((9227875636482146303 : Nat) : Int) := by
  show IntKind.u64.wrap ((BitVec.ofInt 64 a &&& ~~~(BitVec.ofInt 64 9218868437227405312)).toNat : Int) = IntKind.u64.wrap ((BitVec.ofInt 64 a &&& BitVec.ofInt 64 ((9227875636482146303 : Nat) : Int)).toNat : Int)
  rw [show ~~~(BitVec.ofInt 64 9218868437227405312) = BitVec.ofInt 64 ((9227875636482146303 : Nat) : Int) from by decide]
 rw [e, bits_and_u64 (by omega) (by decide)]
 have e2 : (9227875636482146303 : Nat) = 2 ^ 63 ||| (2 ^ 52 - 1) := by decide
 rw [e2, Nat.and_or_distrib_left, Nat.and_two_pow_sub_one_eq_mod]
 have h0 : a &&& 2 ^ 63 = 0 := by
  apply Nat.eq_of_testBit_eq
  intro i
  rw [Nat.testBit_and, Nat.testBit_two_pow, Nat.zero_testBit]
  by_cases hi : 63 = i
  ·subst hi
   rw [Nat.testBit_lt_two_pow (show a < 2 ^ 63 from ha)]; rfl
  ·simp [hi]
 rw [h0, Nat.zero_or]
theorem product_comm (x y : Datum) : x.product y = y.product x := by
 cases x <;> cases y <;> simp [Datum.product, Bool.xor_comm, Nat.mul_comm, Int.add_comm]
theorem mul_comm_bits (x y : Nat) : floatBits .mul .f64 x y = floatBits .mul .f64 y x := by
 show ((double.read x).product (double.read y)).map double.write = ((double.read y).product (double.read x)).map double.write
 rw [product_comm]
/-- a normal word's number -/
theorem iv_norm {E F : Nat} (hE : 1 ≤ E) (hF : F < 4503599627370496) : iv (E * 4503599627370496 + F) = (4503599627370496 + F) * 2 ^ (E - 1) := by
 have h := rung_of (m := 4503599627370496 + F) (t := E - 1) (by unfold B52; omega) (.inr (by unfold B52; omega))
 have e : E * 4503599627370496 + F = (E - 1) * B52 + (4503599627370496 + F) := by
  unfold B52
  obtain ⟨e, rfl⟩ : ∃ e, E = e + 1 := ⟨E - 1, by omega⟩
  rw [Nat.add_sub_cancel]
  omega
 rw [e]
 exact h
theorem ldexp_norm {E F q a b p : Nat} (hE : 1 ≤ E) (hF : F < 4503599627370496) (hp : (p : Int) = (E : Int) + (b : Int) - (a : Int)) (hp1 : 1 ≤ p) (hq : iv q * 2 ^ a = iv (E * 4503599627370496 + F) * 2 ^ b) :
  q = p * 4503599627370496 + F := by
 apply iv_inj
 rw [iv_norm hp1 hF]
 rw [iv_norm hE hF, Nat.mul_assoc, ← Nat.pow_add] at hq
 apply Nat.eq_of_mul_eq_mul_right (Nat.two_pow_pos a)
 rw [hq, Nat.mul_assoc, ← Nat.pow_add]
 congr 2
 omega
theorem ldexp_over {E F q a b : Nat} (hE : 1 ≤ E) (hF : F < 4503599627370496) (hp : (2046 : Int) < (E : Int) + (b : Int) - (a : Int)) (hq : iv q * 2 ^ a = iv (E * 4503599627370496 + F) * 2 ^ b) : INF ≤ q := by
 apply iv_le_of
 rw [iv_inf]
 apply Nat.le_of_mul_le_mul_right (c := 2 ^ a) _ (Nat.two_pow_pos a)
 rw [hq, iv_norm hE hF, Nat.mul_assoc, Nat.mul_assoc, ← Nat.pow_add, ← Nat.pow_add]
 exact Nat.mul_le_mul (by unfold B52; omega) (Nat.pow_le_pow_right (by decide) (by unfold K2046; omega))
theorem ldexp_sub {E F q a b p : Nat} (hE : 1 ≤ E) (hF : F < 4503599627370496) (hp : (p : Int) = (E : Int) + (b : Int) - (a : Int) + 53) (hp1 : 1 ≤ p) (hq : iv q * 2 ^ a = iv (E * 4503599627370496 + F) * 2 ^ b) :
  iv (p * 4503599627370496 + F) = iv q * 2 ^ 53 := by
 rw [iv_norm hp1 hF]
 rw [iv_norm hE hF, Nat.mul_assoc, ← Nat.pow_add] at hq
 apply Nat.eq_of_mul_eq_mul_right (Nat.two_pow_pos a)
 rw [Nat.mul_right_comm (iv q), hq, Nat.mul_assoc, Nat.mul_assoc, ← Nat.pow_add, ← Nat.pow_add]
 congr 2
 omega

theorem isnan_any (b : Nat) (w : World) (hb : b < 18446744073709551616) (hn : ¬ INF < b % S63) : Calls Tryz.prog 114 #[.float .f64 b] w fun e w' => e = .returned (.bool false) ∧ w = w' := by
 have hs := order_self hb
 rw [if_neg hn] at hs
 clear hb hn
 go_enter Tryz.func114, Tryz.ntmps114
 go_wp2_with fail
 go_ret
 exact ⟨rfl, rfl⟩
theorem normalize_any (b : Nat) (w : World) (hb : b ≤ INF) (hn : 4503599627370496 ≤ b) : Calls Tryz.prog 115 #[.float .f64 b] w fun e w' => e = .returned (.tuple #[.float .f64 b, .int .i64 0]) ∧ w = w' := by
 have hbm : b % S63 = b := Nat.mod_eq_of_lt (by unfold S63; unfold INF at hb; omega)
 have ha := abs_any b w (by unfold INF at hb; omega)
 rw [hbm] at ha
 have HA := Lib.hid ha
 have ho : (FloatKind.f64.format.order b 4503599627370496 == some .lt) = false := by
  have h1 : FloatKind.f64.format.order b 4503599627370496 = some (compare (b : Int) 4503599627370496) := by
   show double.order b 4503599627370496 = _
   have h2 := order_abs (b := b) (c := 4503599627370496) (by decide)
   rw [hbm, if_neg (by omega)] at h2
   exact h2
  rw [h1]
  rcases Nat.lt_or_eq_of_le hn with h3 | h3
  ·rw [cmp_gt (by omega)]; rfl
  ·rw [cmp_same (by omega)]; rfl
 clear hb hn hbm ha
 go_enter Tryz.func115, Tryz.ntmps115
 go_wp2_with fail
 refine HA.out.mono ?_; rintro e w1 ⟨rfl, rfl⟩
 go_wp2_with fail
 go_ret2
 exact ⟨rfl, rfl⟩

set_option maxRecDepth 100000 in
set_option maxHeartbeats 2000000 in
theorem ldexp_any (E F q : Nat) (x : Int) (a b : Nat) (w : World) (hE : 1 ≤ E) (hE2 : E ≤ 2046) (hF : F < 4503599627370496) (hx : x = (b : Int) - (a : Int)) (hp : -52 ≤ (E : Int) + x) (hx2 : x ≤ 5000) (hq : iv q * 2 ^ a = iv (E * 4503599627370496 + F) * 2 ^ b) :
  Calls Tryz.prog 110 #[.float .f64 (E * 4503599627370496 + F), .int .i64 x] w fun e w' => e = .returned (.float .f64 (min q INF)) ∧ w = w' := by
 have hHX := Lib.hid hx
 have HQ := Lib.hid hq
 clear hq hx
 obtain ⟨f, hf⟩ : ∃ f, E * 4503599627370496 + F = f := ⟨_, rfl⟩
 have hfi : f < 9218868437227405312 := by omega
 have hfm : f % S63 = f := Nat.mod_eq_of_lt (by unfold S63; omega)
 have hf64 : f < 18446744073709551616 := by omega
 have hfn : 4503599627370496 ≤ f := by omega
 have hz : FloatKind.f64.format.order f 0 = some .gt := by
  rw [order_zero hf64 (by rw [hfm]; unfold INF; omega), hfm, if_neg (by omega), if_neg (by unfold S63; omega)]
 have hi := isinf_any f w hf64
 rw [hfm, show decide (f = INF) = false from by unfold INF; simp; omega] at hi
 have HI := Lib.hid hi
 have HN := Lib.hid (isnan_any f w hf64 (by rw [hfm]; unfold INF; omega))
 have HM := Lib.hid (normalize_any f w (by unfold INF; omega) hfn)
 have h1 := f64bits f
 have hsh : (f : Int) / 4503599627370496 = (E : Int) := by omega
 have hand := bits_and_i64 (a := E) (b := 2047) (by omega) (by decide)
 rw [show (2047 : Nat) = 2 ^ 11 - 1 from rfl, Nat.and_two_pow_sub_one_eq_mod, Nat.mod_eq_of_lt (by omega), show ((2 ^ 11 - 1 : Nat) : Int) = 2047 from rfl] at hand
 have hnot := andNot_exp (a := f) (by omega)
 rw [show f % 4503599627370496 = F from by omega] at hnot
 have HF := Lib.hid hf
 have hE3 : (E : Int) ≤ 2046 := by omega
 have hE1 : (1 : Int) ≤ E := by omega
 have hF3 : (F : Int) ≤ 4503599627370495 := by omega
 obtain ⟨y, hy⟩ : ∃ y, x + ((E : Int) - 1023) = y := ⟨_, rfl⟩
 have hy1 : -1075 ≤ y := by omega
 have hy2 : y ≤ 7000 := by omega
 have hx3 : -3000 ≤ x := by omega
 rw [hf]
 by_cases hbig : 1023 < y
 ·have hov : INF ≤ q := ldexp_over hE hF (by have := hHX.out; omega) HQ.out
  rw [Nat.min_eq_right hov]
  have hin := Lib.hid (inf_any 1 w)
  rw [if_pos (by decide)] at hin
  clear hf hfi hfm hf64 hfn hi hov hE hE2 hF
  go_enter Tryz.func110, Tryz.ntmps110
  go_wp2_with fail
  refine HI.out.mono ?_; rintro e w1 ⟨rfl, rfl⟩
  go_wp2_with fail
  refine HN.out.mono ?_; rintro e w1 ⟨rfl, rfl⟩
  go_wp2_with fail
  refine HM.out.mono ?_; rintro e w1 ⟨rfl, rfl⟩
  go_wp2_with fail
  refine hin.out.mono ?_; rintro e w1 ⟨rfl, rfl⟩
  go_wp2_with fail
  go_ret
  exact ⟨rfl, rfl⟩
 ·by_cases hsm : y < -1022
  ·obtain ⟨y2, hy2e⟩ : ∃ y2, y + 53 = y2 := ⟨_, rfl⟩
   obtain ⟨p, hpe⟩ : ∃ p : Nat, y2 + 1023 = (p : Int) := ⟨(y2 + 1023).toNat, by omega⟩
   have hp1 : 1 ≤ p := by omega
   have hp2 : p ≤ 53 := by omega
   have hiv : iv (p * 4503599627370496 + F) = iv q * 2 ^ 53 := ldexp_sub hE hF (by have := hHX.out; omega) hp1 HQ.out
   have ho := or_split (a := p * 4503599627370496) (b := F) (n := 52) (by omega) (by omega) hF (by omega)
   rw [or_comm64 (by omega) (by omega), show ((p * 4503599627370496 : Nat) : Int) = (p : Int) * 4503599627370496 from by omega] at ho
   have hfr := fun w => f64from ((p * 4503599627370496 + F : Nat) : Int) w
   rw [Int.toNat_natCast] at hfr
   have hm : floatBits .mul .f64 4368491638549381120 (p * 4503599627370496 + F) = some (min q INF) := by
    have hgm : (p * 4503599627370496 + F) % S63 = p * 4503599627370496 + F := Nat.mod_eq_of_lt (by unfold S63; omega)
    rw [mul_comm_bits, mul_pow2 (x := 0) (y := 53) (N := iv q) (D := 1) (t := sh q) (by omega) (by rw [hgm]; unfold INF; omega) (by rw [hgm]; omega) (by decide) (unit_iv q) (by rw [hgm, hiv, Nat.pow_zero, Nat.mul_one, Nat.mul_one]), rne_iv]
    rw [show (p * 4503599627370496 + F) / S63 = 0 from Nat.div_eq_of_lt (by unfold S63; omega), Nat.zero_mul, Nat.zero_add]
   obtain ⟨r, hr⟩ : ∃ r, p * 4503599627370496 + F = r := ⟨_, rfl⟩
   obtain ⟨res, hres⟩ : ∃ r, min q INF = r := ⟨_, rfl⟩
   rw [hr] at hfr ho hm
   rw [hres] at hm ⊢
   have hrun := run_float_arith (P := Tryz.prog) w .mul 35 .f64 _ _ _ hm
   have hpi : (p : Int) ≤ 53 := by omega
   clear hf hfi hfm hf64 hfn hi hE hE2 hF hp1 hp2 hiv hm hr hres
   go_enter Tryz.func110, Tryz.ntmps110
   go_wp2_with fail
   refine HI.out.mono ?_; rintro e w1 ⟨rfl, rfl⟩
   go_wp2_with fail
   refine HN.out.mono ?_; rintro e w1 ⟨rfl, rfl⟩
   go_wp2_with fail
   refine HM.out.mono ?_; rintro e w1 ⟨rfl, rfl⟩
   go_wp2_with fail
   go_ret
   exact ⟨rfl, rfl⟩
  ·obtain ⟨p, hpe⟩ : ∃ p : Nat, y + 1023 = (p : Int) := ⟨(y + 1023).toNat, by omega⟩
   have hp1 : 1 ≤ p := by omega
   have hp2 : p ≤ 2046 := by omega
   have hqr : q = p * 4503599627370496 + F := ldexp_norm hE hF (by have := hHX.out; omega) hp1 HQ.out
   have ho := or_split (a := p * 4503599627370496) (b := F) (n := 52) (by omega) (by omega) hF (by omega)
   rw [or_comm64 (by omega) (by omega), show ((p * 4503599627370496 : Nat) : Int) = (p : Int) * 4503599627370496 from by omega] at ho
   have hfr := fun w => f64from ((p * 4503599627370496 + F : Nat) : Int) w
   rw [Int.toNat_natCast] at hfr
   have hm : floatBits .mul .f64 4607182418800017408 (p * 4503599627370496 + F) = some (min q INF) := by
    have hgm : (p * 4503599627370496 + F) % S63 = p * 4503599627370496 + F := Nat.mod_eq_of_lt (by unfold S63; omega)
    rw [mul_comm_bits, mul_pow2 (x := 0) (y := 0) (N := iv q) (D := 1) (t := sh q) (by omega) (by rw [hgm]; unfold INF; omega) (by rw [hgm]; omega) (by decide) (unit_iv q) (by rw [hgm, hqr, Nat.pow_zero, Nat.mul_one, Nat.mul_one]), rne_iv]
    rw [show (p * 4503599627370496 + F) / S63 = 0 from Nat.div_eq_of_lt (by unfold S63; omega), Nat.zero_mul, Nat.zero_add]
   obtain ⟨r, hr⟩ : ∃ r, p * 4503599627370496 + F = r := ⟨_, rfl⟩
   obtain ⟨res, hres⟩ : ∃ r, min q INF = r := ⟨_, rfl⟩
   rw [hr] at hfr ho hm
   rw [hres] at hm ⊢
   have hrun := run_float_arith (P := Tryz.prog) w .mul 35 .f64 _ _ _ hm
   have hpi : (p : Int) ≤ 2046 := by omega
   clear hf hfi hfm hf64 hfn hi hE hE2 hF hp1 hp2 hqr hm hr hres
   go_enter Tryz.func110, Tryz.ntmps110
   go_wp2_with fail
   refine HI.out.mono ?_; rintro e w1 ⟨rfl, rfl⟩
   go_wp2_with fail
   refine HN.out.mono ?_; rintro e w1 ⟨rfl, rfl⟩
   go_wp2_with fail
   refine HM.out.mono ?_; rintro e w1 ⟨rfl, rfl⟩
   go_wp2_with fail
   go_ret
   exact ⟨rfl, rfl⟩
end Go.Proofs.YtehmompbmnejkaaGreat
/- Contract of math's Ldexp of a whole number; plain theory of the rounding in package flo's Join. Conditions: at most 2^53; the place is one of the format's. -/
namespace Go.Proofs.YtehmompbmnejkaaGreat
open Go.RowKit Ieee

theorem int_word {v : Nat} (h0 : 0 < v) (h1 : v ≤ 9007199254740992) : ∃ E F, floatOfInt .f64 (v : Int) = E * 4503599627370496 + F ∧ 1023 ≤ E ∧ E ≤ 2046 ∧ F < 4503599627370496 ∧ iv (E * 4503599627370496 + F) = v * 2 ^ K1074 := by
 obtain ⟨q, hq⟩ := rung_ex K1074 v (by unfold B52; omega)
 have hlt : q < INF := by
  apply iv_lt_of
  rw [hq, iv_inf]
  have h2 : (2 : Nat) ^ K2046 = 2 ^ 54 * 2 ^ (K2046 - 54) := by
   rw [← Nat.pow_add]
   exact congrArg (fun x => 2 ^ x) (show K2046 = 54 + (K2046 - 54) by unfold K2046; omega)
  have h3 : (2 : Nat) ^ K1074 ≤ 2 ^ (K2046 - 54) := Nat.pow_le_pow_right (by decide) (by decide)
  have h4 := Nat.two_pow_pos K1074
  rw [h2]
  generalize (2 : Nat) ^ K1074 = P at *
  generalize (2 : Nat) ^ (K2046 - 54) = R at *
  have h5 := Nat.mul_le_mul h1 h3
  unfold B52
  omega
 have hge : 4503599627370496 ≤ q := by
  rcases Nat.lt_or_ge q 4503599627370496 with h | h
  ·have h2 : iv q = q := by unfold iv mg sh B52; rw [if_pos h, if_pos h, Nat.pow_zero, Nat.mul_one]
   have h3 : (2 : Nat) ^ 60 ≤ 2 ^ K1074 := Nat.pow_le_pow_right (by decide) (by decide)
   have h4 := Nat.mul_le_mul h0 h3
   rw [hq] at h2
   omega
  ·exact h
 have e : q = q / 4503599627370496 * 4503599627370496 + q % 4503599627370496 := by omega
 refine ⟨q / 4503599627370496, q % 4503599627370496, ?_, ?_, ?_, Nat.mod_lt _ (by decide), ?_⟩
 ·rw [int_float h0 hq hlt]; exact e
 ·have h2 := iv_norm (E := q / 4503599627370496) (F := q % 4503599627370496) (by omega) (Nat.mod_lt _ (by decide))
  rw [← e, hq] at h2
  rcases Nat.lt_or_ge (q / 4503599627370496) 1023 with h3 | h3
  ·have h4 : (2 : Nat) ^ (q / 4503599627370496 - 1) ≤ 2 ^ (K1074 - 53) := Nat.pow_le_pow_right (by decide) (by unfold K1074; omega)
   have h5 : (2 : Nat) ^ K1074 = 2 ^ 53 * 2 ^ (K1074 - 53) := by
    rw [← Nat.pow_add]
    exact congrArg (fun x => 2 ^ x) (show K1074 = 53 + (K1074 - 53) by unfold K1074; omega)
   have h6 := Nat.two_pow_pos (K1074 - 53)
   rw [h5] at h2
   generalize (2 : Nat) ^ (q / 4503599627370496 - 1) = R at *
   generalize (2 : Nat) ^ (K1074 - 53) = P at *
   have h7 : (4503599627370496 + q % 4503599627370496) * R < 2 ^ 53 * P := by
    have h8 : 4503599627370496 + q % 4503599627370496 < 2 ^ 53 := by omega
    exact Nat.lt_of_le_of_lt (Nat.mul_le_mul_left _ h4) (Nat.mul_lt_mul_of_pos_right h8 h6)
   rw [← h2] at h7
   have h9 := Nat.mul_le_mul_right (2 ^ 53 * P) h0
   omega
  ·exact h3
 ·unfold INF at hlt; omega
 ·rw [← e]; exact hq

set_option maxHeartbeats 400000 in
theorem ldexp_int (v U : Nat) (w : World) (h1 : v ≤ 9007199254740992) (hU : U ≤ 6000) (h2 : U = 0 ∨ 4503599627370496 ≤ v) :
  Calls Tryz.prog 110 #[.float .f64 (floatOfInt .f64 (v : Int)), .int .i64 ((U : Int) - 1074)] w fun e w' => e = .returned (.float .f64 (min (U * 4503599627370496 + v) INF)) ∧ w = w' := by
 rcases Nat.eq_zero_or_pos v with h0 | h0
 ·subst h0
  have hu : U = 0 := by omega
  subst hu
  rw [show floatOfInt .f64 ((0 : Nat) : Int) = 0 from int_float0, show min (0 * 4503599627370496 + 0) INF = 0 from by decide]
  have hz : FloatKind.f64.format.order 0 0 = some .eq := by decide
  go_enter Tryz.func110, Tryz.ntmps110
  go_wp2_with fail
  go_ret
  exact ⟨rfl, rfl⟩
 ·obtain ⟨E, F, hf, hE1, hE2, hF, hiv⟩ := int_word h0 h1
  rw [hf]
  have hq : iv (U * 4503599627370496 + v) = v * 2 ^ U := rung_of (by unfold B52; omega) h2
  exact ldexp_any E F (U * 4503599627370496 + v) ((U : Int) - 1074) K1074 U w (by omega) hE2 hF rfl (by omega) (by omega) (by rw [hq, hiv, Nat.mul_right_comm])
theorem ldexp_all (v U : Nat) (w : World) (h1 : v ≤ 9007199254740992) (hU : U ≤ 6000) (h2 : U = 0 ∨ 4503599627370496 ≤ v) :
  Calls Tryz.prog 97 #[.float .f64 (floatOfInt .f64 (v : Int)), .int .i64 ((U : Int) - 1074)] w fun e w' => e = .returned (.float .f64 (min (U * 4503599627370496 + v) INF)) ∧ w = w' := by
 have h := Lib.hid (ldexp_int v U w h1 hU h2)
 generalize (U : Int) - 1074 = x at *
 generalize floatOfInt .f64 (v : Int) = f at *
 clear h1 hU h2
 go_enter Tryz.func97, Tryz.ntmps97
 go_wp2_with fail
 refine h.out.mono ?_; rintro e w1 ⟨rfl, rfl⟩
 go_wp2_with fail
 go_ret
 exact ⟨rfl, rfl⟩

/-- the rung nearest to X 2^e -/
def nearN (X : Nat) (e : Int) : Nat := double.nearest false X e
theorem near_zero {e : Int} : nearN 0 e = 0 := rfl
theorem near_big {X n : Nat} {e : Int} (hX : 2 ^ (n - 1) ≤ X) (hn : 1 ≤ n) (h : 1023 < (n : Int) - 1 + e) : nearN X e = INF := by
 unfold nearN
 have hpos := Nat.two_pow_pos (n - 1)
 -- the unit by the number's own length
 have hl1 : 2 ^ X.log2 ≤ X := Nat.log2_self_le (by omega)
 have hl2 : X < 2 ^ (X.log2 + 1) := Nat.lt_log2_self
 have hlog : n - 1 ≤ X.log2 := by
  have : n - 1 < X.log2 + 1 := two_pow_lt (Nat.lt_of_le_of_lt hX hl2)
  omega
 obtain ⟨t, ht⟩ : ∃ t : Nat, e + (X.log2 : Int) + 1074 - 52 = (t : Int) := ⟨(e + (X.log2 : Int) + 1074 - 52).toNat, by omega⟩
 obtain ⟨a, b, hab, ha⟩ : ∃ a b : Nat, e + 1074 = (a : Int) - (b : Int) ∧ (a = 0 ∨ b = 0) := ⟨(e + 1074).toNat, (-(e + 1074)).toNat, by omega, by omega⟩
 have hu : Unit (X * 2 ^ a) (2 ^ b) t := by
  refine ⟨Nat.two_pow_pos _, ?_, .inr ?_⟩
  ·rw [← Nat.pow_add]
   have e1 : b + (t + 53) = X.log2 + 1 + a := by omega
   rw [e1, Nat.pow_add]
   exact Nat.mul_lt_mul_of_pos_right hl2 (Nat.two_pow_pos _)
  ·rw [← Nat.pow_add]
   have e1 : b + (t + 52) = X.log2 + a := by omega
   rw [e1, Nat.pow_add]
   exact Nat.mul_le_mul_right _ hl1
 rw [nearest_of (a := a) (b := b) false hu (by omega) hab rfl]
 have hr : B52 ≤ rne (X * 2 ^ a) (2 ^ b * 2 ^ t) := by
  unfold rne
  have h5 : B52 ≤ X * 2 ^ a / (2 ^ b * 2 ^ t) := by
   rw [Nat.le_div_iff_mul_le (Nat.mul_pos (Nat.two_pow_pos _) (Nat.two_pow_pos _)), ← Nat.pow_add]
   show 2 ^ 52 * 2 ^ (b + t) ≤ _
   rw [← Nat.pow_add]
   have e1 : 52 + (b + t) = X.log2 + a := by omega
   rw [e1, Nat.pow_add]
   exact Nat.mul_le_mul_right _ hl1
  omega
 have : INF ≤ t * B52 + rne (X * 2 ^ a) (2 ^ b * 2 ^ t) := by unfold INF; unfold B52 at *; omega
 rw [Nat.min_eq_right this]
 exact word_pos _
theorem near_small {X n : Nat} {e : Int} (hX : X < 2 ^ n) (h0 : 0 < X) (h : (n : Int) - 1 + e < -1076) : nearN X e = 0 := by
 unfold nearN
 obtain ⟨b, hb⟩ : ∃ b : Nat, e + 1074 = -(b : Int) := ⟨(-(e + 1074)).toNat, by omega⟩
 have h2 : X * 4 ≤ 2 ^ b := by
  have h3 : (2 : Nat) ^ (n + 2) ≤ 2 ^ b := Nat.pow_le_pow_right (by decide) (by omega)
  rw [Nat.pow_add] at h3
  omega
 have hu : Unit X (2 ^ b) 0 := by
  refine ⟨Nat.two_pow_pos _, ?_, .inl rfl⟩
  have h3 := Nat.two_pow_pos b
  have h4 : 1 ≤ 2 ^ (0 + 53) := by decide
  have h5 := Nat.mul_le_mul_left (2 ^ b) h4
  omega
 rw [nearest_of (a := 0) (b := b) false hu h0 (by omega) (by rw [Nat.pow_zero, Nat.mul_one])]
 have hr : rne X (2 ^ b * 2 ^ 0) = 0 := by
  rw [Nat.pow_zero, Nat.mul_one]
  unfold rne
  rw [Nat.div_eq_of_lt (by omega), Nat.mod_eq_of_lt (by omega)]
  have h3 : decide (2 ^ b < 2 * X) = false := by simp; omega
  have h4 : decide (2 ^ b = 2 * X) = false := by simp; omega
  rw [h3, h4]
  rfl
 rw [hr]
 exact word_pos _
/-- the rounding by cutting bits off -/
theorem near_cut {X n U c : Nat} {e : Int} (hX : X < 2 ^ n) (h0 : 0 < X) (hc : e + 1074 = (U : Int) - (c : Int)) (hn : n ≤ c + 53) (hlo : U = 0 ∨ 2 ^ (c + 52) ≤ X) :
  nearN X e = min (U * B52 + rne X (2 ^ c)) INF := by
 unfold nearN
 have hu : Unit (X * 2 ^ U) (2 ^ c) U := by
  refine ⟨Nat.two_pow_pos _, ?_, ?_⟩
  ·rw [Nat.add_comm U, Nat.pow_add 2 53, ← Nat.mul_assoc, ← Nat.pow_add]
   exact Nat.mul_lt_mul_of_pos_right (Nat.lt_of_lt_of_le hX (Nat.pow_le_pow_right (by decide) hn)) (Nat.two_pow_pos _)
  ·rcases hlo with h | h
   ·exact .inl h
   ·right
    rw [Nat.add_comm U, Nat.pow_add 2 52, ← Nat.mul_assoc, ← Nat.pow_add]
    exact Nat.mul_le_mul_right _ h
 rw [nearest_of (a := U) (b := c) false hu h0 hc rfl, rne_scale (Nat.two_pow_pos U)]
 exact word_pos _
/-- the same with bits added -/
theorem near_add {X n U c : Nat} {e : Int} (hX : X < 2 ^ n) (h0 : 0 < X) (hc : e + 1074 = (U : Int) + (c : Int)) (hn : n + c ≤ 53) (hlo : U = 0 ∨ 2 ^ 52 ≤ X * 2 ^ c) :
  nearN X e = min (U * B52 + X * 2 ^ c) INF := by
 have hv : X * 2 ^ c < 2 ^ 53 := by
  have h1 : X * 2 ^ c < 2 ^ n * 2 ^ c := Nat.mul_lt_mul_of_pos_right hX (Nat.two_pow_pos _)
  rw [← Nat.pow_add] at h1
  exact Nat.lt_of_lt_of_le h1 (Nat.pow_le_pow_right (by decide) hn)
 have hq : iv (U * B52 + X * 2 ^ c) = X * 2 ^ c * 2 ^ U := rung_of (by unfold B52; omega) hlo
 unfold nearN
 rw [nearest_iv (q := U * B52 + X * 2 ^ c) (a := U + c) (b := 0) false h0 (by omega) (by rw [hq, Nat.pow_zero, Nat.mul_one, Nat.mul_assoc, ← Nat.pow_add, Nat.add_comm U])]
 exact word_pos _
end Go.Proofs.YtehmompbmnejkaaGreat
/- Contracts of package flo's bit and Join. Conditions: at most 150 words; an int64 place. -/
namespace Go.Proofs.YtehmompbmnejkaaGreat
open Go.RowKit Ieee

set_option maxRecDepth 100000 in
set_option maxHeartbeats 1000000 in
theorem fbit_any (a : Option Addr) (n c : Nat) (xs : List Int) (i : Nat) (w : World) (ha : RowK .u32 w a n c xs) (hx : Dig 4294967296 xs) (hi : (i : Int) ≤ 1000000) :
  Calls Tryz.prog 99 #[.slice a n c, .int .i64 i] w fun e w' => e = .returned (.bool (decide (V 4294967296 xs / 2 ^ i % 2 = 1))) ∧ w = w' := by
 have hq : (i : Int) / 32 = ((i / 32 : Nat) : Int) := by omega
 have hr : (i : Int) % 32 = ((i % 32 : Nat) : Int) := by omega
 have hn : n ≤ 9223372036854775807 := by have := ha.2.1; have := ha.2.2.1; unfold maxLen at this; omega
 by_cases hlt : i / 32 < n
 ·have hbit := bit_at (i := i / 32) (j := i % 32) hx (by rw [ha.1]; exact hlt) (by omega)
  rw [show 32 * (i / 32) + i % 32 = i from by omega] at hbit
  have hdr := hx.at (by decide) (i / 32)
  obtain ⟨-, h5, -, h4⟩ := ha
  rcases h4 with hcap0 | ⟨ba, oa, rfl, -, hc⟩
  ·omega
  have hc1 := hc _ hlt
  clear hc
  obtain ⟨y, hy⟩ : ∃ y, xs.getD (i / 32) 0 = y := ⟨_, rfl⟩
  rw [hy] at hbit hdr hc1
  clear hy
  generalize hiq : i / 32 = iq at *
  generalize hir : i % 32 = ir at *
  have g0 : (0 : Int) ≤ (iq : Int) := by omega
  have g1 : (iq : Int) < (n : Int) := by omega
  have g2 : (0 : Int) ≤ (ir : Int) := by omega
  have g3 : (ir : Int) < 32 := by omega
  obtain ⟨hy0, hy1⟩ := hdr
  obtain ⟨v, hv⟩ : ∃ v, y / 2 ^ ir = v := ⟨_, rfl⟩
  have hv0 : 0 ≤ v := by rw [← hv]; exact Int.ediv_nonneg hy0 (Int.le_of_lt (Int.pow_pos (by decide)))
  rw [hv] at hbit
  rw [← hbit]
  clear hbit hiq hir
  by_cases hv2 : v % 2 = 1
  ·have hv2' : (v % 2 == 1) = true := by simpa using hv2
   rw [show decide (v % 2 = 1) = true from by simpa using hv2]
   clear hv2
   go_enter Tryz.func99, Tryz.ntmps99
   go_wp2_with fail
   go_ret
   exact ⟨rfl, rfl⟩
  ·have hv2' : (v % 2 == 1) = false := by simpa using hv2
   rw [show decide (v % 2 = 1) = false from by simpa using hv2]
   clear hv2
   go_enter Tryz.func99, Tryz.ntmps99
   go_wp2_with fail
   go_ret
   exact ⟨rfl, rfl⟩
 ·have hz : V 4294967296 xs / 2 ^ i = 0 := by
   obtain ⟨h1, h2⟩ := V_bd (B := 4294967296) (by decide) hx
   rw [ha.1] at h2
   refine Int.ediv_eq_zero_of_lt h1 (Int.lt_of_lt_of_le h2 ?_)
   rw [show (4294967296 : Int) = 2 ^ 32 from rfl, ← Int.pow_mul]
   exact ipow_le (by decide) (by omega)
  rw [hz]
  have hnl : ¬ (((i / 32 : Nat) : Int) < (n : Int)) := by omega
  generalize i / 32 = iq at *
  clear hz ha hx
  go_enter Tryz.func99, Tryz.ntmps99
  go_wp2_with fail
  go_ret
  exact ⟨rfl, rfl⟩

def bigE (n e : Int) : Bool := decide (1100 < e ∨ (-1100 < e ∧ 1023 < n - 1 + e))
def smallE (n e : Int) : Bool := decide (e < -2200 - n ∨ n - 1 + e < -1076)
def unitE (n e : Int) : Int := max (n - 53 + e) (-1074)
/-- the word of X 2^e, with a sign -/
def joinN (neg : Bool) (X : Nat) (e : Int) : Nat := if neg then S63 + nearN X e else nearN X e
theorem nearest_min (f : Format) (mag : Nat) (place : Int) (h : ¬ mag = 0) : ∃ k, f.nearest false mag place = min k f.infRung := by
 unfold Format.nearest
 rw [if_neg h]
 exact ⟨_, rfl⟩
theorem near_le (X : Nat) (e : Int) : nearN X e ≤ INF := by
 by_cases h : X = 0
 ·subst h; exact Nat.zero_le _
 ·obtain ⟨k, hk⟩ := nearest_min double X e h
  show double.nearest false X e ≤ INF
  rw [hk, dbl_inf]
  exact Nat.min_le_right _ _
/-- flo.signed of a number's rung -/
theorem fsigned_near (neg : Bool) (X : Nat) (e : Int) (r : Nat) (w : World) (h : nearN X e = r) : Calls Tryz.prog 95 #[.bool neg, .float .f64 r] w fun x w' => x = .returned (.float .f64 (joinN neg X e)) ∧ w = w' := by
 have hle := near_le X e
 rw [h] at hle
 unfold INF at hle
 have hs := fsigned_any neg r w (by omega)
 rw [show r % S63 = r from Nat.mod_eq_of_lt (by unfold S63; omega)] at hs
 unfold joinN
 rw [h]
 exact hs
/-- the rounding by a bit, and what is below it -/
theorem rne_bits {X c r v : Nat} (hc : 0 < c) (h0 : 0 < X) (hr : IsHalf (X : Int) r) (hv : v = X / 2 ^ c) :
  rne X (2 ^ c) = if X / 2 ^ (c - 1) % 2 = 1 ∧ (v % 2 = 1 ∨ r < c - 1) then v + 1 else v := by
 obtain ⟨d, rfl⟩ : ∃ d, c = d + 1 := ⟨c - 1, by omega⟩
 rw [Nat.add_sub_cancel]
 have hp := Nat.two_pow_pos d
 have e1 : 2 ^ (d + 1) = 2 ^ d * 2 := Nat.pow_succ 2 d
 have e2 : X / 2 ^ (d + 1) = X / 2 ^ d / 2 := by rw [e1, Nat.div_div_eq_div_mul]
 have e3 : X % 2 ^ (d + 1) = X % 2 ^ d + 2 ^ d * (X / 2 ^ d % 2) := by rw [e1, Nat.mod_mul]
 have hlow := Nat.mod_lt X hp
 have hhalf : r < d ↔ X % 2 ^ d ≠ 0 := by
  rcases hr with ⟨h1, -⟩ | ⟨o, ho⟩
  ·omega
  ·have hd := Int.mul_ediv_add_emod (X : Int) (2 ^ d)
   have hcast : ((X % 2 ^ d : Nat) : Int) = (X : Int) % 2 ^ d := by
    rw [Int.natCast_emod, Int.natCast_pow]; rfl
   constructor
   ·intro hlt hz
    have hz2 : (X : Int) % 2 ^ d = 0 := by rw [← hcast, hz]; rfl
    rw [hz2, Int.add_zero, ho] at hd
    obtain ⟨g, rfl⟩ : ∃ g, d = r + 1 + g := ⟨d - r - 1, by omega⟩
    have p2 : (0 : Int) < 2 ^ r := Int.pow_pos (by decide)
    have e4 : (2 : Int) ^ (r + 1 + g) * (2 ^ r * (2 * o + 1) / 2 ^ (r + 1 + g)) = 2 ^ r * (2 * (2 ^ g * (2 ^ r * (2 * o + 1) / 2 ^ (r + 1 + g)))) := by
     rw [Int.pow_add, Int.pow_succ, Int.mul_assoc, Int.mul_assoc]
    rw [e4] at hd
    have := Int.eq_of_mul_eq_mul_left (Int.ne_of_gt p2) hd
    omega
   ·intro hz
    rcases Nat.lt_or_ge r d with h | h
    ·exact h
    ·exfalso
     apply hz
     have : (X : Int) % 2 ^ d = 0 := by
      rw [ho]
      obtain ⟨g, rfl⟩ : ∃ g, r = d + g := ⟨r - d, by omega⟩
      rw [Int.pow_add, Int.mul_assoc]
      exact Int.mul_emod_right _ _
     omega
 subst hv
 unfold rne
 rw [e2, e3, e1]
 have hb : X / 2 ^ d % 2 = 0 ∨ X / 2 ^ d % 2 = 1 := by omega
 generalize X / 2 ^ d / 2 = v at *
 generalize X % 2 ^ d = l at *
 generalize (2 : Nat) ^ d = P at *
 rcases hb with hb | hb
 ·rw [hb, if_neg (by omega)]
  have h1 : decide (P * 2 < 2 * (l + P * 0)) = false := by simp; omega
  have h2 : decide (P * 2 = 2 * (l + P * 0)) = false := by simp; omega
  rw [h1, h2]; rfl
 ·rw [hb]
  by_cases hl : l = 0
  ·have h1 : decide (P * 2 < 2 * (l + P * 1)) = false := by simp; omega
   have h2 : decide (P * 2 = 2 * (l + P * 1)) = true := by simp; omega
   rw [h1, h2]
   by_cases hv : v % 2 = 1
   ·rw [if_pos ⟨rfl, .inl hv⟩]; simp [hv]
   ·rw [if_neg (by intro h; rcases h.2 with h | h; exact hv h; exact (hhalf.1 h) hl)]; simp [hv]
  ·have h1 : decide (P * 2 < 2 * (l + P * 1)) = true := by simp; omega
   rw [h1, if_pos ⟨rfl, .inr (hhalf.2 hl)⟩]
   rfl
end Go.Proofs.YtehmompbmnejkaaGreat
/- Contract of package flo's Join. Conditions: at most 150 words; an int64 place. -/
namespace Go.Proofs.YtehmompbmnejkaaGreat
open Go.RowKit Ieee

theorem shl_cast (X c : Nat) : ((X * 2 ^ c : Nat) : Int) = (X : Int) * 2 ^ c := by
 rw [Int.natCast_mul, Int.natCast_pow]; rfl
theorem div_cast (X c : Nat) : ((X / 2 ^ c : Nat) : Int) = (X : Int) / 2 ^ c := by
 rw [Int.natCast_ediv, Int.natCast_pow]; rfl
theorem pow_of_int {X b : Nat} (h : (X : Int) < 2 ^ b) : X < 2 ^ b := by
 have e : ((2 ^ b : Nat) : Int) = 2 ^ b := by rw [Int.natCast_pow]; rfl
 omega
theorem pow_of_int' {X b : Nat} (h : (2 : Int) ^ b ≤ X) : 2 ^ b ≤ X := by
 have e : ((2 ^ b : Nat) : Int) = 2 ^ b := by rw [Int.natCast_pow]; rfl
 omega
theorem half_exist {X : Nat} (h : 0 < X) : ∃ r, IsHalf (X : Int) r := by
 induction X using Nat.strongRecOn with | ind X ih => ?_
 by_cases h2 : X % 2 = 1
 ·exact ⟨0, .inr ⟨X / 2, by rw [Int.pow_zero, Int.one_mul]; omega⟩⟩
 ·obtain ⟨r, hr⟩ := ih (X / 2) (by omega) (by omega)
  rcases hr with ⟨h3, -⟩ | ⟨o, ho⟩
  ·omega
  ·exact ⟨r + 1, .inr ⟨o, by rw [Int.pow_succ, Int.mul_comm (2 ^ r), Int.mul_assoc, ← ho]; omega⟩⟩
def RJoin (z : Nat) (w : World) (e : Ending) (w' : World) : Prop := e = .returned (.float .f64 z) ∧ Below w.heap.size w w'

set_option maxRecDepth 100000 in
set_option maxHeartbeats 4000000 in
theorem fjoin_any (neg : Bool) (a : Option Addr) (n c : Nat) (xs : List Int) (X : Nat) (e : Int) (w : World) (ha : RowK .u32 w a n c xs) (hx : Dig 4294967296 xs) (hv : V 4294967296 xs = (X : Int)) (hn : n ≤ 150) (he1 : -9223372036854775808 ≤ e) (he2 : e ≤ 9223372036854775807) :
  Calls Tryz.prog 73 #[.bool neg, .slice a n c, .int .i64 e] w (RJoin (joinN neg X e) w) := by
 have hbits := bits_any a n c xs w ha hx (by omega)
 rw [hv] at hbits
 have HBT := Lib.hid hbits
 have HA := Lib.hid ha
 have HX := Lib.hid hx
 have HV := Lib.hid hv
 have hXb : (X : Int) < 4294967296 ^ 150 := by
  have h := (V_bd (B := 4294967296) (by decide) hx).2
  rw [hv, ha.1] at h
  exact Int.lt_of_lt_of_le h (ipow_le (by decide) hn)
 have HXB := Lib.hid hXb
 have HS := Lib.hid (fun (r : Nat) (w1 : World) (h : nearN X e = r) => fsigned_near neg X e r w1 h)
 have hin := Lib.hid (inf_any 1 w)
 rw [if_pos (by decide)] at hin
 obtain ⟨qi, hqi⟩ : ∃ q : Nat, q = INF := ⟨_, rfl⟩
 rw [← hqi] at hin
 have HQI := Lib.hid hqi
 clear hqi
 clear hbits ha hx hv hXb
 go_enter Tryz.func73, Tryz.ntmps73
 go_wp2_with fail
 refine HBT.out.mono ?_; rintro x w1 ⟨bn, rfl, rfl, hb⟩
 rcases hb with ⟨hX0, rfl⟩ | ⟨hb1, hb2, hb3⟩
 ·have hX : X = 0 := by omega
  have hs0 := Lib.hid (HS.out 0 w (by rw [hX]; exact near_zero))
  clear hX0 hX
  go_wp2_with fail
  refine hs0.out.mono ?_; rintro x w1 ⟨rfl, rfl⟩
  go_wp2_with fail
  go_ret
  exact ⟨rfl, Below.refl _ _⟩
 ·have HB2 := Lib.hid (pow_of_int' hb2)
  have HB3 := Lib.hid (pow_of_int hb3)
  have hX0 : 0 < X := Nat.lt_of_lt_of_le (Nat.two_pow_pos _) HB2.out
  have hbn : bn ≤ 4800 := by
   have h1 := HXB.out
   rw [show (4294967296 : Int) = 2 ^ 32 from rfl, ← Int.pow_mul] at h1
   have h2 := pow_of_int h1
   have h3 : bn - 1 < 32 * 150 := two_pow_lt (Nat.lt_of_le_of_lt HB2.out h2)
   omega
  have hbz : ((bn : Int) == 0) = false := by simp; omega
  have hbn1 : (1 : Int) ≤ bn := by omega
  have hbn2 : (bn : Int) ≤ 4800 := by omega
  clear hb2 hb3
  go_upto_region 4 with fail
  go_cut [35] (fun v wx => v = .bool (bigE bn e) ∧ w = wx)
  case first =>
   by_cases h1 : 1100 < e
   ·go_wp2_with fail
    go_meet
    exact ⟨congrArg Value.bool (by simp [bigE]; omega), rfl⟩
   ·by_cases h2 : -1100 < e
    ·by_cases h3 : 1023 < (bn : Int) - 1 + e
     ·go_wp2_with fail
      go_meet
      exact ⟨congrArg Value.bool (by simp [bigE]; omega), rfl⟩
     ·go_wp2_with fail
      go_meet
      exact ⟨congrArg Value.bool (by simp [bigE]; omega), rfl⟩
    ·go_wp2_with fail
     go_meet
     exact ⟨congrArg Value.bool (by simp [bigE]; omega), rfl⟩
  case rest =>
   obtain ⟨hv35, rfl⟩ := hcut
   by_cases hbig : bigE bn e = true
   ·rw [hbig] at hv35
    subst hv35
    have hB := hbig
    clear hbig
    unfold bigE at hB
    have hB2 := of_decide_eq_true hB
    have hs0 := Lib.hid (HS.out qi w (by rw [HQI.out]; exact near_big HB2.out (by omega) (by omega)))
    clear hB hB2
    go_wp2_with fail
    refine hin.out.mono ?_; rintro x w1 ⟨rfl, rfl⟩
    go_wp2_with fail
    refine hs0.out.mono ?_; rintro x w1 ⟨rfl, rfl⟩
    go_wp2_with fail
    go_ret
    exact ⟨rfl, Below.refl _ _⟩
   ·have hbig2 : bigE bn e = false := by simpa using hbig
    rw [hbig2] at hv35
    subst hv35
    have hB := hbig2
    clear hbig2
    unfold bigE at hB
    have hB2 := of_decide_eq_false hB
    have he3 : e ≤ 1100 := by omega
    have HNB := Lib.hid hB2
    clear hbig hB hB2
    go_upto_region 6 with fail
    go_cut [49] (fun v wx => v = .bool (smallE bn e) ∧ w = wx)
    case first =>
     by_cases h1 : e < -2200 - (bn : Int)
     ·go_wp2_with fail
      go_meet
      exact ⟨congrArg Value.bool (by simp [smallE]; omega), rfl⟩
     ·by_cases h2 : (bn : Int) - 1 + e < -1076
      ·go_wp2_with fail
       go_meet
       exact ⟨congrArg Value.bool (by simp [smallE]; omega), rfl⟩
      ·go_wp2_with fail
       go_meet
       exact ⟨congrArg Value.bool (by simp [smallE]; omega), rfl⟩
    case rest =>
     obtain ⟨hv49, rfl⟩ := hcut
     by_cases hsm : smallE bn e = true
     ·rw [hsm] at hv49
      subst hv49
      have hS := hsm
      clear hsm
      unfold smallE at hS
      have hS2 := of_decide_eq_true hS
      have hs0 := Lib.hid (HS.out 0 w (near_small HB3.out hX0 (by omega)))
      clear hS hS2
      go_wp2_with fail
      refine hs0.out.mono ?_; rintro x w1 ⟨rfl, rfl⟩
      go_wp2_with fail
      go_ret
      exact ⟨rfl, Below.refl _ _⟩
     ·have hsm2 : smallE bn e = false := by simpa using hsm
      rw [hsm2] at hv49
      subst hv49
      have hS := hsm2
      clear hsm2
      unfold smallE at hS
      have hS2 := of_decide_eq_false hS
      have he4 : -7000 ≤ e := by omega
      have HNS := Lib.hid hS2
      clear hsm hS hS2
      obtain ⟨u, hu⟩ : ∃ u, unitE bn e = u := ⟨_, rfl⟩
      have hur : -1074 ≤ u ∧ (u = (bn : Int) - 53 + e ∨ u = -1074) ∧ (bn : Int) - 53 + e ≤ u := by rw [← hu]; unfold unitE; omega
      obtain ⟨hu1, hu2, hu3⟩ := hur
      have HU2 := Lib.hid hu2
      have HU3 := Lib.hid hu3
      clear hu hu2 hu3
      go_upto_region 8 with fail
      go_cut [8] (fun v wx => v = .int .i64 u ∧ w = wx)
      case first =>
       by_cases h1 : (bn : Int) - 53 + e < -1074
       ·go_wp2_with fail
        go_meet
        exact ⟨congrArg (Value.int .i64) (by have := HU2.out; have := HU3.out; omega), rfl⟩
       ·go_wp2_with fail
        go_meet
        exact ⟨congrArg (Value.int .i64) (by have := HU2.out; have := HU3.out; omega), rfl⟩
      case rest =>
       obtain ⟨rfl, rfl⟩ := hcut
       obtain ⟨cu, hcu⟩ : ∃ cu, u - e = cu := ⟨_, rfl⟩
       have hcu1 : -53 ≤ cu := by have := HU3.out; omega
       have hcu2 : cu ≤ 12000 := by rcases HU2.out with h | h <;> omega
       have hu5 : u ≤ 7000 := by rcases HU2.out with h | h <;> omega
       obtain ⟨U, hU⟩ : ∃ U : Nat, u = (U : Int) - 1074 := ⟨(u + 1074).toNat, by omega⟩
       have HNU := Lib.hid hU
       have HCU := Lib.hid hcu
       have hU2 : U ≤ 6000 := by
        rcases HU2.out with h | h
        ·have := HNB.out; omega
        ·omega
       by_cases hc0 : cu ≤ 0
       ·obtain ⟨k, hk⟩ : ∃ k : Nat, -cu = (k : Int) := ⟨(-cu).toNat, by omega⟩
        have hk2 : bn + k ≤ 53 := by have := HU3.out; omega
        have hshl := shl_all a n c (-cu) xs w HA.out HX.out (by omega)
        rw [HV.out] at hshl
        have HSH := Lib.hid hshl
        have hnear := near_add (e := e) (U := U) (c := k) HB3.out hX0 (by omega) hk2 (by
         rcases HU2.out with h | h
         ·right
          have e1 : bn - 1 + k = 52 := by omega
          have h2 := Nat.mul_le_mul_right (2 ^ k) HB2.out
          rw [← Nat.pow_add, e1] at h2
          exact h2
         ·exact .inl (by omega))
        have hvb : X * 2 ^ k < 9007199254740992 := by
         have h1 : X * 2 ^ k < 2 ^ bn * 2 ^ k := Nat.mul_lt_mul_of_pos_right HB3.out (Nat.two_pow_pos _)
         rw [← Nat.pow_add] at h1
         exact Nat.lt_of_lt_of_le h1 (Nat.pow_le_pow_right (by decide) hk2)
        have hlo : U = 0 ∨ 4503599627370496 ≤ X * 2 ^ k := by
         rcases HU2.out with h | h
         ·right
          have e1 : bn - 1 + k = 52 := by omega
          have h2 := Nat.mul_le_mul_right (2 ^ k) HB2.out
          rw [← Nat.pow_add, e1] at h2
          exact h2
         ·exact .inl (by omega)
        have hcast := shl_cast X k
        generalize X * 2 ^ k = vn at *
        obtain ⟨r, hr⟩ : ∃ r, min (U * 4503599627370496 + vn) INF = r := ⟨_, rfl⟩
        have hnr : nearN X e = r := by rw [hnear]; exact hr
        have HLD : Hid (∀ w1, Calls Tryz.prog 97 #[.float .f64 (floatOfInt .f64 (vn : Int)), .int .i64 u] w1 fun x w' => x = .returned (.float .f64 r) ∧ w1 = w') := Lib.hid (fun w1 => by rw [hU, ← hr]; exact ldexp_all vn U w1 (by omega) hU2 hlo)
        have HNR := Lib.hid hnr
        have HK := Lib.hid hk
        have HC := Lib.hid hcast
        have hvb2 : (vn : Int) ≤ 9007199254740991 := by omega
        have hk5 : k ≤ 53 := by omega
        clear hshl hnear hk hcast hvb hlo hU hU2 hr hnr
        go_wp2_with fail
        refine HSH.out.mono ?_; rintro x w1 hs
        rcases hs with ⟨hbad, -, -⟩ | ⟨N, hN, -, al, nl, cl, rfl, hNL, hb1, -⟩
        ·have := HK.out; omega
        have hNk : N = k := by have := HK.out; omega
        rw [hNk, ← HC.out] at hNL
        have hnl : nl ≤ 2 := hNL.len (by omega)
        obtain ⟨ls, hlr, hld, hlv, -⟩ := hNL.tl
        have hui := nuint_any al nl cl ls w1 hlr hld (by omega)
        rw [hlv] at hui
        have HUI := Lib.hid hui
        have HB1 := Lib.hid hb1
        clear hNL hlr hld hlv hui hb1 hNk hN hnl
        go_wp2_with fail
        refine HUI.out.mono ?_; rintro x w2 ⟨hu, hb2⟩
        have hue := hu.1 (by omega)
        subst hue
        have HB2' := Lib.hid (HB1.out.trans (hb2.mono HB1.out.size))
        clear hu hb2
        go_wp2_with fail
        refine (HLD.out w2).mono ?_; rintro x w3 ⟨rfl, rfl⟩
        have hs0 := Lib.hid (HS.out r w2 HNR.out)
        go_wp2_with fail
        refine hs0.out.mono ?_; rintro x w3 ⟨rfl, rfl⟩
        go_wp2_with fail
        go_ret
        exact ⟨rfl, HB2'.out⟩
       ·obtain ⟨k, hk⟩ : ∃ k : Nat, cu = (k : Int) := ⟨cu.toNat, by omega⟩
        have hk0 : 0 < k := by omega
        have hk2 : bn ≤ k + 53 := by have := HU3.out; omega
        have hk3 : k ≤ 12000 := by omega
        have hshr := shr_all a n c cu xs w HA.out HX.out (by omega) (by omega)
        rw [HV.out, show cu.toNat = k from by omega, ← div_cast] at hshr
        have HSH := Lib.hid hshr
        have hlo : U = 0 ∨ 2 ^ (k + 52) ≤ X := by
         rcases HU2.out with h | h
         ·right
          rw [show k + 52 = bn - 1 from by omega]
          exact HB2.out
         ·exact .inl (by omega)
        have hnear := near_cut (e := e) (U := U) (c := k) HB3.out hX0 (by omega) hk2 hlo
        have hvb : X / 2 ^ k < 9007199254740992 := by
         rw [Nat.div_lt_iff_lt_mul (Nat.two_pow_pos k)]
         have h1 : (2 : Nat) ^ bn ≤ 2 ^ (53 + k) := Nat.pow_le_pow_right (by decide) (by omega)
         rw [Nat.pow_add] at h1
         exact Nat.lt_of_lt_of_le HB3.out h1
        have hvl : U = 0 ∨ 4503599627370496 ≤ X / 2 ^ k := by
         rcases hlo with h | h
         ·exact .inl h
         ·right
          rw [Nat.le_div_iff_mul_le (Nat.two_pow_pos k)]
          rw [Nat.add_comm, Nat.pow_add] at h
          exact h
        have HBITS := Lib.hid (fun (r : Nat) (hr : IsHalf (X : Int) r) => rne_bits (v := X / 2 ^ k) hk0 hX0 hr rfl)
        have hbitc : decide ((X : Int) / 2 ^ (k - 1) % 2 = 1) = decide (X / 2 ^ (k - 1) % 2 = 1) := by
         rw [← div_cast, Bool.eq_iff_iff, decide_eq_true_iff, decide_eq_true_iff]
         generalize X / 2 ^ (k - 1) = t
         omega
        have HFB := Lib.hid (fun (w1 : World) (hw : Below w.heap.size w w1) => fbit_any a n c xs (k - 1) w1 (HA.out.below hw (Nat.le_refl _)) HX.out (by omega))
        rw [HV.out, hbitc, show ((k - 1 : Nat) : Int) = cu - 1 from by omega] at HFB
        obtain ⟨c1, hc1e⟩ : ∃ c1, cu - 1 = c1 := ⟨_, rfl⟩
        rw [hc1e] at HFB
        have HC1 := Lib.hid hc1e
        have HNG := Lib.hid (fun (w1 : World) (hw : Below w.heap.size w w1) => noughts_any a n c xs w1 (HA.out.below hw (Nat.le_refl _)) HX.out (by omega))
        rw [HV.out] at HNG
        have HXK : Hid (((X / 2 ^ k : Nat) : Int) < 18446744073709551616) := Lib.hid (by omega)
        generalize X / 2 ^ k = v0 at *
        have HLD : Hid (∀ (v : Nat) (vi : Int) (w1 : World), vi = (v : Int) → v ≤ 9007199254740992 → (U = 0 ∨ 4503599627370496 ≤ v) → rne X (2 ^ k) = v → Calls Tryz.prog 97 #[.float .f64 (floatOfInt .f64 vi), .int .i64 u] w1 fun x w' => x = .returned (.float .f64 (nearN X e)) ∧ w1 = w') := Lib.hid (fun v vi w1 h1 h2 h3 h4 => by
         rw [hU, h1, hnear, h4]
         exact ldexp_all v U w1 h2 hU2 h3)
        obtain ⟨hb0, hhb⟩ : ∃ b, decide (X / 2 ^ (k - 1) % 2 = 1) = b := ⟨_, rfl⟩
        rw [hhb] at HFB
        have HHB := Lib.hid hhb
        have HK := Lib.hid hk
        have HVL := Lib.hid hvl
        have hvb2 : (v0 : Int) ≤ 9007199254740991 := by omega
        obtain ⟨r, hr⟩ : ∃ r, nearN X e = r := ⟨_, rfl⟩
        rw [hr] at HLD
        have HNR := Lib.hid hr
        clear hshr hnear hk hvb hvl hlo hU hU2 hbitc hhb hr hk0 hk2 hk3
        go_wp2_with fail
        refine HSH.out.mono ?_; rintro x w1 ⟨al, nl, cl, rfl, hNL, hb1, -⟩
        have hnl : nl ≤ 2 := hNL.len (by have := HXK.out; omega)
        obtain ⟨ls, hlr, hld, hlv, -⟩ := hNL.tl
        have hui := nuint_any al nl cl ls w1 hlr hld (by omega)
        rw [hlv] at hui
        have HUI := Lib.hid hui
        have HB1 := Lib.hid hb1
        clear hNL hlr hld hlv hui hb1 hnl
        go_wp2_with fail
        refine HUI.out.mono ?_; rintro x w2 ⟨hu, hb2⟩
        have hue := hu.1 HXK.out
        subst hue
        have HB2' := Lib.hid (HB1.out.trans (hb2.mono HB1.out.size))
        clear hu hb2
        go_wp2_with fail
        refine (HFB.out w2 HB2'.out).mono ?_; rintro x w3 ⟨rfl, rfl⟩
        have hs0 := Lib.hid (HS.out r w2 HNR.out)
        have hnew := Lib.hid (HNG.out w2 HB2'.out)
        cases hb0
        ·have hne : rne X (2 ^ k) = v0 := by
          obtain ⟨rr, hrr⟩ := half_exist hX0
          rw [HBITS.out rr hrr, if_neg (fun h => by have := of_decide_eq_false HHB.out; exact this h.1)]
         have hl := Lib.hid (HLD.out v0 _ w2 rfl (by omega) HVL.out hne)
         clear hne
         go_wp2_with fail
         refine hl.out.mono ?_; rintro x w3 ⟨rfl, rfl⟩
         go_wp2_with fail
         refine hs0.out.mono ?_; rintro x w3 ⟨rfl, rfl⟩
         go_wp2_with fail
         go_ret
         exact ⟨rfl, HB2'.out⟩
        ·have hh := of_decide_eq_true HHB.out
         by_cases hodd : v0 % 2 = 1
         ·have ho : ((v0 : Int) % 2 == 1) = true := by simp; omega
          have hne : rne X (2 ^ k) = v0 + 1 := by
           obtain ⟨rr, hrr⟩ := half_exist hX0
           rw [HBITS.out rr hrr, if_pos ⟨hh, .inl hodd⟩]
          have hl := Lib.hid (HLD.out (v0 + 1) ((v0 : Int) + 1) w2 (by omega) (by omega) (by rcases HVL.out with h | h; exact .inl h; exact .inr (by omega)) hne)
          clear hne hh hodd
          go_wp2_with fail
          refine hl.out.mono ?_; rintro x w3 ⟨rfl, rfl⟩
          go_wp2_with fail
          refine hs0.out.mono ?_; rintro x w3 ⟨rfl, rfl⟩
          go_wp2_with fail
          go_ret
          exact ⟨rfl, HB2'.out⟩
         ·have ho : ((v0 : Int) % 2 == 1) = false := by simp; omega
          have HH2 := Lib.hid hh
          have HOD := Lib.hid hodd
          clear hh hodd
          go_wp2_with fail
          refine hnew.out.mono ?_; rintro x w3 ⟨rr, rfl, rfl, hrr⟩
          by_cases hlt : (rr : Int) < c1
          ·have hne : rne X (2 ^ k) = v0 + 1 := by
            rw [HBITS.out rr hrr, if_pos ⟨HH2.out, .inr (by have := HK.out; have := HC1.out; omega)⟩]
           have hl := Lib.hid (HLD.out (v0 + 1) ((v0 : Int) + 1) w2 (by omega) (by omega) (by rcases HVL.out with h | h; exact .inl h; exact .inr (by omega)) hne)
           clear hne hrr
           go_wp2_with fail
           refine hl.out.mono ?_; rintro x w3 ⟨rfl, rfl⟩
           go_wp2_with fail
           refine hs0.out.mono ?_; rintro x w3 ⟨rfl, rfl⟩
           go_wp2_with fail
           go_ret
           exact ⟨rfl, HB2'.out⟩
          ·have hne : rne X (2 ^ k) = v0 := by
            rw [HBITS.out rr hrr, if_neg (fun h => by
             rcases h.2 with h1 | h1
             ·exact HOD.out h1
             ·have := HK.out; have := HC1.out; omega)]
           have hl := Lib.hid (HLD.out v0 _ w2 rfl (by omega) HVL.out hne)
           have hdec : decide ((rr : Int) < c1) = false := by simpa using hlt
           clear hne hrr hlt
           go_wp2_with fail
           refine hl.out.mono ?_; rintro x w3 ⟨rfl, rfl⟩
           go_wp2_with fail
           refine hs0.out.mono ?_; rintro x w3 ⟨rfl, rfl⟩
           go_wp2_with fail
           go_ret
           exact ⟨rfl, HB2'.out⟩
end Go.Proofs.YtehmompbmnejkaaGreat
