/- Plain theory of 64-bit floating point: rungs, their numbers, order, rounding. No conditions. -/
import Derived.Test.YtehmompbmnejkaaGreatMNatA
import Derived.Laws.FloatArith
import Derived.Laws.Externs
import Derived.WalkLawsBesides
namespace Go.Proofs.YtehmompbmnejkaaGreat
open Ieee

/-- rungs to a binade; the rung of infinity; the sign's weight -/
abbrev B52 : Nat := 4503599627370496
abbrev INF : Nat := 9218868437227405312
abbrev S63 : Nat := 9223372036854775808

def mg (r : Nat) : Nat := if r < B52 then r else B52 + r % B52
def sh (r : Nat) : Nat := if r < B52 then 0 else r / B52 - 1
/-- a rung's number, in units of 2^-1074 -/
def iv (r : Nat) : Nat := mg r * 2 ^ sh r

theorem iv_zero : iv 0 = 0 := by decide
theorem iv_succ (r : Nat) : iv (r + 1) = iv r + 2 ^ sh r := by
 unfold iv mg sh B52
 by_cases h1 : r + 1 < 4503599627370496
 ·rw [if_pos h1, if_pos h1, if_pos (by omega), if_pos (by omega)]
  simp
 ·by_cases h2 : r + 1 = 4503599627370496
  ·have h3 : r = 4503599627370495 := by omega
   subst h3; decide
  ·rw [if_neg h1, if_neg h1, if_neg (by omega), if_neg (by omega)]
   by_cases h4 : r % 4503599627370496 = 4503599627370495
   ·have e1 : (r + 1) % 4503599627370496 = 0 := by omega
    have e2 : (r + 1) / 4503599627370496 - 1 = (r / 4503599627370496 - 1) + 1 := by omega
    rw [e1, e2, h4, Nat.pow_succ]
    omega
   ·have e1 : (r + 1) % 4503599627370496 = r % 4503599627370496 + 1 := by omega
    have e2 : (r + 1) / 4503599627370496 = r / 4503599627370496 := by omega
    rw [e1, e2, ← Nat.add_assoc, Nat.add_mul (4503599627370496 + r % 4503599627370496) 1, Nat.one_mul]
theorem iv_lt {r s : Nat} (h : r < s) : iv r < iv s := by
 obtain ⟨k, rfl⟩ : ∃ k, s = r + k + 1 := ⟨s - r - 1, by omega⟩
 clear h
 induction k with
 | zero => rw [iv_succ]; have := Nat.two_pow_pos (sh (r + 0)); simp at *; omega
 | succ k ih =>
  have h1 := iv_succ (r + k + 1)
  have h2 := Nat.two_pow_pos (sh (r + k + 1))
  have e : r + (k + 1) + 1 = r + k + 1 + 1 := by omega
  rw [e]; omega
theorem iv_inj {r s : Nat} (h : iv r = iv s) : r = s := by
 rcases Nat.lt_trichotomy r s with h1 | h1 | h1
 ·have := iv_lt h1; omega
 ·exact h1
 ·have := iv_lt h1; omega
theorem iv_le {r s : Nat} (h : r ≤ s) : iv r ≤ iv s := by
 rcases Nat.lt_or_ge r s with h1 | h1
 ·exact Nat.le_of_lt (iv_lt h1)
 ·have : r = s := by omega
  subst this; exact Nat.le_refl _
theorem iv_pos {r : Nat} (h : 0 < r) : 0 < iv r := by have := iv_lt h; rw [iv_zero] at this; exact this
theorem mg_lt (r : Nat) : mg r < 2 * B52 := by
 unfold mg B52
 split <;> omega
theorem mg_ge {r : Nat} (h : sh r ≠ 0 ∨ B52 ≤ r) : B52 ≤ mg r := by
 unfold mg sh B52 at *
 split
 ·rename_i h1; rw [if_pos h1] at h; omega
 ·omega
theorem rung_eq (r : Nat) : sh r * B52 + mg r = r := by
 unfold mg sh B52
 split <;> omega
/-- the rung of m 2^t, m of at most 53 bits -/
theorem rung_of {m t : Nat} (h1 : m ≤ 2 * B52) (h2 : t = 0 ∨ B52 ≤ m) : iv (t * B52 + m) = m * 2 ^ t := by
 unfold iv mg sh B52 at *
 by_cases h3 : m = 2 * 4503599627370496
 ·have e1 : (t * 4503599627370496 + m) % 4503599627370496 = 0 := by omega
  have e2 : (t * 4503599627370496 + m) / 4503599627370496 - 1 = t + 1 := by omega
  rw [if_neg (by omega), if_neg (by omega), e1, e2, h3, Nat.pow_succ]
  omega
 ·rcases Nat.lt_or_ge m 4503599627370496 with h4 | h4
  ·have : t = 0 := by omega
   subst this
   simp only [Nat.zero_mul, Nat.zero_add]
   rw [if_pos h4, if_pos h4]
  ·have e1 : (t * 4503599627370496 + m) % 4503599627370496 = m - 4503599627370496 := by omega
   have e2 : (t * 4503599627370496 + m) / 4503599627370496 - 1 = t := by omega
   rw [if_neg (by omega), if_neg (by omega), e1, e2, Nat.add_sub_cancel' h4]

/-- n by d to the nearest whole number, between two to the even one -/
def rne (n d : Nat) : Nat := n / d + (decide (d < 2 * (n % d)) || (decide (d = 2 * (n % d)) && decide (n / d % 2 = 1))).toNat
theorem rne_mul {m d : Nat} (h : 0 < d) : rne (m * d) d = m := by
 unfold rne
 rw [Nat.mul_div_cancel _ h, Nat.mul_mod_left]
 have h1 : decide (d < 2 * 0) = false := by simp
 have h2 : decide (d = 2 * 0) = false := by simp; omega
 rw [h1, h2]; rfl
theorem rne_scale {n d k : Nat} (h : 0 < k) : rne (n * k) (d * k) = rne n d := by
 unfold rne
 have e1 : n * k / (d * k) = n / d := Nat.mul_div_mul_right n d h
 have e2 : n * k % (d * k) = n % d * k := Nat.mul_mod_mul_right k n d
 rw [e1, e2]
 have e3 : 2 * (n % d * k) = 2 * (n % d) * k := by rw [Nat.mul_assoc]
 rw [e3]
 have e4 : decide (d * k < 2 * (n % d) * k) = decide (d < 2 * (n % d)) := decide_eq_decide.2 (Nat.mul_lt_mul_right h)
 have e5 : decide (d * k = 2 * (n % d) * k) = decide (d = 2 * (n % d)) := decide_eq_decide.2 (Nat.mul_left_inj (by omega))
 rw [e4, e5]
theorem rne_ratio {x y n d : Nat} (hy : 0 < y) (hd : 0 < d) (h : x * d = n * y) : rne x y = rne n d := by
 rw [← rne_scale (k := d) hd, h, Nat.mul_comm y d, rne_scale hy]
theorem rne_le {n d m : Nat} (hd : 0 < d) (h : n ≤ m * d) : rne n d ≤ m := by
 unfold rne
 have h1 := Nat.div_add_mod n d
 have h2 := Nat.mod_lt n hd
 rcases Nat.lt_or_ge (n / d) m with h3 | h3
 ·have : (decide (d < 2 * (n % d)) || (decide (d = 2 * (n % d)) && decide (n / d % 2 = 1))).toNat ≤ 1 := Bool.toNat_le _
  omega
 ·have h4 : d * m ≤ d * (n / d) := Nat.mul_le_mul_left d h3
  have h5 : n % d = 0 := by rw [Nat.mul_comm m d] at h; omega
  have h6 : n / d ≤ m := by
   have := Nat.div_le_div_right (c := d) h
   rwa [Nat.mul_div_cancel _ hd] at this
  rw [h5]
  have h1 : decide (d < 2 * 0) = false := by simp
  have h2 : decide (d = 2 * 0) = false := by simp; omega
  rw [h1, h2]; simpa using h6
theorem cut_even (neg : Bool) (n drop : Nat) : Toward.even.cut neg n drop = rne n (2 ^ drop) := by
 unfold Toward.cut rne
 have hlog : n < 2 ^ (n.log2 + 1) := Nat.lt_log2_self
 simp only [Nat.one_shiftLeft]
 rcases Nat.lt_or_ge (n.log2 + 2) drop with h | h
 ·rw [Nat.min_eq_right (by omega)]
  have hp : 2 ^ (n.log2 + 2) = 2 * 2 ^ (n.log2 + 1) := by rw [Nat.pow_succ]; omega
  have hq : 2 ^ (n.log2 + 2) ≤ 2 ^ drop := Nat.pow_le_pow_right (by decide) (by omega)
  have a1 : n / 2 ^ (n.log2 + 2) = 0 := Nat.div_eq_of_lt (by omega)
  have a2 : n % 2 ^ (n.log2 + 2) = n := Nat.mod_eq_of_lt (by omega)
  have b1 : n / 2 ^ drop = 0 := Nat.div_eq_of_lt (by omega)
  have b2 : n % 2 ^ drop = n := Nat.mod_eq_of_lt (by omega)
  rw [a1, a2, b1, b2]
  have c1 : decide (2 ^ (n.log2 + 2) < 2 * n) = false := by simp; omega
  have c2 : decide (2 ^ drop < 2 * n) = false := by simp; omega
  rw [c1, c2]
  simp
 ·rw [Nat.min_eq_left h]
  congr 2
theorem word_pos (r : Nat) : double.word false r = r := rfl
/-- the last digit's place of a number N by D, in units of 2^-1074 -/
structure Unit (N D t : Nat) : Prop where
 hD : 0 < D
 hi : N < D * 2 ^ (t + 53)
 lo : t = 0 ∨ D * 2 ^ (t + 52) ≤ N
theorem two_pow_lt {a b : Nat} (h : 2 ^ a < 2 ^ b) : a < b := (Nat.pow_lt_pow_iff_right (by decide)).1 h
theorem nearest_of {N D t mag a b : Nat} {place : Int} (neg : Bool) (hu : Unit N D t) (hm : 0 < mag) (hp : place + 1074 = (a : Int) - (b : Int)) (hv : mag * 2 ^ a * D = N * 2 ^ b) :
    double.nearest neg mag place = double.word neg (min (t * B52 + rne N (D * 2 ^ t)) INF) := by
  obtain ⟨hD, hi, lo⟩ := hu
  have hl1 : 2 ^ mag.log2 ≤ mag := Nat.log2_self_le (by omega)
  have hl2 : mag < 2 ^ (mag.log2 + 1) := Nat.lt_log2_self
  have hlast : max (place + (mag.log2 : Int) - 52) (-1074) = (t : Int) - 1074 := by
    have k1 : mag.log2 + a < t + 53 + b := by
      apply two_pow_lt
      have h1 : mag * 2 ^ a * D < D * 2 ^ (t + 53) * 2 ^ b := by rw [hv]; exact Nat.mul_lt_mul_of_pos_right hi (Nat.two_pow_pos _)
      rw [Nat.mul_comm, Nat.mul_assoc] at h1
      have h2 := Nat.lt_of_mul_lt_mul_left h1
      rw [Nat.pow_add, Nat.pow_add 2 (t + 53)]
      exact Nat.lt_of_le_of_lt (Nat.mul_le_mul_right _ hl1) h2
    rcases lo with h0 | h0
    · subst h0; omega
    · have k2 : t + 52 + b < mag.log2 + 1 + a := by
        apply two_pow_lt
        have h1 : D * 2 ^ (t + 52) * 2 ^ b ≤ mag * 2 ^ a * D := by rw [hv]; exact Nat.mul_le_mul_right _ h0
        rw [Nat.mul_comm (mag * 2 ^ a), Nat.mul_assoc] at h1
        have h2 := Nat.le_of_mul_le_mul_left h1 hD
        rw [Nat.pow_add 2 (t + 52), Nat.pow_add 2 (mag.log2 + 1)]
        exact Nat.lt_of_le_of_lt h2 (Nat.mul_lt_mul_of_pos_right hl2 (Nat.two_pow_pos _))
      omega
  unfold Format.nearest
  rw [if_neg (by omega)]
  have e1 : ((double.fractionBits : Nat) : Int) = 52 := rfl
  have e2 : double.leastPlace = -1074 := by decide
  have e3 : double.binade = B52 := rfl
  have e4 : double.infRung = INF := by decide
  simp only [e1, e2, e3, e4, hlast]
  rw [cut_even, Nat.shiftLeft_eq]
  have e5 : ((t : Int) - 1074 - -1074).toNat = t := by omega
  rw [e5]
  congr 3
  apply rne_ratio (Nat.two_pow_pos _) (Nat.mul_pos hD (Nat.two_pow_pos _))
  generalize hu : (place - ((t : Int) - 1074)).toNat = u
  generalize hw : ((t : Int) - 1074 - place).toNat = v
  have huv : u + b + t = a + v := by omega
  -- mag 2^u D 2^t = N 2^v, both times 2^b
  apply Nat.eq_of_mul_eq_mul_right (Nat.two_pow_pos b)
  calc mag * 2 ^ u * (D * 2 ^ t) * 2 ^ b = mag * D * 2 ^ (u + b + t) := by
        rw [Nat.pow_add, Nat.pow_add]
        ac_rfl
    _ = mag * 2 ^ a * D * 2 ^ v := by
        rw [huv, Nat.pow_add]
        ac_rfl
    _ = N * 2 ^ v * 2 ^ b := by
        rw [hv]
        ac_rfl
end Go.Proofs.YtehmompbmnejkaaGreat
/- Plain theory of 64-bit floating point: what words stand for, how they compare, exact products and halves. No conditions. -/
namespace Go.Proofs.YtehmompbmnejkaaGreat
open Ieee

theorem dbl_binade : double.binade = B52 := rfl
theorem dbl_inf : double.infRung = INF := by decide
theorem dbl_sign : double.signWeight = S63 := by decide
theorem dbl_least : double.leastPlace = -1074 := by decide
theorem read_fin {b : Nat} (hb : b < 18446744073709551616) (h : b % S63 < INF) : double.read b = .number (decide (S63 ≤ b)) (mg (b % S63)) (-1074 + (sh (b % S63) : Nat)) := by
 unfold Format.read
 rw [dbl_binade, dbl_inf, dbl_sign, dbl_least]
 have hs : (b / S63 % 2 == 1) = decide (S63 ≤ b) := by
  unfold S63 at *
  by_cases h1 : 9223372036854775808 ≤ b
  ·have : b / 9223372036854775808 = 1 := by omega
   rw [this]; simp [h1]
  ·have : b / 9223372036854775808 = 0 := by omega
   rw [this]; simp [h1]
 simp only [hs]
 unfold mg sh
 by_cases h1 : b % S63 < B52
 ·rw [if_pos h1, if_pos h1, if_pos h1]
  rfl
 ·rw [if_neg h1, if_pos h, if_neg h1, if_neg h1]
theorem read_inf {b : Nat} (hb : b < 18446744073709551616) (h : b % S63 = INF) : double.read b = .infinity (decide (S63 ≤ b)) := by
 unfold Format.read
 rw [dbl_binade, dbl_inf, dbl_sign, dbl_least]
 have hs : (b / S63 % 2 == 1) = decide (S63 ≤ b) := by
  unfold S63 at *
  by_cases h1 : 9223372036854775808 ≤ b
  ·have : b / 9223372036854775808 = 1 := by omega
   rw [this]; simp [h1]
  ·have : b / 9223372036854775808 = 0 := by omega
   rw [this]; simp [h1]
 simp only [hs, h]
 rw [if_neg (by decide), if_neg (by decide), if_pos trivial]
theorem read_nan {b : Nat} (h : INF < b % S63) : ∃ s q, double.read b = .nan s q := by
 unfold Format.read
 rw [dbl_binade, dbl_inf, dbl_sign, dbl_least]
 have h1 : ¬ b % S63 < B52 := by unfold B52; unfold INF at h; omega
 have h2 : ¬ b % S63 < INF := by omega
 have h3 : ¬ b % S63 = INF := by omega
 exact ⟨_, _, by rw [if_neg h1, if_neg h2, if_neg h3]⟩

/-- a number with its sign -/
def sg (s : Bool) (n : Nat) : Int := if s then -(n : Int) else (n : Int)
/-- a word's place in the order, both noughts alike -/
def sk (b : Nat) : Int := sg (decide (S63 ≤ b)) (b % S63)

theorem cmp_congr {a b c d : Int} (h1 : a < b ↔ c < d) (h2 : a = b ↔ c = d) : compare a b = compare c d := by
 simp only [compare, compareOfLessAndEq, h1, h2]
theorem cmp_lt {a b : Int} (h : a < b) : compare a b = .lt := by
 simp only [compare, compareOfLessAndEq]; rw [if_pos h]
theorem cmp_gt {a b : Int} (h : b < a) : compare a b = .gt := by
 simp only [compare, compareOfLessAndEq]; rw [if_neg (by omega), if_neg (by omega)]
theorem cmp_same {a b : Int} (h : a = b) : compare a b = .eq := by
 simp only [compare, compareOfLessAndEq]; rw [if_neg (by omega), if_pos h]
theorem signed_eq (s : Bool) (m k : Nat) : Ieee.signed s m k = sg s (m * 2 ^ k) := by
 unfold Ieee.signed sg
 rw [Nat.shiftLeft_eq]
theorem sg_scale (s t : Bool) (m n k : Nat) : compare (sg s (m * 2 ^ k)) (sg t (n * 2 ^ k)) = compare (sg s m) (sg t n) := by
 have e : ∀ (u : Bool) (x : Nat), sg u (x * 2 ^ k) = sg u x * (2 ^ k : Nat) := by
  intro u x; unfold sg; cases u <;> simp [Int.neg_mul]
 have p : (0 : Int) < (2 ^ k : Nat) := by exact_mod_cast Nat.two_pow_pos k
 rw [e, e]
 generalize ((2 ^ k : Nat) : Int) = P at *
 exact cmp_congr (Int.mul_lt_mul_right p) ⟨fun h => Int.eq_of_mul_eq_mul_right (by omega) h, fun h => by rw [h]⟩
theorem sg_iv (s t : Bool) (r q : Nat) : compare (sg s (iv r)) (sg t (iv q)) = compare (sg s r) (sg t q) := by
 have f1 : r < q → iv r < iv q := iv_lt
 have f2 : q < r → iv q < iv r := iv_lt
 have f3 : r = q → iv r = iv q := fun h => by rw [h]
 have f4 : 0 < r → 0 < iv r := iv_pos
 have f5 : 0 < q → 0 < iv q := iv_pos
 have f6 : r = 0 → iv r = 0 := fun h => by rw [h]; exact iv_zero
 have f7 : q = 0 → iv q = 0 := fun h => by rw [h]; exact iv_zero
 generalize iv r = x at *
 generalize iv q = y at *
 unfold sg
 apply cmp_congr <;> cases s <;> cases t <;> simp <;> omega
theorem sg_inf (s : Bool) {x : Nat} (h : x < INF) : sg s x < sg false INF ∧ sg true INF < sg s x := by
 unfold sg INF at *
 cases s <;> simp <;> omega
/-- words that are numbers or infinite are ordered by their places -/
theorem order_num {b c : Nat} (hb : b < 18446744073709551616) (hc : c < 18446744073709551616) (nb : b % S63 ≤ INF) (nc : c % S63 ≤ INF) : double.order b c = some (compare (sk b) (sk c)) := by
 unfold Format.order sk
 generalize hs : decide (S63 ≤ b) = s
 generalize ht : decide (S63 ≤ c) = t
 rcases Nat.lt_or_ge (b % S63) INF with h1 | h1
 ·rcases Nat.lt_or_ge (c % S63) INF with h2 | h2
  ·rw [read_fin hb h1, read_fin hc h2, hs, ht]
   generalize b % S63 = r at *
   generalize c % S63 = q at *
   unfold Datum.order
   simp only
   rw [signed_eq, signed_eq, ← sg_iv s t r q]
   congr 1
   rw [← sg_scale s t (mg r * 2 ^ (-1074 + (sh r : Int) - min (-1074 + (sh r : Int)) (-1074 + (sh q : Int))).toNat) _ (min (sh r) (sh q))]
   unfold iv
   have e1 : (-1074 + (sh r : Int) - min (-1074 + (sh r : Int)) (-1074 + (sh q : Int))).toNat + min (sh r) (sh q) = sh r := by omega
   have e2 : (-1074 + (sh q : Int) - min (-1074 + (sh r : Int)) (-1074 + (sh q : Int))).toNat + min (sh r) (sh q) = sh q := by omega
   rw [Nat.mul_assoc, Nat.mul_assoc, ← Nat.pow_add, ← Nat.pow_add, e1, e2]
  ·have h3 : c % S63 = INF := by omega
   rw [read_fin hb h1, read_inf hc h3, hs, ht, h3]
   generalize b % S63 = x at *
   show some (if t then Ordering.gt else .lt) = _
   congr 1
   cases t
   ·exact (cmp_lt (sg_inf s h1).1).symm
   ·exact (cmp_gt (sg_inf s h1).2).symm
 ·have h3 : b % S63 = INF := by omega
  rcases Nat.lt_or_ge (c % S63) INF with h2 | h2
  ·rw [read_inf hb h3, read_fin hc h2, hs, ht, h3]
   generalize c % S63 = x at *
   show some (if s then Ordering.lt else .gt) = _
   congr 1
   cases s
   ·exact (cmp_gt (sg_inf t h2).1).symm
   ·exact (cmp_lt (sg_inf t h2).2).symm
  ·have h4 : c % S63 = INF := by omega
   rw [read_inf hb h3, read_inf hc h4, hs, ht, h3, h4]
   cases s <;> cases t <;> rfl
theorem order_nan {b c : Nat} (h : INF < b % S63 ∨ INF < c % S63) : double.order b c = none := by
 unfold Format.order
 rcases h with h | h
 ·obtain ⟨s, q, e⟩ := read_nan h
  rw [e]; rfl
 ·obtain ⟨s, q, e⟩ := read_nan h
  rw [e]
  cases double.read b <;> rfl
end Go.Proofs.YtehmompbmnejkaaGreat
/- Contracts of the library's small functions on floats: Float64bits, Float64frombits, Abs, IsInf, Inf, NaN, Copysign. Conditions: the word is below 2^64. -/
namespace Go.Proofs.YtehmompbmnejkaaGreat
open Go.RowKit Ieee

theorem bits_and_u64 {a b : Nat} (ha : a < 18446744073709551616) (hb : b < 18446744073709551616) : bits .and .u64 (a : Int) (b : Int) = ((a &&& b : Nat) : Int) := by
 have e : bits .and .u64 (a : Int) (b : Int) = IntKind.u64.wrap (((((a : Int) % 18446744073709551616).toNat &&& ((b : Int) % 18446744073709551616).toNat) : Nat) : Int) := by
  show IntKind.u64.wrap ((BitVec.ofInt 64 a &&& BitVec.ofInt 64 b).toNat : Int) = _
  rw [BitVec.toNat_and, BitVec.toNat_ofInt, BitVec.toNat_ofInt]
  rfl
 rw [e, Int.emod_eq_of_lt (by omega) (by omega), Int.emod_eq_of_lt (by omega) (by omega), Int.toNat_natCast, Int.toNat_natCast]
 have h : a &&& b ≤ a := Nat.and_le_left
 exact IntWalk.u64_in _ (by omega)
theorem andNot_63 {a : Nat} (ha : a < 18446744073709551616) : bits .andNot .u64 (a : Int) 9223372036854775808 = ((a % 9223372036854775808 : Nat) : Int) := by
 have e : bits .andNot .u64 (a : Int) 9223372036854775808 = bits .and .u64 (a : Int) ((9223372036854775807 : Nat) : Int) := by
  show IntKind.u64.wrap ((BitVec.ofInt 64 a &&& ~~~(BitVec.ofInt 64 9223372036854775808)).toNat : Int) = IntKind.u64.wrap ((BitVec.ofInt 64 a &&& BitVec.ofInt 64 ((9223372036854775807 : Nat) : Int)).toNat : Int)
  rw [show ~~~(BitVec.ofInt 64 9223372036854775808) = BitVec.ofInt 64 ((9223372036854775807 : Nat) : Int) from by decide]
 rw [e, bits_and_u64 ha (by decide), show (9223372036854775807 : Nat) = 2 ^ 63 - 1 from rfl, Nat.and_two_pow_sub_one_eq_mod]
theorem and_63 {a : Nat} (ha : a < 18446744073709551616) : bits .and .u64 (a : Int) 9223372036854775808 = ((a / 9223372036854775808 * 9223372036854775808 : Nat) : Int) := by
 have h := bits_and_u64 (b := 9223372036854775808) ha (by decide)
 rw [show ((9223372036854775808 : Nat) : Int) = 9223372036854775808 from rfl] at h
 rw [h]
 congr 1
 show a &&& 2 ^ 63 = a / 2 ^ 63 * 2 ^ 63
 apply Nat.eq_of_testBit_eq
 intro i
 rw [Nat.testBit_and, Nat.testBit_two_pow, Nat.testBit_mul_two_pow]
 by_cases hi : 63 = i
 ·subst hi
  rw [Nat.testBit_div_two_pow]
  simp
 ·by_cases hj : 63 ≤ i
  ·have hk : a.testBit i = false := Nat.testBit_lt_two_pow (Nat.lt_of_lt_of_le (show a < 2 ^ 64 from ha) (Nat.pow_le_pow_right (by decide) (by omega)))
   rw [Nat.testBit_div_two_pow, show i - 63 + 63 = i from by omega, hk]
   simp [hi]
  ·simp [hi, hj]
theorem or_split {a b n : Nat} (ha : a < 18446744073709551616) (h : a % 2 ^ n = 0) (hb : b < 2 ^ n) (hb2 : b < 18446744073709551616) : bits .or .u64 (a : Int) (b : Int) = ((a + b : Nat) : Int) := by
 rw [bits_or_u64 (by omega) (by omega) (by omega) (by omega), Int.toNat_natCast, Int.toNat_natCast]
 have e : a = a / 2 ^ n * 2 ^ n := by have := Nat.div_add_mod a (2 ^ n); rw [h, Nat.mul_comm] at this; omega
 rw [e, or_nat hb]
theorem or_comm64 {a b : Nat} (ha : a < 18446744073709551616) (hb : b < 18446744073709551616) : bits .or .u64 (a : Int) (b : Int) = bits .or .u64 (b : Int) (a : Int) := by
 rw [bits_or_u64 (by omega) (by omega) (by omega) (by omega), bits_or_u64 (by omega) (by omega) (by omega) (by omega), Nat.or_comm]

theorem f64bits (b : Nat) (w : World) : (callFunc 113 #[.float .f64 b]).run Tryz.prog w = .ok (.value (.int .u64 b)) w := by
 rw [run_callFunc_extern Tryz.func113 (by kernel_rfl) (by kernel_rfl) (by kernel_rfl) (e := Extern.MathFloatBits.float64bits) (by kernel_rfl)]
 rfl
theorem f64from (n : Int) (w : World) : (callFunc 78 #[.int .u64 n]).run Tryz.prog w = .ok (.value (.float .f64 n.toNat)) w := by
 rw [run_callFunc_extern Tryz.func78 (by kernel_rfl) (by kernel_rfl) (by kernel_rfl) (e := Extern.MathFloatBits.float64frombits) (by kernel_rfl)]
 rfl
/-- the word with the other sign -/
def flipS (b : Nat) : Nat := if b < S63 then b + S63 else b - S63
theorem neg_flip {b : Nat} (h : b < 18446744073709551616) : Op.negFloat .f64 b = flipS b := by
 show b ^^^ 2 ^ 63 = flipS b
 unfold flipS S63
 by_cases h1 : b < 9223372036854775808
 ·rw [if_pos h1]
  have e : b ^^^ 2 ^ 63 = b ||| 2 ^ 63 := by
   apply Nat.eq_of_testBit_eq
   intro i
   rw [Nat.testBit_xor, Nat.testBit_or, Nat.testBit_two_pow]
   by_cases hi : 63 = i
   ·subst hi
    have : b.testBit 63 = false := Nat.testBit_lt_two_pow h1
    rw [this]; rfl
   ·simp [hi]
  rw [e, Nat.or_comm]
  have := or_nat (h := 1) (l := b) (s := 63) h1
  rw [Nat.one_mul] at this
  rw [this]
  omega
 ·rw [if_neg h1]
  obtain ⟨c, rfl⟩ : ∃ c, b = 2 ^ 63 + c := ⟨b - 2 ^ 63, by omega⟩
  have hc : c < 2 ^ 63 := by omega
  have e : 2 ^ 63 + c = 2 ^ 63 ||| c := by
   have := or_nat (h := 1) (l := c) (s := 63) hc
   rw [Nat.one_mul] at this
   exact this.symm
  rw [show 2 ^ 63 + c - 9223372036854775808 = c from by omega, e]
  apply Nat.eq_of_testBit_eq
  intro i
  rw [Nat.testBit_xor, Nat.testBit_or, Nat.testBit_two_pow]
  by_cases hi : 63 = i
  ·subst hi
   have : c.testBit 63 = false := Nat.testBit_lt_two_pow hc
   rw [this]; rfl
  ·simp [hi]
theorem unary_flip {b : Nat} (h : b < 18446744073709551616) : Op.unary .neg (.float .f64 b) = pure (.float .f64 (flipS b)) := by
 rw [← neg_flip h]
 rfl
/-- a result that is no number: whichever it is -/
theorem run_float_nan (op : BinOp) (t : TypeId) (x y : Nat) (h : floatBits op .f64 x y = none) (ho : op = .add ∨ op = .sub ∨ op = .mul ∨ op = .quo) (w : World) :
  ∃ r, r < 18446744073709551616 ∧ INF < r % S63 ∧ (binOp op t (.float .f64 x) (.float .f64 y)).run Tryz.prog w = .ok (.float .f64 r) w.drew := by
 have hr : (choose (Question.nanBits .f64 x y)).run Tryz.prog w = .ok ((Question.nanBits .f64 x y).cut (w.tape w.drawn (Question.nanBits .f64 x y))) w.drew := by rw [run_choose_drew]; rfl
 generalize hc : (Question.nanBits .f64 x y).cut (w.tape w.drawn (Question.nanBits .f64 x y)) = r at hr
 have hb : r < 18446744073709551616 ∧ INF < r % S63 := by
  rw [← hc]
  show (w.tape w.drawn _ % 2) * 2 ^ 63 + 0x7ff0000000000000 + 1 + (w.tape w.drawn _ / 2) % (2 ^ 52 - 1) < _ ∧ INF < ((w.tape w.drawn _ % 2) * 2 ^ 63 + 0x7ff0000000000000 + 1 + (w.tape w.drawn _ / 2) % (2 ^ 52 - 1)) % S63
  generalize w.tape w.drawn (Question.nanBits .f64 x y) = t
  have h1 := Nat.mod_lt (t / 2) (show 0 < 2 ^ 52 - 1 by decide)
  have h2 : t % 2 = 0 ∨ t % 2 = 1 := by omega
  generalize t / 2 % (2 ^ 52 - 1) = m at *
  unfold INF S63
  rcases h2 with h2 | h2 <;> rw [h2] <;> omega
 refine ⟨r, hb.1, hb.2, ?_⟩
 have e : binOp op t (.float .f64 x) (.float .f64 y) = (choose (Question.nanBits .f64 x y)).bind fun r => pure (.float .f64 r) := by
  unfold floatBits at h
  rcases ho with rfl | rfl | rfl | rfl <;> (simp only at h; simp [binOp, Op.floatArith, h]; rfl)
 rw [e]
 show ((choose (Question.nanBits .f64 x y)) >>= fun r => pure (Value.float .f64 r)).run Tryz.prog w = _
 rw [Sem.run_bind, hr]
 rfl

theorem abs_any (b : Nat) (w : World) (hb : b < 18446744073709551616) : Calls Tryz.prog 107 #[.float .f64 b] w fun e w' => e = .returned (.float .f64 (b % S63)) ∧ w = w' := by
 have h1 := f64bits b
 have h2 := andNot_63 hb
 have h3 := fun w => f64from ((b % 9223372036854775808 : Nat) : Int) w
 rw [Int.toNat_natCast] at h3
 show Calls _ _ _ _ fun e w' => e = .returned (.float .f64 (b % 9223372036854775808)) ∧ w = w'
 generalize b % 9223372036854775808 = m at *
 go_enter Tryz.func107, Tryz.ntmps107
 go_wp2_with fail
 go_ret
 exact ⟨rfl, rfl⟩
theorem mod_num {b : Nat} : b % S63 < 18446744073709551616 ∧ b % S63 % S63 = b % S63 := by unfold S63; omega
/-- the order of a word without its sign -/
theorem order_abs {b c : Nat} (hc : c < 9218868437227405313) : double.order (b % S63) c = if INF < b % S63 then none else some (compare ((b % S63 : Nat) : Int) (c : Int)) := by
 have hcm : c % S63 = c := by unfold S63; omega
 have hc2 : ¬ S63 ≤ c := by unfold S63; omega
 by_cases h : INF < b % S63
 ·rw [if_pos h]
  exact order_nan (.inl (by rw [mod_num.2]; exact h))
 ·rw [if_neg h, order_num mod_num.1 (by omega) (by rw [mod_num.2]; omega) (by rw [hcm]; unfold INF; omega)]
  unfold sk sg
  rw [mod_num.2, hcm]
  have : ¬ S63 ≤ b % S63 := by unfold S63; omega
  simp [this, hc2]
theorem isinf_any (b : Nat) (w : World) (hb : b < 18446744073709551616) : Calls Tryz.prog 93 #[.float .f64 b, .int .i64 0] w fun e w' => e = .returned (.bool (decide (b % S63 = INF))) ∧ w = w' := by
 have ho : (double.order (b % S63) 9218868437227405311 == some .gt) = decide (b % S63 = INF) := by
  rw [order_abs (by decide)]
  by_cases h : INF < b % S63
  ·rw [if_pos h]
   have : ¬ b % S63 = INF := by omega
   simp [this]
  ·rw [if_neg h]
   by_cases h2 : b % S63 = INF
   ·rw [h2]; rfl
   ·have h3 : ¬ (9218868437227405311 : Int) < ((b % S63 : Nat) : Int) := by unfold INF at *; omega
    simp only [compare, compareOfLessAndEq]
    have h4 : (decide (b % S63 = INF)) = false := by simpa using h2
    rw [h4]
    split
    ·rfl
    ·split
     ·rfl
     ·omega
 have hbm := abs_any b w hb
 generalize b % S63 = m at *
 have HO := Lib.hid ho
 have HB := Lib.hid hbm
 clear ho hbm
 go_enter Tryz.func93, Tryz.ntmps93
 go_wp2_with fail
 refine HB.out.mono ?_; rintro e w1 ⟨rfl, rfl⟩
 go_wp2_with fail
 go_ret
 exact ⟨ret_bool HO.out, rfl⟩
end Go.Proofs.YtehmompbmnejkaaGreat
/- Contracts of package flo's Kind and of package bushelref03's Kind, Below, Sign; math's Inf, NaN, Copysign. Conditions: words below 2^64. -/
namespace Go.Proofs.YtehmompbmnejkaaGreat
open Go.RowKit Ieee

/-- nought 0, finite 1, infinite 2, none 3 -/
def kindZ (b : Nat) : Int := if INF < b % S63 then 3 else if b % S63 = INF then 2 else if b % S63 = 0 then 0 else 1
theorem order_self {b : Nat} (hb : b < 18446744073709551616) : FloatKind.f64.format.order b b = if INF < b % S63 then none else some .eq := by
 show double.order b b = _
 by_cases h : INF < b % S63
 ·rw [if_pos h]; exact order_nan (.inl h)
 ·rw [if_neg h, order_num hb hb (by omega) (by omega), cmp_same rfl]
theorem order_zero {b : Nat} (hb : b < 18446744073709551616) (h : ¬ INF < b % S63) : FloatKind.f64.format.order b 0 = some (if b % S63 = 0 then .eq else if S63 ≤ b then .lt else .gt) := by
 show double.order b 0 = _
 rw [order_num hb (by decide) (by omega) (by decide)]
 congr 1
 have h0 : sk 0 = 0 := by decide
 rw [h0]
 unfold sk sg
 by_cases h1 : b % S63 = 0
 ·rw [if_pos h1, h1]
  exact cmp_same (by split <;> rfl)
 ·rw [if_neg h1]
  by_cases h2 : S63 ≤ b
  ·rw [if_pos h2, if_pos (by simpa using h2)]
   exact cmp_lt (by omega)
  ·rw [if_neg h2, if_neg (by simpa using h2)]
   exact cmp_gt (by omega)

set_option maxHeartbeats 400000 in
theorem fkind_any (b : Nat) (w : World) (hb : b < 18446744073709551616) : Calls Tryz.prog 70 #[.float .f64 b] w fun e w' => e = .returned (.int .i64 (kindZ b)) ∧ w = w' := by
 have hi := isinf_any b w hb
 have hs := order_self hb
 unfold kindZ
 by_cases h1 : INF < b % S63
 ·rw [if_pos h1] at hs ⊢
  clear hi h1 hb
  go_enter Tryz.func70, Tryz.ntmps70
  go_wp2_with fail
  go_ret
  exact ⟨rfl, rfl⟩
 ·have hz := order_zero hb h1
  rw [if_neg h1] at hs ⊢
  by_cases h2 : b % S63 = INF
  ·rw [if_pos h2]
   rw [show decide (b % S63 = INF) = true from by simpa using h2] at hi
   have HI := Lib.hid hi
   clear hi h1 h2 hz hb
   go_enter Tryz.func70, Tryz.ntmps70
   go_wp2_with fail
   refine HI.out.mono ?_; rintro e w1 ⟨rfl, rfl⟩
   go_wp2_with fail
   go_ret
   exact ⟨rfl, rfl⟩
  ·rw [if_neg h2]
   rw [show decide (b % S63 = INF) = false from by simpa using h2] at hi
   have HI := Lib.hid hi
   clear hi h2
   by_cases h3 : b % S63 = 0
   ·rw [if_pos h3] at hz ⊢
    clear h3 h1 hb
    go_enter Tryz.func70, Tryz.ntmps70
    go_wp2_with fail
    refine HI.out.mono ?_; rintro e w1 ⟨rfl, rfl⟩
    go_wp2_with fail
    go_ret
    exact ⟨rfl, rfl⟩
   ·rw [if_neg h3] at hz ⊢
    have hz2 : (FloatKind.f64.format.order b 0 == some .eq) = false := by rw [hz]; split <;> rfl
    clear h3 h1 hb hz
    go_enter Tryz.func70, Tryz.ntmps70
    go_wp2_with fail
    refine HI.out.mono ?_; rintro e w1 ⟨rfl, rfl⟩
    go_wp2_with fail
    go_ret
    exact ⟨rfl, rfl⟩

theorem sub_self_fin {b : Nat} (hb : b < 18446744073709551616) (h : b % S63 < INF) : floatBits .sub .f64 b b = some 0 := by
 show ((double.read b).sum (double.read b).opposite).map double.write = some 0
 rw [read_fin hb h]
 unfold Datum.opposite Datum.sum
 simp only
 have e : ∀ (s : Bool) (m k : Nat), Ieee.signed s m k + Ieee.signed (!s) m k = 0 := by
  intro s m k
  rw [signed_eq, signed_eq]
  generalize m * 2 ^ k = N
  unfold sg
  cases s <;> simp <;> omega
 rw [e]
 simp only [if_true, Int.natAbs_zero, Option.map_some]
 cases decide (S63 ≤ b) <;> rfl
theorem sub_self_inf {b : Nat} (hb : b < 18446744073709551616) (h : b % S63 = INF) : floatBits .sub .f64 b b = none := by
 show ((double.read b).sum (double.read b).opposite).map double.write = none
 rw [read_inf hb h]
 cases decide (S63 ≤ b) <;> rfl

set_option maxHeartbeats 400000 in
theorem rkind_any (b : Nat) (w : World) (hb : b < 18446744073709551616) : Calls Tryz.prog 91 #[.float .f64 b] w fun e w' => e = .returned (.int .i64 (kindZ b)) ∧ Below w.heap.size w w' := by
 have hs := order_self hb
 unfold kindZ
 by_cases h1 : INF < b % S63
 ·rw [if_pos h1] at hs ⊢
  clear h1 hb
  go_enter Tryz.func91, Tryz.ntmps91
  go_wp2_with fail
  go_ret
  exact ⟨rfl, Below.refl _ _⟩
 ·have hz := order_zero hb h1
  rw [if_neg h1] at hs ⊢
  by_cases h3 : b % S63 = 0
  ·have h4 : ¬ b % S63 = INF := by rw [h3]; decide
   rw [if_neg h4, if_pos h3]
   rw [if_pos h3] at hz
   clear h3 h4 h1 hb
   go_enter Tryz.func91, Tryz.ntmps91
   go_wp2_with fail
   go_ret
   exact ⟨rfl, Below.refl _ _⟩
  ·rw [if_neg h3] at hz
   have hz2 : (FloatKind.f64.format.order b 0 == some .eq) = false := by rw [hz]; split <;> rfl
   by_cases h2 : b % S63 = INF
   ·rw [if_pos h2]
    obtain ⟨r, hr0, hr1, hrun⟩ := run_float_nan .sub 35 b b (sub_self_inf hb h2) (by simp) w
    have hrz : FloatKind.f64.format.order r 0 = none := order_nan (.inl hr1)
    clear h3 h1 h2 hb hz hr0 hr1
    go_enter Tryz.func91, Tryz.ntmps91
    go_wp2_with fail
    go_ret
    exact ⟨rfl, (Below.refl _ _).drew⟩
   ·rw [if_neg h2, if_neg h3]
    have hrun := run_float_arith (P := Tryz.prog) w .sub 35 .f64 b b 0 (sub_self_fin hb (by omega))
    have hrz : FloatKind.f64.format.order 0 0 = some .eq := by decide
    clear h3 h1 h2 hb hz
    go_enter Tryz.func91, Tryz.ntmps91
    go_wp2_with fail
    go_ret
    exact ⟨rfl, Below.refl _ _⟩

/-- has a number a minus? -/
def belowB (b : Nat) : Bool := decide (S63 ≤ b) && decide (b % S63 ≤ INF)
theorem quo_zero {b : Nat} (hb : b < 18446744073709551616) (h : b % S63 = 0) : floatBits .quo .f64 4607182418800017408 b = some (if S63 ≤ b then S63 + INF else INF) := by
 have hz : b = 0 ∨ b = S63 := by unfold S63 at *; omega
 rcases hz with rfl | rfl <;> decide

set_option maxHeartbeats 400000 in
theorem rbelow_any (b : Nat) (w : World) (hb : b < 18446744073709551616) : Calls Tryz.prog 106 #[.float .f64 b] w fun e w' => e = .returned (.bool (belowB b)) ∧ w = w' := by
 by_cases h1 : INF < b % S63
 ·have ho : FloatKind.f64.format.order b 0 = none := order_nan (.inl h1)
  have hv : belowB b = false := by unfold belowB; simp; intro _; omega
  rw [hv]
  clear h1 hb hv
  go_enter Tryz.func106, Tryz.ntmps106
  go_wp2_with fail
  go_ret
  exact ⟨rfl, rfl⟩
 ·have hz := order_zero hb h1
  have hle : decide (b % S63 ≤ INF) = true := by simpa using Nat.le_of_not_lt h1
  have hv : belowB b = decide (S63 ≤ b) := by unfold belowB; rw [hle, Bool.and_true]
  rw [hv]
  by_cases h3 : b % S63 = 0
  ·rw [if_pos h3] at hz
   have hq := run_float_arith (P := Tryz.prog) w .quo 35 .f64 4607182418800017408 b _ (quo_zero hb h3)
   by_cases h4 : S63 ≤ b
   ·rw [if_pos h4] at hq
    have ho2 : FloatKind.f64.format.order (S63 + INF) 0 = some .lt := by decide
    rw [show decide (S63 ≤ b) = true from by simpa using h4]
    generalize S63 + INF = q at *
    clear h1 h3 h4 hb hle hv
    go_enter Tryz.func106, Tryz.ntmps106
    go_wp2_with fail
    go_ret
    exact ⟨rfl, rfl⟩
   ·rw [if_neg h4] at hq
    have ho2 : FloatKind.f64.format.order INF 0 = some .gt := by decide
    rw [show decide (S63 ≤ b) = false from by simpa using h4]
    generalize INF = q at *
    clear h1 h3 h4 hb hle hv
    go_enter Tryz.func106, Tryz.ntmps106
    go_wp2_with fail
    go_ret
    exact ⟨rfl, rfl⟩
  ·rw [if_neg h3] at hz
   by_cases h4 : S63 ≤ b
   ·rw [if_pos h4] at hz
    rw [show decide (S63 ≤ b) = true from by simpa using h4]
    clear h1 h3 h4 hb hle hv
    go_enter Tryz.func106, Tryz.ntmps106
    go_wp2_with fail
    go_ret
    exact ⟨rfl, rfl⟩
   ·rw [if_neg h4] at hz
    rw [show decide (S63 ≤ b) = false from by simpa using h4]
    clear h1 h3 h4 hb hle hv
    go_enter Tryz.func106, Tryz.ntmps106
    go_wp2_with fail
    go_ret
    exact ⟨rfl, rfl⟩

theorem copysign_any (f s : Nat) (w : World) (hf : f < 18446744073709551616) (hs : s < 18446744073709551616) : Calls Tryz.prog 108 #[.float .f64 f, .float .f64 s] w fun e w' => e = .returned (.float .f64 (s / S63 * S63 + f % S63)) ∧ w = w' := by
 have h1 := f64bits f
 have h1' := f64bits s
 have h2 := andNot_63 hf
 have h3 := and_63 hs
 have h4 : bits .or .u64 ((f % 9223372036854775808 : Nat) : Int) ((s / 9223372036854775808 * 9223372036854775808 : Nat) : Int) = ((s / 9223372036854775808 * 9223372036854775808 + f % 9223372036854775808 : Nat) : Int) := by
  rw [or_comm64 (by omega) (by omega)]
  exact or_split (n := 63) (by omega) (by omega) (by omega) (by omega)
 have h5 := fun w => f64from ((s / 9223372036854775808 * 9223372036854775808 + f % 9223372036854775808 : Nat) : Int) w
 rw [Int.toNat_natCast] at h5
 show Calls _ _ _ _ fun e w' => e = .returned (.float .f64 (s / 9223372036854775808 * 9223372036854775808 + f % 9223372036854775808)) ∧ w = w'
 generalize s / 9223372036854775808 * 9223372036854775808 + f % 9223372036854775808 = r at *
 generalize s / 9223372036854775808 * 9223372036854775808 = q at *
 generalize f % 9223372036854775808 = m at *
 clear hf hs
 go_enter Tryz.func108, Tryz.ntmps108
 go_wp2_with fail
 go_ret
 exact ⟨rfl, rfl⟩
theorem inf_any (s : Int) (w : World) : Calls Tryz.prog 80 #[.int .i64 s] w fun e w' => e = .returned (.float .f64 (if 0 ≤ s then INF else S63 + INF)) ∧ w = w' := by
 by_cases h : 0 ≤ s
 ·rw [if_pos h]
  have h5 := fun w => f64from 9218868437227405312 w
  rw [show (9218868437227405312 : Int).toNat = INF from rfl] at h5
  generalize INF = q at *
  go_enter Tryz.func80, Tryz.ntmps80
  go_wp2_with fail
  go_ret
  exact ⟨rfl, rfl⟩
 ·rw [if_neg h]
  have h5 := fun w => f64from 18442240474082181120 w
  rw [show (18442240474082181120 : Int).toNat = S63 + INF from rfl] at h5
  generalize S63 + INF = q at *
  go_enter Tryz.func80, Tryz.ntmps80
  go_wp2_with fail
  go_ret
  exact ⟨rfl, rfl⟩
theorem nan_any (w : World) : Calls Tryz.prog 46 #[] w fun e w' => e = .returned (.float .f64 9221120237041090561) ∧ w = w' := by
 have h5 := fun w => f64from 9221120237041090561 w
 rw [show (9221120237041090561 : Int).toNat = 9221120237041090561 from rfl] at h5
 generalize (9221120237041090561 : Nat) = q at *
 go_enter Tryz.func46, Tryz.ntmps46
 go_wp2_with fail
 go_ret
 exact ⟨rfl, rfl⟩
theorem fsigned_any (neg : Bool) (b : Nat) (w : World) (hb : b < 18446744073709551616) : Calls Tryz.prog 95 #[.bool neg, .float .f64 b] w fun e w' => e = .returned (.float .f64 (if neg then S63 + b % S63 else b)) ∧ w = w' := by
 have hc := copysign_any b 13830554455654793216 w hb (by decide)
 rw [show 13830554455654793216 / S63 * S63 = S63 from by decide] at hc
 have HC := Lib.hid hc
 generalize S63 + b % S63 = q at *
 clear hb hc
 cases neg
 ·go_enter Tryz.func95, Tryz.ntmps95
  go_wp2_with fail
  go_ret
  exact ⟨rfl, rfl⟩
 ·go_enter Tryz.func95, Tryz.ntmps95
  go_wp2_with fail
  refine HC.out.mono ?_; rintro e w1 ⟨rfl, rfl⟩
  go_wp2_with fail
  go_ret
  exact ⟨rfl, rfl⟩
end Go.Proofs.YtehmompbmnejkaaGreat
/- Contracts of package flo's Key, Less, Same, Least, Most, From, Up. Conditions: words below 2^64. -/
namespace Go.Proofs.YtehmompbmnejkaaGreat
open Go.RowKit Ieee

/-- a word's key -/
def keyN (b : Nat) : Nat := if INF < b % S63 then 18446744073709551615 else if S63 ≤ b then 9223372036854775807 - b % S63 else S63 + b
theorem keyN_lt {b : Nat} (hb : b < 18446744073709551616) : keyN b < 18446744073709551616 := by
 unfold keyN S63 INF
 split
 ·omega
 ·split <;> omega

end Go.Proofs.YtehmompbmnejkaaGreat
/- Contracts of package bushelref03's Same, Less, Least, Most. Conditions: words below 2^64. -/
namespace Go.Proofs.YtehmompbmnejkaaGreat
open Go.RowKit Ieee

theorem kind3 {b : Nat} : kindZ b = 3 ↔ INF < b % S63 := by
 unfold kindZ
 constructor
 ·intro h
  by_cases h1 : INF < b % S63
  ·exact h1
  ·rw [if_neg h1] at h
   split at h
   ·omega
   ·split at h <;> omega
 ·intro h; rw [if_pos h]
theorem key_nan {b : Nat} (h : INF < b % S63) : keyN b = 18446744073709551615 := by unfold keyN; rw [if_pos h]
theorem key_num {b : Nat} (hb : b < 18446744073709551616) (h : ¬ INF < b % S63) : keyN b < 18446744073709551615 := by
 unfold keyN
 rw [if_neg h]
 unfold S63 INF at *
 split <;> omega
/-- the order of numbers by their keys -/
theorem order_key {a b : Nat} (ha : a < 18446744073709551616) (hb : b < 18446744073709551616) (na : ¬ INF < a % S63) (nb : ¬ INF < b % S63) :
  (sk a < sk b → keyN a < keyN b) ∧ (sk b < sk a → keyN b < keyN a) ∧ (sk a = sk b → (keyN a < keyN b ↔ (S63 ≤ a ∧ ¬ S63 ≤ b)) ∧ (keyN a = keyN b ↔ (S63 ≤ a ↔ S63 ≤ b))) := by
 unfold keyN sk sg
 rw [if_neg na, if_neg nb]
 unfold S63 INF at *
 by_cases h1 : 9223372036854775808 ≤ a <;> by_cases h2 : 9223372036854775808 ≤ b <;> simp [h1, h2] <;> omega
theorem order_lt {a b : Nat} (ha : a < 18446744073709551616) (hb : b < 18446744073709551616) (na : ¬ INF < a % S63) (nb : ¬ INF < b % S63) :
  FloatKind.f64.format.order a b = some (compare (sk a) (sk b)) := order_num ha hb (by omega) (by omega)
theorem below_num {a : Nat} (na : ¬ INF < a % S63) : belowB a = decide (S63 ≤ a) := by
 unfold belowB
 rw [show decide (a % S63 ≤ INF) = true from by simpa using Nat.le_of_not_lt na, Bool.and_true]

end Go.Proofs.YtehmompbmnejkaaGreat
/- Contracts of package bushelref03's Less, Least, Most. Conditions: words below 2^64. -/
namespace Go.Proofs.YtehmompbmnejkaaGreat
open Go.RowKit Ieee

set_option maxHeartbeats 1000000 in
theorem rless_any (a b : Nat) (w : World) (ha : a < 18446744073709551616) (hb : b < 18446744073709551616) : Calls Tryz.prog 89 #[.float .f64 a, .float .f64 b] w fun e w' => e = .returned (.bool (decide (keyN a < keyN b))) ∧ Below w.heap.size w w' := by
 have HKA := Lib.hid (fun w => rkind_any a w ha)
 have HKB := Lib.hid (fun w => rkind_any b w hb)
 by_cases h1 : INF < a % S63
 ·have hk1 := kind3.2 h1
  have hq1 := key_nan h1
  rw [hk1] at HKA
  rw [show decide (keyN a < keyN b) = false from by rw [hq1]; have := keyN_lt hb; simp; omega]
  clear hk1 h1 ha hb hq1 HKB
  go_enter Tryz.func89, Tryz.ntmps89
  go_wp2_with fail
  refine (HKA.out _).mono ?_; rintro e w1 ⟨rfl, hb1⟩
  have HB1 := Lib.hid hb1
  clear hb1
  go_wp2_with fail
  refine (HKA.out _).mono ?_; rintro e w2 ⟨rfl, hb2⟩
  have HB2 := Lib.hid (HB1.out.trans (hb2.mono HB1.out.size))
  clear hb2
  go_wp2_with fail
  go_ret
  exact ⟨rfl, HB2.out⟩
 ·have hk1 : kindZ a ≠ 3 := fun h => h1 (kind3.1 h)
  by_cases h2 : INF < b % S63
  ·have hk2 := kind3.2 h2
   rw [show decide (keyN a < keyN b) = true from by rw [key_nan h2]; have := key_num ha h1; simp; omega]
   rw [hk2] at HKB
   generalize kindZ a = ka at *
   have hk3 : (ka == (3 : Int)) = false := by simp; omega
   have hk4 : (ka != (3 : Int)) = true := by simp; omega
   clear hk1 hk2 h1 h2 ha hb
   go_enter Tryz.func89, Tryz.ntmps89
   go_wp2_with fail
   refine (HKA.out _).mono ?_; rintro e w1 ⟨rfl, hb1⟩
   have HB1 := Lib.hid hb1
   clear hb1
   go_wp2_with fail
   refine (HKB.out _).mono ?_; rintro e w2 ⟨rfl, hb2⟩
   have HB2 := Lib.hid (HB1.out.trans (hb2.mono HB1.out.size))
   clear hb2
   go_wp2_with fail
   refine (HKA.out _).mono ?_; rintro e w3 ⟨rfl, hb3⟩
   have HB3 := Lib.hid (HB2.out.trans (hb3.mono HB2.out.size))
   clear hb3
   go_wp2_with fail
   go_ret
   exact ⟨rfl, HB3.out⟩
  ·have hk2 : kindZ b ≠ 3 := fun h => h2 (kind3.1 h)
   have HLA := Lib.hid (fun w => rbelow_any a w ha)
   have HLB := Lib.hid (fun w => rbelow_any b w hb)
   rw [below_num h1] at HLA
   rw [below_num h2] at HLB
   have hok := order_key ha hb h1 h2
   have ho := order_lt ha hb h1 h2
   have hka : (kindZ a == 3) = false := by simpa using hk1
   have hkb : (kindZ b == 3) = false := by simpa using hk2
   generalize kindZ a = ka at *
   generalize kindZ b = kb at *
   rcases Int.lt_trichotomy (sk a) (sk b) with h3 | h3 | h3
   ·rw [cmp_lt h3] at ho
    rw [show decide (keyN a < keyN b) = true from by simpa using hok.1 h3]
    clear hk1 hk2 h1 h2 ha hb hok h3
    go_enter Tryz.func89, Tryz.ntmps89
    go_wp2_with fail
    refine (HKA.out _).mono ?_; rintro e w1 ⟨rfl, hb1⟩
    have HB1 := Lib.hid hb1
    clear hb1
    go_wp2_with fail
    refine (HKB.out _).mono ?_; rintro e w2 ⟨rfl, hb2⟩
    have HB2 := Lib.hid (HB1.out.trans (hb2.mono HB1.out.size))
    clear hb2
    go_wp2_with fail
    go_ret
    exact ⟨rfl, HB2.out⟩
   ·rw [cmp_same h3] at ho
    rw [show decide (keyN a < keyN b) = (decide (S63 ≤ a) && !decide (S63 ≤ b)) from by rw [Bool.eq_iff_iff]; simp; exact ((hok.2.2 h3).1.trans (by simp))]
    generalize decide (S63 ≤ a) = sa at *
    generalize decide (S63 ≤ b) = sb' at *
    clear hk1 hk2 h1 h2 ha hb hok h3
    cases sa
    ·go_enter Tryz.func89, Tryz.ntmps89
     go_wp2_with fail
     refine (HKA.out _).mono ?_; rintro e w1 ⟨rfl, hb1⟩
     have HB1 := Lib.hid hb1
     clear hb1
     go_wp2_with fail
     refine (HKB.out _).mono ?_; rintro e w2 ⟨rfl, hb2⟩
     have HB2 := Lib.hid (HB1.out.trans (hb2.mono HB1.out.size))
     clear hb2
     go_wp2_with fail
     refine (HLA.out _).mono ?_; rintro e w3 ⟨rfl, rfl⟩
     go_wp2_with fail
     go_ret
     exact ⟨rfl, HB2.out⟩
    ·go_enter Tryz.func89, Tryz.ntmps89
     go_wp2_with fail
     refine (HKA.out _).mono ?_; rintro e w1 ⟨rfl, hb1⟩
     have HB1 := Lib.hid hb1
     clear hb1
     go_wp2_with fail
     refine (HKB.out _).mono ?_; rintro e w2 ⟨rfl, hb2⟩
     have HB2 := Lib.hid (HB1.out.trans (hb2.mono HB1.out.size))
     clear hb2
     go_wp2_with fail
     refine (HLA.out _).mono ?_; rintro e w3 ⟨rfl, rfl⟩
     go_wp2_with fail
     refine (HLB.out _).mono ?_; rintro e w3 ⟨rfl, rfl⟩
     go_wp2_with fail
     go_ret
     exact ⟨ret_bool (by simp), HB2.out⟩
   ·rw [cmp_gt h3] at ho
    rw [show decide (keyN a < keyN b) = false from by have := hok.2.1 h3; simp; omega]
    clear hk1 hk2 h1 h2 ha hb hok h3
    go_enter Tryz.func89, Tryz.ntmps89
    go_wp2_with fail
    refine (HKA.out _).mono ?_; rintro e w1 ⟨rfl, hb1⟩
    have HB1 := Lib.hid hb1
    clear hb1
    go_wp2_with fail
    refine (HKB.out _).mono ?_; rintro e w2 ⟨rfl, hb2⟩
    have HB2 := Lib.hid (HB1.out.trans (hb2.mono HB1.out.size))
    clear hb2
    go_wp2_with fail
    go_ret
    exact ⟨rfl, HB2.out⟩

theorem rleast_any (a b : Nat) (w : World) (ha : a < 18446744073709551616) (hb : b < 18446744073709551616) : Calls Tryz.prog 57 #[.float .f64 a, .float .f64 b] w fun e w' => e = .returned (.float .f64 (if keyN b < keyN a then b else a)) ∧ Below w.heap.size w w' := by
 have hl := rless_any b a w hb ha
 clear ha hb
 by_cases h : keyN b < keyN a
 ·rw [if_pos h]
  rw [show decide (keyN b < keyN a) = true from by simpa using h] at hl
  have HL := Lib.hid hl
  clear hl h
  go_enter Tryz.func57, Tryz.ntmps57
  go_wp2_with fail
  refine HL.out.mono ?_; rintro e w1 ⟨rfl, hb1⟩
  go_wp2_with fail
  go_ret
  exact ⟨rfl, hb1⟩
 ·rw [if_neg h]
  rw [show decide (keyN b < keyN a) = false from by simpa using h] at hl
  have HL := Lib.hid hl
  clear hl h
  go_enter Tryz.func57, Tryz.ntmps57
  go_wp2_with fail
  refine HL.out.mono ?_; rintro e w1 ⟨rfl, hb1⟩
  go_wp2_with fail
  go_ret
  exact ⟨rfl, hb1⟩
theorem rmost_any (a b : Nat) (w : World) (ha : a < 18446744073709551616) (hb : b < 18446744073709551616) : Calls Tryz.prog 58 #[.float .f64 a, .float .f64 b] w fun e w' => e = .returned (.float .f64 (if keyN a < keyN b then b else a)) ∧ Below w.heap.size w w' := by
 have hl := rless_any a b w ha hb
 clear ha hb
 by_cases h : keyN a < keyN b
 ·rw [if_pos h]
  rw [show decide (keyN a < keyN b) = true from by simpa using h] at hl
  have HL := Lib.hid hl
  clear hl h
  go_enter Tryz.func58, Tryz.ntmps58
  go_wp2_with fail
  refine HL.out.mono ?_; rintro e w1 ⟨rfl, hb1⟩
  go_wp2_with fail
  go_ret
  exact ⟨rfl, hb1⟩
 ·rw [if_neg h]
  rw [show decide (keyN a < keyN b) = false from by simpa using h] at hl
  have HL := Lib.hid hl
  clear hl h
  go_enter Tryz.func58, Tryz.ntmps58
  go_wp2_with fail
  refine HL.out.mono ?_; rintro e w1 ⟨rfl, hb1⟩
  go_wp2_with fail
  go_ret
  exact ⟨rfl, hb1⟩
end Go.Proofs.YtehmompbmnejkaaGreat
/- Contract of package flo's Split. Conditions: a word below 2^64. -/
namespace Go.Proofs.YtehmompbmnejkaaGreat
open Go.RowKit Ieee

/-- N is m 2^k, m odd -/
def OddOf (N m k : Nat) : Prop := N = m * 2 ^ k ∧ m % 2 = 1
/-- what the two Splits answer -/
def SplitOut (b : Nat) (neg : Bool) (m e : Int) : Prop :=
 (kindZ b ≠ 1 ∧ neg = belowB b ∧ m = 0 ∧ e = 0) ∨ (kindZ b = 1 ∧ neg = decide (S63 ≤ b) ∧ ∃ M k : Nat, m = (M : Int) ∧ e = (k : Int) - 1074 ∧ OddOf (iv (b % S63)) M k)
theorem kind1 {b : Nat} : kindZ b = 1 ↔ (0 < b % S63 ∧ b % S63 < INF) := by
 unfold kindZ
 constructor
 ·intro h
  by_cases h1 : INF < b % S63
  ·rw [if_pos h1] at h; omega
  ·rw [if_neg h1] at h
   by_cases h2 : b % S63 = INF
   ·rw [if_pos h2] at h; omega
   ·rw [if_neg h2] at h
    by_cases h3 : b % S63 = 0
    ·rw [if_pos h3] at h; omega
    ·exact ⟨by omega, by omega⟩
 ·intro h
  rw [if_neg (by omega), if_neg (by omega), if_neg (by omega)]
theorem ret_tri {x y : Bool} {a b c d : Int} (h1 : x = y) (h2 : a = b) (h3 : c = d) : Ending.returned (.tuple #[.bool x, .int .u64 a, .int .i64 c]) = .returned (.tuple #[.bool y, .int .u64 b, .int .i64 d]) := by rw [h1, h2, h3]

end Go.Proofs.YtehmompbmnejkaaGreat
