/- Plain theory of 64-bit floating point: what words stand for, how they compare, exact products and halves. No conditions. -/
import Derived.Test.YtnbhcemgoifkgaaFloA
namespace Go.Proofs.Ytnbhcemgoifkgaa
open Ieee

theorem dbl_binade : double.binade = B52 := rfl
theorem dbl_inf : double.infRung = INF := by decide
theorem dbl_sign : double.signWeight = S63 := by decide
theorem dbl_least : double.leastPlace = -1074 := by decide
theorem dbl_frac : double.fractionBits = 52 := rfl

theorem read_fin {b : Nat} (hb : b < 18446744073709551616) (h : b % S63 < INF) : double.read b = .number (decide (S63 ≤ b)) (mg (b % S63)) (-1074 + (sh (b % S63) : Nat)) := by
  unfold Format.read
  rw [dbl_binade, dbl_inf, dbl_sign, dbl_least]
  have hs : (b / S63 % 2 == 1) = decide (S63 ≤ b) := by
    unfold S63 at *
    by_cases h1 : 9223372036854775808 ≤ b
    · have : b / 9223372036854775808 = 1 := by omega
      rw [this]; simp [h1]
    · have : b / 9223372036854775808 = 0 := by omega
      rw [this]; simp [h1]
  simp only [hs]
  unfold mg sh
  by_cases h1 : b % S63 < B52
  · rw [if_pos h1, if_pos h1, if_pos h1]
    rfl
  · rw [if_neg h1, if_pos h, if_neg h1, if_neg h1]
theorem read_inf {b : Nat} (hb : b < 18446744073709551616) (h : b % S63 = INF) : double.read b = .infinity (decide (S63 ≤ b)) := by
  unfold Format.read
  rw [dbl_binade, dbl_inf, dbl_sign, dbl_least]
  have hs : (b / S63 % 2 == 1) = decide (S63 ≤ b) := by
    unfold S63 at *
    by_cases h1 : 9223372036854775808 ≤ b
    · have : b / 9223372036854775808 = 1 := by omega
      rw [this]; simp [h1]
    · have : b / 9223372036854775808 = 0 := by omega
      rw [this]; simp [h1]
  simp only [hs, h]
  rw [if_neg (by decide), if_neg (by decide), if_pos trivial]
theorem read_nan {b : Nat} (h : INF < b % S63) : ∃ s q, double.read b = .nan s q := by
  unfold Format.read
  rw [dbl_binade, dbl_inf, dbl_sign, dbl_least]
  have h1 : ¬ b % S63 < B52 := by unfold B52; unfold INF at h; omega
  have h2 : ¬ b % S63 < INF := by omega
  have h3 : ¬ b % S63 = INF := by omega
  exact ⟨_, _, by rw [if_neg h1, if_neg h2, if_neg h3]⟩

/-- a number with its sign -/
def sg (s : Bool) (n : Nat) : Int := if s then -(n : Int) else (n : Int)
/-- a word's place in the order, both noughts alike -/
def sk (b : Nat) : Int := sg (decide (S63 ≤ b)) (b % S63)

theorem cmp_congr {a b c d : Int} (h1 : a < b ↔ c < d) (h2 : a = b ↔ c = d) : compare a b = compare c d := by
  simp only [compare, compareOfLessAndEq, h1, h2]
theorem cmp_lt {a b : Int} (h : a < b) : compare a b = .lt := by
  simp only [compare, compareOfLessAndEq]; rw [if_pos h]
theorem cmp_gt {a b : Int} (h : b < a) : compare a b = .gt := by
  simp only [compare, compareOfLessAndEq]; rw [if_neg (by omega), if_neg (by omega)]
theorem cmp_same {a b : Int} (h : a = b) : compare a b = .eq := by
  simp only [compare, compareOfLessAndEq]; rw [if_neg (by omega), if_pos h]
theorem signed_eq (s : Bool) (m k : Nat) : Ieee.signed s m k = sg s (m * 2 ^ k) := by
  unfold Ieee.signed sg
  rw [Nat.shiftLeft_eq]
theorem sg_scale (s t : Bool) (m n k : Nat) : compare (sg s (m * 2 ^ k)) (sg t (n * 2 ^ k)) = compare (sg s m) (sg t n) := by
  have e : ∀ (u : Bool) (x : Nat), sg u (x * 2 ^ k) = sg u x * (2 ^ k : Nat) := by
    intro u x; unfold sg; cases u <;> simp [Int.neg_mul]
  have p : (0 : Int) < (2 ^ k : Nat) := by exact_mod_cast Nat.two_pow_pos k
  rw [e, e]
  generalize ((2 ^ k : Nat) : Int) = P at *
  exact cmp_congr (Int.mul_lt_mul_right p) ⟨fun h => Int.eq_of_mul_eq_mul_right (by omega) h, fun h => by rw [h]⟩
theorem sg_iv (s t : Bool) (r q : Nat) : compare (sg s (iv r)) (sg t (iv q)) = compare (sg s r) (sg t q) := by
  have f1 : r < q → iv r < iv q := iv_lt
  have f2 : q < r → iv q < iv r := iv_lt
  have f3 : r = q → iv r = iv q := fun h => by rw [h]
  have f4 : 0 < r → 0 < iv r := iv_pos
  have f5 : 0 < q → 0 < iv q := iv_pos
  have f6 : r = 0 → iv r = 0 := fun h => by rw [h]; exact iv_zero
  have f7 : q = 0 → iv q = 0 := fun h => by rw [h]; exact iv_zero
  generalize iv r = x at *
  generalize iv q = y at *
  unfold sg
  apply cmp_congr <;> cases s <;> cases t <;> simp <;> omega
theorem sg_inf (s : Bool) {x : Nat} (h : x < INF) : sg s x < sg false INF ∧ sg true INF < sg s x := by
  unfold sg INF at *
  cases s <;> simp <;> omega
/-- words that are numbers or infinite are ordered by their places -/
theorem order_num {b c : Nat} (hb : b < 18446744073709551616) (hc : c < 18446744073709551616) (nb : b % S63 ≤ INF) (nc : c % S63 ≤ INF) : double.order b c = some (compare (sk b) (sk c)) := by
  unfold Format.order sk
  generalize hs : decide (S63 ≤ b) = s
  generalize ht : decide (S63 ≤ c) = t
  rcases Nat.lt_or_ge (b % S63) INF with h1 | h1
  · rcases Nat.lt_or_ge (c % S63) INF with h2 | h2
    · rw [read_fin hb h1, read_fin hc h2, hs, ht]
      generalize b % S63 = r at *
      generalize c % S63 = q at *
      unfold Datum.order
      simp only
      rw [signed_eq, signed_eq, ← sg_iv s t r q]
      congr 1
      rw [← sg_scale s t (mg r * 2 ^ (-1074 + (sh r : Int) - min (-1074 + (sh r : Int)) (-1074 + (sh q : Int))).toNat) _ (min (sh r) (sh q))]
      unfold iv
      have e1 : (-1074 + (sh r : Int) - min (-1074 + (sh r : Int)) (-1074 + (sh q : Int))).toNat + min (sh r) (sh q) = sh r := by omega
      have e2 : (-1074 + (sh q : Int) - min (-1074 + (sh r : Int)) (-1074 + (sh q : Int))).toNat + min (sh r) (sh q) = sh q := by omega
      rw [Nat.mul_assoc, Nat.mul_assoc, ← Nat.pow_add, ← Nat.pow_add, e1, e2]
    · have h3 : c % S63 = INF := by omega
      rw [read_fin hb h1, read_inf hc h3, hs, ht, h3]
      generalize b % S63 = x at *
      show some (if t then Ordering.gt else .lt) = _
      congr 1
      cases t
      · exact (cmp_lt (sg_inf s h1).1).symm
      · exact (cmp_gt (sg_inf s h1).2).symm
  · have h3 : b % S63 = INF := by omega
    rcases Nat.lt_or_ge (c % S63) INF with h2 | h2
    · rw [read_inf hb h3, read_fin hc h2, hs, ht, h3]
      generalize c % S63 = x at *
      show some (if s then Ordering.lt else .gt) = _
      congr 1
      cases s
      · exact (cmp_gt (sg_inf t h2).1).symm
      · exact (cmp_lt (sg_inf t h2).2).symm
    · have h4 : c % S63 = INF := by omega
      rw [read_inf hb h3, read_inf hc h4, hs, ht, h3, h4]
      cases s <;> cases t <;> rfl
theorem order_nan {b c : Nat} (h : INF < b % S63 ∨ INF < c % S63) : double.order b c = none := by
  unfold Format.order
  rcases h with h | h
  · obtain ⟨s, q, e⟩ := read_nan h
    rw [e]; rfl
  · obtain ⟨s, q, e⟩ := read_nan h
    rw [e]
    cases double.read b <;> rfl
end Go.Proofs.Ytnbhcemgoifkgaa
