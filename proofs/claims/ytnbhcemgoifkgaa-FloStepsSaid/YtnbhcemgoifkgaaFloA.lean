/- Plain theory of 64-bit floating point: rungs, their numbers, order, rounding. No conditions. -/
import Derived.Laws.FloatArith
namespace Go.Proofs.Ytnbhcemgoifkgaa
open Ieee

/-- rungs to a binade; the rung of infinity; the sign's weight -/
abbrev B52 : Nat := 4503599627370496
abbrev INF : Nat := 9218868437227405312
abbrev S63 : Nat := 9223372036854775808

def mg (r : Nat) : Nat := if r < B52 then r else B52 + r % B52
def sh (r : Nat) : Nat := if r < B52 then 0 else r / B52 - 1
/-- a rung's number, in units of 2^-1074 -/
def iv (r : Nat) : Nat := mg r * 2 ^ sh r

theorem iv_zero : iv 0 = 0 := by decide
theorem iv_succ (r : Nat) : iv (r + 1) = iv r + 2 ^ sh r := by
  unfold iv mg sh B52
  by_cases h1 : r + 1 < 4503599627370496
  · rw [if_pos h1, if_pos h1, if_pos (by omega), if_pos (by omega)]
    simp
  · by_cases h2 : r + 1 = 4503599627370496
    · have h3 : r = 4503599627370495 := by omega
      subst h3; decide
    · rw [if_neg h1, if_neg h1, if_neg (by omega), if_neg (by omega)]
      by_cases h4 : r % 4503599627370496 = 4503599627370495
      · have e1 : (r + 1) % 4503599627370496 = 0 := by omega
        have e2 : (r + 1) / 4503599627370496 - 1 = (r / 4503599627370496 - 1) + 1 := by omega
        rw [e1, e2, h4, Nat.pow_succ]
        omega
      · have e1 : (r + 1) % 4503599627370496 = r % 4503599627370496 + 1 := by omega
        have e2 : (r + 1) / 4503599627370496 = r / 4503599627370496 := by omega
        rw [e1, e2, ← Nat.add_assoc, Nat.add_mul (4503599627370496 + r % 4503599627370496) 1, Nat.one_mul]
theorem iv_lt {r s : Nat} (h : r < s) : iv r < iv s := by
  obtain ⟨k, rfl⟩ : ∃ k, s = r + k + 1 := ⟨s - r - 1, by omega⟩
  clear h
  induction k with
  | zero => rw [iv_succ]; have := Nat.two_pow_pos (sh (r + 0)); simp at *; omega
  | succ k ih =>
    have h1 := iv_succ (r + k + 1)
    have h2 := Nat.two_pow_pos (sh (r + k + 1))
    have e : r + (k + 1) + 1 = r + k + 1 + 1 := by omega
    rw [e]; omega
theorem iv_inj {r s : Nat} (h : iv r = iv s) : r = s := by
  rcases Nat.lt_trichotomy r s with h1 | h1 | h1
  · have := iv_lt h1; omega
  · exact h1
  · have := iv_lt h1; omega
theorem iv_le {r s : Nat} (h : r ≤ s) : iv r ≤ iv s := by
  rcases Nat.lt_or_ge r s with h1 | h1
  · exact Nat.le_of_lt (iv_lt h1)
  · have : r = s := by omega
    subst this; exact Nat.le_refl _
theorem iv_pos {r : Nat} (h : 0 < r) : 0 < iv r := by have := iv_lt h; rw [iv_zero] at this; exact this
theorem mg_lt (r : Nat) : mg r < 2 * B52 := by
  unfold mg B52
  split <;> omega
theorem mg_ge {r : Nat} (h : sh r ≠ 0 ∨ B52 ≤ r) : B52 ≤ mg r := by
  unfold mg sh B52 at *
  split
  · rename_i h1; rw [if_pos h1] at h; omega
  · omega
theorem rung_eq (r : Nat) : sh r * B52 + mg r = r := by
  unfold mg sh B52
  split <;> omega
/-- the rung of m 2^t, m of at most 53 bits -/
theorem rung_of {m t : Nat} (h1 : m ≤ 2 * B52) (h2 : t = 0 ∨ B52 ≤ m) : iv (t * B52 + m) = m * 2 ^ t := by
  unfold iv mg sh B52 at *
  by_cases h3 : m = 2 * 4503599627370496
  · have e1 : (t * 4503599627370496 + m) % 4503599627370496 = 0 := by omega
    have e2 : (t * 4503599627370496 + m) / 4503599627370496 - 1 = t + 1 := by omega
    rw [if_neg (by omega), if_neg (by omega), e1, e2, h3, Nat.pow_succ]
    omega
  · rcases Nat.lt_or_ge m 4503599627370496 with h4 | h4
    · have : t = 0 := by omega
      subst this
      simp only [Nat.zero_mul, Nat.zero_add]
      rw [if_pos h4, if_pos h4]
    · have e1 : (t * 4503599627370496 + m) % 4503599627370496 = m - 4503599627370496 := by omega
      have e2 : (t * 4503599627370496 + m) / 4503599627370496 - 1 = t := by omega
      rw [if_neg (by omega), if_neg (by omega), e1, e2, Nat.add_sub_cancel' h4]

/-- n by d to the nearest whole number, between two to the even one -/
def rne (n d : Nat) : Nat := n / d + (decide (d < 2 * (n % d)) || (decide (d = 2 * (n % d)) && decide (n / d % 2 = 1))).toNat
theorem rne_mul {m d : Nat} (h : 0 < d) : rne (m * d) d = m := by
  unfold rne
  rw [Nat.mul_div_cancel _ h, Nat.mul_mod_left]
  have h1 : decide (d < 2 * 0) = false := by simp
  have h2 : decide (d = 2 * 0) = false := by simp; omega
  rw [h1, h2]; rfl
theorem rne_scale {n d k : Nat} (h : 0 < k) : rne (n * k) (d * k) = rne n d := by
  unfold rne
  have e1 : n * k / (d * k) = n / d := Nat.mul_div_mul_right n d h
  have e2 : n * k % (d * k) = n % d * k := Nat.mul_mod_mul_right k n d
  rw [e1, e2]
  have e3 : 2 * (n % d * k) = 2 * (n % d) * k := by rw [Nat.mul_assoc]
  rw [e3]
  have e4 : decide (d * k < 2 * (n % d) * k) = decide (d < 2 * (n % d)) := decide_eq_decide.2 (Nat.mul_lt_mul_right h)
  have e5 : decide (d * k = 2 * (n % d) * k) = decide (d = 2 * (n % d)) := decide_eq_decide.2 (Nat.mul_left_inj (by omega))
  rw [e4, e5]
theorem rne_ratio {x y n d : Nat} (hy : 0 < y) (hd : 0 < d) (h : x * d = n * y) : rne x y = rne n d := by
  rw [← rne_scale (k := d) hd, h, Nat.mul_comm y d, rne_scale hy]
theorem rne_le {n d m : Nat} (hd : 0 < d) (h : n ≤ m * d) : rne n d ≤ m := by
  unfold rne
  have h1 := Nat.div_add_mod n d
  have h2 := Nat.mod_lt n hd
  rcases Nat.lt_or_ge (n / d) m with h3 | h3
  · have : (decide (d < 2 * (n % d)) || (decide (d = 2 * (n % d)) && decide (n / d % 2 = 1))).toNat ≤ 1 := Bool.toNat_le _
    omega
  · have h4 : d * m ≤ d * (n / d) := Nat.mul_le_mul_left d h3
    have h5 : n % d = 0 := by rw [Nat.mul_comm m d] at h; omega
    have h6 : n / d ≤ m := by
      have := Nat.div_le_div_right (c := d) h
      rwa [Nat.mul_div_cancel _ hd] at this
    rw [h5]
    have h1 : decide (d < 2 * 0) = false := by simp
    have h2 : decide (d = 2 * 0) = false := by simp; omega
    rw [h1, h2]; simpa using h6
theorem cut_even (neg : Bool) (n drop : Nat) : Toward.even.cut neg n drop = rne n (2 ^ drop) := by
  unfold Toward.cut rne
  have hlog : n < 2 ^ (n.log2 + 1) := Nat.lt_log2_self
  simp only [Nat.one_shiftLeft]
  rcases Nat.lt_or_ge (n.log2 + 2) drop with h | h
  · rw [Nat.min_eq_right (by omega)]
    have hp : 2 ^ (n.log2 + 2) = 2 * 2 ^ (n.log2 + 1) := by rw [Nat.pow_succ]; omega
    have hq : 2 ^ (n.log2 + 2) ≤ 2 ^ drop := Nat.pow_le_pow_right (by decide) (by omega)
    have a1 : n / 2 ^ (n.log2 + 2) = 0 := Nat.div_eq_of_lt (by omega)
    have a2 : n % 2 ^ (n.log2 + 2) = n := Nat.mod_eq_of_lt (by omega)
    have b1 : n / 2 ^ drop = 0 := Nat.div_eq_of_lt (by omega)
    have b2 : n % 2 ^ drop = n := Nat.mod_eq_of_lt (by omega)
    rw [a1, a2, b1, b2]
    have c1 : decide (2 ^ (n.log2 + 2) < 2 * n) = false := by simp; omega
    have c2 : decide (2 ^ drop < 2 * n) = false := by simp; omega
    rw [c1, c2]
    simp
  · rw [Nat.min_eq_left h]
    congr 2
theorem word_pos (r : Nat) : double.word false r = r := rfl
theorem word_neg (r : Nat) : double.word true r = S63 + r := rfl

/-- the last digit's place of a number N by D, in units of 2^-1074 -/
structure Unit (N D t : Nat) : Prop where
  hD : 0 < D
  hi : N < D * 2 ^ (t + 53)
  lo : t = 0 ∨ D * 2 ^ (t + 52) ≤ N
theorem two_pow_lt {a b : Nat} (h : 2 ^ a < 2 ^ b) : a < b := (Nat.pow_lt_pow_iff_right (by decide)).1 h
theorem nearest_of {N D t mag a b : Nat} {place : Int} (neg : Bool) (hu : Unit N D t) (hm : 0 < mag) (hp : place + 1074 = (a : Int) - (b : Int)) (hv : mag * 2 ^ a * D = N * 2 ^ b) :
    double.nearest neg mag place = double.word neg (min (t * B52 + rne N (D * 2 ^ t)) INF) := by
  obtain ⟨hD, hi, lo⟩ := hu
  have hl1 : 2 ^ mag.log2 ≤ mag := Nat.log2_self_le (by omega)
  have hl2 : mag < 2 ^ (mag.log2 + 1) := Nat.lt_log2_self
  have hlast : max (place + (mag.log2 : Int) - 52) (-1074) = (t : Int) - 1074 := by
    have k1 : mag.log2 + a < t + 53 + b := by
      apply two_pow_lt
      have h1 : mag * 2 ^ a * D < D * 2 ^ (t + 53) * 2 ^ b := by rw [hv]; exact Nat.mul_lt_mul_of_pos_right hi (Nat.two_pow_pos _)
      rw [Nat.mul_comm, Nat.mul_assoc] at h1
      have h2 := Nat.lt_of_mul_lt_mul_left h1
      rw [Nat.pow_add, Nat.pow_add 2 (t + 53)]
      exact Nat.lt_of_le_of_lt (Nat.mul_le_mul_right _ hl1) h2
    rcases lo with h0 | h0
    · subst h0; omega
    · have k2 : t + 52 + b < mag.log2 + 1 + a := by
        apply two_pow_lt
        have h1 : D * 2 ^ (t + 52) * 2 ^ b ≤ mag * 2 ^ a * D := by rw [hv]; exact Nat.mul_le_mul_right _ h0
        rw [Nat.mul_comm (mag * 2 ^ a), Nat.mul_assoc] at h1
        have h2 := Nat.le_of_mul_le_mul_left h1 hD
        rw [Nat.pow_add 2 (t + 52), Nat.pow_add 2 (mag.log2 + 1)]
        exact Nat.lt_of_le_of_lt h2 (Nat.mul_lt_mul_of_pos_right hl2 (Nat.two_pow_pos _))
      omega
  unfold Format.nearest
  rw [if_neg (by omega)]
  have e1 : ((double.fractionBits : Nat) : Int) = 52 := rfl
  have e2 : double.leastPlace = -1074 := by decide
  have e3 : double.binade = B52 := rfl
  have e4 : double.infRung = INF := by decide
  simp only [e1, e2, e3, e4, hlast]
  rw [cut_even, Nat.shiftLeft_eq]
  have e5 : ((t : Int) - 1074 - -1074).toNat = t := by omega
  rw [e5]
  congr 3
  apply rne_ratio (Nat.two_pow_pos _) (Nat.mul_pos hD (Nat.two_pow_pos _))
  generalize hu : (place - ((t : Int) - 1074)).toNat = u
  generalize hw : ((t : Int) - 1074 - place).toNat = v
  have huv : u + b + t = a + v := by omega
  -- mag 2^u D 2^t = N 2^v, both times 2^b
  apply Nat.eq_of_mul_eq_mul_right (Nat.two_pow_pos b)
  calc mag * 2 ^ u * (D * 2 ^ t) * 2 ^ b = mag * D * 2 ^ (u + b + t) := by
        rw [Nat.pow_add, Nat.pow_add]
        ac_rfl
    _ = mag * 2 ^ a * D * 2 ^ v := by
        rw [huv, Nat.pow_add]
        ac_rfl
    _ = N * 2 ^ v * 2 ^ b := by
        rw [hv]
        ac_rfl
end Go.Proofs.Ytnbhcemgoifkgaa
