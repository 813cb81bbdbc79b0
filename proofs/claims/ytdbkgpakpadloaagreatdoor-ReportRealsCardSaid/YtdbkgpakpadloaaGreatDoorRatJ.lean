/- Contract of package bushelref04's Root. Conditions: numbers below 2^3000. -/
import Derived.Test.YtdbkgpakpadloaaGreatDoorRatI
namespace Go.Proofs.YtdbkgpakpadloaaGreatDoor
open Go.RowKit Ieee

theorem fits_hi_eq {M Q t g K : Nat} (h : t = g + K) : M * M * Q * 2 ^ (2 * g) * (2 ^ K * 2 ^ K) = Q * (M * 2 ^ t * (M * 2 ^ t)) := by
  rw [h, pow_dbl, Nat.pow_add]
  ac_rfl
theorem fits_lo_eq {M Q t : Nat} : M * M * Q * (2 ^ t * 2 ^ t) = Q * (M * 2 ^ t * (M * 2 ^ t)) := by ac_rfl
theorem fits_lo_eq2 {P t g K : Nat} (h : t + g = K) : P * 2 ^ (2 * g) * (2 ^ t * 2 ^ t) = P * (2 ^ K * 2 ^ K) := by
  rw [← h, pow_dbl, Nat.pow_add]
  ac_rfl
theorem fit_mm {M K : Nat} (hM : M < 2 ^ K) (hK : K ≤ 10000) : Fit ((M * M : Nat) : Int) := by
  refine fit_nat (K := K + K) ?_ (by omega)
  rw [Nat.pow_add]
  exact Nat.mul_lt_mul_of_lt_of_lt hM hM
theorem fit_mmq {M Q K : Nat} (hM : M < 2 ^ K) (hQ : Q < 2 ^ K) (hK : K ≤ 10000) : Fit ((M * M * Q : Nat) : Int) := by
  refine fit_nat (K := K + K + K) ?_ (by omega)
  rw [Nat.pow_add, Nat.pow_add]
  exact Nat.mul_lt_mul_of_lt_of_lt (Nat.mul_lt_mul_of_lt_of_lt hM hM) hQ

theorem cmpZ_le_iff {x y : Int} : cmpZ x y ≤ 0 ↔ x ≤ y := by
  unfold cmpZ
  split
  · omega
  · split <;> omega
def RSearch (N D : Nat) (L H : Int) : Prop := (L = -1074 ∨ D * (2 ^ ((L + 1074).toNat + 52) * 2 ^ ((L + 1074).toNat + 52)) ≤ N) ∧ (H = 1600 ∨ N < D * (2 ^ ((H + 1074).toNat + 53) * 2 ^ ((H + 1074).toNat + 53)))
theorem p53 (t : Nat) : 9007199254740992 * 2 ^ t = 2 ^ (t + 53) := by
  rw [Nat.add_comm, Nat.pow_add]
theorem rsearch_dn {N D tm : Nat} {L H M : Int} (h : RSearch N D L H) (hM : M + 1074 = (tm : Int)) (hb : ¬ D * (9007199254740992 * 2 ^ tm * (9007199254740992 * 2 ^ tm)) ≤ N) : RSearch N D L M := by
  rw [p53] at hb
  exact ⟨h.1, .inr (by rw [show (M + 1074).toNat = tm from by omega]; omega)⟩
theorem rsearch_up {N D tm : Nat} {L H M : Int} (h : RSearch N D L H) (hM : M + 1074 = (tm : Int)) (hb : D * (9007199254740992 * 2 ^ tm * (9007199254740992 * 2 ^ tm)) ≤ N) : RSearch N D (M + 1) H := by
  rw [p53] at hb
  exact ⟨.inr (by rw [show (M + 1 + 1074).toNat + 52 = tm + 53 from by omega]; exact hb), h.2⟩
theorem rsearch_end {N D t : Nat} {L : Int} (hu : RUnit N D t) (ht : t ≤ 2600) (h : RSearch N D L L) (h0 : -1074 ≤ L) : L = (t : Int) - 1074 := by
  have h1 : N < D * (2 ^ ((L + 1074).toNat + 53) * 2 ^ ((L + 1074).toNat + 53)) := by
    rcases h.2 with h2 | h2
    · refine Nat.lt_of_lt_of_le hu.hi (Nat.mul_le_mul_left _ (sq_le.2 (Nat.pow_le_pow_right (by decide) (by omega))))
    · exact h2
  have h3 : RUnit N D (L + 1074).toNat := ⟨hu.hD, h1, by
    rcases h.1 with h2 | h2
    · exact .inl (by omega)
    · exact .inr h2⟩
  have := hu.one h3
  omega
theorem runit_le {p q t K k : Nat} (hu : RUnit (p * (2 ^ k * 2 ^ k)) q t) (hp : p < 2 ^ K) (hK : K ≤ 3000) (hk : k = 1074) : t ≤ 2600 := by
  rcases hu.lo with h | h
  · omega
  · have h1 : 2 ^ (t + 52) * 2 ^ (t + 52) ≤ q * (2 ^ (t + 52) * 2 ^ (t + 52)) := Nat.le_mul_of_pos_left _ hu.hD
    have h2 : p * (2 ^ k * 2 ^ k) < 2 ^ K * (2 ^ k * 2 ^ k) := Nat.mul_lt_mul_of_pos_right hp (pp_pos k)
    have h3 := Nat.lt_of_le_of_lt (Nat.le_trans h1 h) h2
    rw [← Nat.pow_add, ← Nat.pow_add, ← Nat.pow_add] at h3
    have := two_pow_lt h3
    omega
/-- a whole number of units is its own nearest number -/
theorem near_int {m t : Nat} (hm : m ≤ 9007199254740992) (h : t = 0 ∨ 4503599627370496 ≤ m) : nearN m ((t : Int) - 1074) = min (t * B52 + m) INF := by
  rcases Nat.eq_zero_or_pos m with h0 | h0
  · subst h0
    have ht : t = 0 := by omega
    subst ht
    rw [near_zero]
    rfl
  · have hq : iv (t * B52 + m) = m * 2 ^ t := rung_of (by unfold B52; omega) h
    unfold nearN
    rw [nearest_iv (q := t * B52 + m) (a := t) (b := 0) false h0 (by omega) (by rw [hq, Nat.pow_zero, Nat.mul_one])]
    exact word_pos _
theorem upR_eq {N D t m : Nat} (A B : Bool) (hA : decide (D * ((2 * m + 1) * 2 ^ t * ((2 * m + 1) * 2 ^ t)) ≤ 4 * N) = A) (hB : decide (D * ((2 * m + 1) * 2 ^ t * ((2 * m + 1) * 2 ^ t)) = 4 * N) = B) :
    upR N D t m = (A && (decide (m % 2 = 1) || !B)) := by
  unfold upR
  rw [← hA, ← hB]
  generalize D * ((2 * m + 1) * 2 ^ t * ((2 * m + 1) * 2 ^ t)) = U
  rcases Nat.lt_trichotomy U (4 * N) with h | h | h
  · rw [decide_eq_true h, decide_eq_true (show U ≤ 4 * N by omega), show decide (U = 4 * N) = false from by simp; omega]
    simp
  · rw [h]
    simp
  · rw [show decide (U < 4 * N) = false from by simp; omega, show decide (U ≤ 4 * N) = false from by simp; omega, show decide (U = 4 * N) = false from by simp; omega]
    simp

end Go.Proofs.YtdbkgpakpadloaaGreatDoor
