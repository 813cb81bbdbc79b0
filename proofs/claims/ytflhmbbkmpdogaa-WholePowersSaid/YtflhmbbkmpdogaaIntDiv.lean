/- Plain lemmas on quotients and remainders of integers. No conditions but those stated. -/
import Derived.WalkKit
namespace Go.Proofs.Ytflhmbbkmpdogaa
theorem uniq_pos (b x r s : Int) (hb : 0 < b) (h : b * x = r - s) (hr : r.natAbs < b.natAbs ∧ s.natAbs < b.natAbs) (hs : 0 ≤ r ∧ 0 ≤ s ∨ r ≤ 0 ∧ s ≤ 0) : x = 0 := by
  rcases Int.lt_trichotomy x 0 with hx | hx | hx
  · have := Int.mul_le_mul_of_nonneg_left (a := x) (b := -1) (c := b) (by omega) (by omega)
    omega
  · exact hx
  · have := Int.mul_le_mul_of_nonneg_left (a := 1) (b := x) (c := b) (by omega) (by omega)
    omega
theorem uniq (b x r s : Int) (hb : b ≠ 0) (h : b * x = r - s) (hr : r.natAbs < b.natAbs ∧ s.natAbs < b.natAbs) (hs : 0 ≤ r ∧ 0 ≤ s ∨ r ≤ 0 ∧ s ≤ 0) : x = 0 := by
  rcases Int.lt_or_gt_of_ne hb with h1 | h1
  · exact uniq_pos (-b) x s r (by omega) (by rw [Int.neg_mul]; omega) (by omega) (by omega)
  · exact uniq_pos b x r s h1 h hr hs
theorem fmod_rng (a b : Int) : (0 < b → 0 ≤ a.fmod b ∧ a.fmod b < b) ∧ (b < 0 → b < a.fmod b ∧ a.fmod b ≤ 0) :=
  ⟨fun h => ⟨Int.fmod_nonneg_of_pos a h, Int.fmod_lt_of_pos a h⟩, fun h => by
    have h1 := Int.fmod_nonneg_of_pos (-a) (b := -b) (by omega)
    have h2 := Int.fmod_lt_of_pos (-a) (b := -b) (by omega)
    rw [Int.neg_fmod_neg] at h1 h2
    omega⟩
theorem tmod_rng (a b : Int) (hb : b ≠ 0) : (a.tmod b).natAbs < b.natAbs := by
  rw [Int.natAbs_tmod]; exact Nat.mod_lt _ (by omega)
theorem floor_div (a b : Int) (hb : b ≠ 0) : (a.tmod b ≠ 0 → ((a.tmod b < 0) ↔ ¬ (b < 0)) → a.tdiv b - 1 = a.fdiv b ∧ a.tmod b + b = a.fmod b) ∧
    ((a.tmod b = 0 ∨ ((a.tmod b < 0) ↔ (b < 0))) → a.tdiv b = a.fdiv b ∧ a.tmod b = a.fmod b) := by
  have e1 := Int.mul_tdiv_add_tmod a b
  have e2 := Int.mul_fdiv_add_fmod a b
  have r1 := fmod_rng a b
  have r2 := tmod_rng a b hb
  constructor
  · intro h0 h
    have hx : a.tdiv b - 1 - a.fdiv b = 0 := by
      refine uniq b _ (a.fmod b) (a.tmod b + b) hb ?_ (by omega) (by omega)
      rw [Int.mul_sub, Int.mul_sub]; omega
    have : a.tdiv b = a.fdiv b + 1 := by omega
    rw [this, Int.mul_add] at e1
    omega
  · intro h
    have hx : a.tdiv b - a.fdiv b = 0 := by
      refine uniq b _ (a.fmod b) (a.tmod b) hb ?_ (by omega) (by omega)
      rw [Int.mul_sub]; omega
    have : a.tdiv b = a.fdiv b := by omega
    rw [this] at e1
    omega
theorem tdiv_range (a b : Int) (h1 : -9223372036854775808 ≤ a) (h2 : a ≤ 9223372036854775807) (hb : ¬ (b = 0)) (hq : ¬ (b = -1)) : -9223372036854775808 ≤ a.tdiv b ∧ a.tdiv b ≤ 9223372036854775807 := by
  have h : (a.tdiv b).natAbs = a.natAbs / b.natAbs := Int.natAbs_tdiv a b
  have hd := Nat.div_le_self a.natAbs b.natAbs
  by_cases hb1 : b = 1
  · subst hb1; rw [Int.tdiv_one]; omega
  · have : a.natAbs / b.natAbs ≤ a.natAbs / 2 := Nat.div_le_div_left (by omega) (by omega)
    omega
theorem tdiv_small (a b : Int) (h1 : -9223372036854775808 ≤ a) (h2 : a ≤ 9223372036854775807) (hb : ¬ (b = 0)) (hz : ¬ (a.tmod b = 0)) : -4611686018427387904 ≤ a.tdiv b ∧ a.tdiv b ≤ 4611686018427387904 := by
  have h : (a.tdiv b).natAbs = a.natAbs / b.natAbs := Int.natAbs_tdiv a b
  have h1' : b ≠ 1 := fun e => hz (by rw [e, Int.tmod_one])
  have h2' : b ≠ -1 := fun e => hz (by rw [e, Int.tmod_neg, Int.tmod_one])
  have : a.natAbs / b.natAbs ≤ a.natAbs / 2 := Nat.div_le_div_left (by omega) (by omega)
  omega
theorem tmod_m1 (a : Int) : a.tmod (-1) = 0 := by
  rw [Int.tmod_neg, Int.tmod_one]
end Go.Proofs.Ytflhmbbkmpdogaa
