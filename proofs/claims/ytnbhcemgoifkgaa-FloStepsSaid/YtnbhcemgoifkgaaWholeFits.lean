/- When a number is one of int64. No conditions. -/
import Derived.WalkKit
namespace Go.Proofs.Ytnbhcemgoifkgaa
/-- is a number one of int64? -/
def fits (z : Int) : Bool := decide (-9223372036854775808 ≤ z ∧ z ≤ 9223372036854775807)
/-- the number itself where int64 has room for it, else 0 -/
def clip (z : Int) : Int := if fits z then z else 0

theorem fits_yes {z : Int} (h : -9223372036854775808 ≤ z ∧ z ≤ 9223372036854775807) : fits z = true := by simp [fits, h]
theorem fits_no {z : Int} (h : ¬ (-9223372036854775808 ≤ z ∧ z ≤ 9223372036854775807)) : fits z = false := by
  simp only [fits, decide_eq_false_iff_not]; exact h
theorem fits_iff {z : Int} : fits z = true ↔ (-9223372036854775808 ≤ z ∧ z ≤ 9223372036854775807) := by simp [fits]
theorem clip_yes {z : Int} (h : fits z = true) : clip z = z := by simp [clip, h]
theorem clip_no {z : Int} (h : fits z = false) : clip z = 0 := by simp [clip, h]
theorem clip_range (z : Int) : -9223372036854775808 ≤ clip z ∧ clip z ≤ 9223372036854775807 := by
  by_cases h : fits z = true
  · rw [clip_yes h]; exact fits_iff.1 h
  · rw [clip_no (by simpa using h)]; omega

end Go.Proofs.Ytnbhcemgoifkgaa
