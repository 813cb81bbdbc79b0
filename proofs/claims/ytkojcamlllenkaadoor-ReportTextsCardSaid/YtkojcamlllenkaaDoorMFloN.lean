/- The awake of package bushellaw03 and the walk of the law FloOrders. No conditions. -/
import Derived.Test.YtkojcamlllenkaaDoorMFloB
import Derived.Test.YtkojcamlllenkaaDoorMFloC
namespace Go.Proofs.YtkojcamlllenkaaDoor
open Go.RowKit Ieee

end Go.Proofs.YtkojcamlllenkaaDoor
/- The walk of the law FloTells. No conditions. -/
namespace Go.Proofs.YtkojcamlllenkaaDoor
open Go.RowKit Ieee

theorem odd_le {r M k : Nat} (h : OddOf (iv r) M k) : M < 9007199254740992 := by
 obtain ⟨h1, h2⟩ := h
 unfold iv at h1
 have hk : sh r ≤ k := by
  rcases Nat.lt_or_ge k (sh r) with h3 | h3
  ·exfalso
   obtain ⟨d, hd⟩ : ∃ d, sh r = k + 1 + d := ⟨sh r - k - 1, by omega⟩
   rw [hd] at h1
   have e : M = mg r * 2 ^ d * 2 := by
    apply Nat.eq_of_mul_eq_mul_right (Nat.two_pow_pos k)
    rw [← h1, Nat.pow_add, Nat.pow_succ]
    ac_rfl
   omega
  ·exact h3
 obtain ⟨d, hd⟩ : ∃ d, k = d + sh r := ⟨k - sh r, by omega⟩
 rw [hd, Nat.pow_add, ← Nat.mul_assoc] at h1
 have h3 := Nat.eq_of_mul_eq_mul_right (Nat.two_pow_pos (sh r)) h1
 have h4 := mg_lt r
 have h5 := Nat.le_mul_of_pos_right M (Nat.two_pow_pos d)
 unfold B52 at h4
 omega
/-- what is split is joined again -/
theorem join_split {b : Nat} {neg : Bool} {m x : Int} (hb : b < 18446744073709551616) (h : SplitOut b neg m x) (hk : kindZ b = 0 ∨ kindZ b = 1) :
  ∃ M : Nat, m = (M : Int) ∧ M < 9007199254740992 ∧ joinN neg M x = b ∧ -2000 ≤ x ∧ x ≤ 9223372036854775807 := by
 rcases h with ⟨h1, rfl, rfl, rfl⟩ | ⟨h1, rfl, M, k, rfl, rfl, ho⟩
 ·have hk0 : kindZ b = 0 := by rcases hk with h | h; exact h; exact absurd h h1
  have hz : b % S63 = 0 := by
   unfold kindZ at hk0
   split at hk0
   ·omega
   ·split at hk0
    ·omega
    ·split at hk0
     ·assumption
     ·omega
  refine ⟨0, rfl, by omega, ?_, by omega, by omega⟩
  have hb2 : b = 0 ∨ b = S63 := by unfold S63 at *; omega
  rcases hb2 with rfl | rfl <;> decide
 ·have hk1 := kind1.1 h1
  have hM : 0 < M := by have := ho.2; omega
  have hkb : k ≤ 3000 := by
   have h2 : iv (b % S63) < iv INF := iv_lt hk1.2
   rw [ho.1, iv_inf] at h2
   have h3 : 2 ^ k ≤ M * 2 ^ k := Nat.le_mul_of_pos_left _ hM
   have h4 : B52 * 2 ^ K2046 = 2 ^ (52 + K2046) := by rw [Nat.pow_add]
   rw [h4] at h2
   have h5 := two_pow_lt (Nat.lt_of_le_of_lt h3 h2)
   unfold K2046 at h5
   omega
  refine ⟨M, rfl, odd_le ho, ?_, by omega, by omega⟩
  have hn : nearN M ((k : Int) - 1074) = b % S63 := by
   unfold nearN
   rw [nearest_iv (q := b % S63) (a := k) (b := 0) false hM (by omega) (by rw [← ho.1, Nat.pow_zero, Nat.mul_one]), Nat.min_eq_left (by omega)]
   exact word_pos _
  unfold joinN
  rw [hn]
  by_cases hs : S63 ≤ b
  ·rw [show decide (S63 ≤ b) = true from by simpa using hs, if_pos rfl]
   unfold S63 at *
   omega
  ·rw [show decide (S63 ≤ b) = false from by simpa using hs, if_neg (by decide)]
   unfold S63 at *
   omega
end Go.Proofs.YtkojcamlllenkaaDoor
