/- The nearest number to a quotient of two whole numbers: there is one, and only one. No conditions. -/
import Derived.Test.YtfanjmgbkmdmfaaMFloB
namespace Go.Proofs.Ytfanjmgbkmdmfaa
open Go.RowKit Ieee

/-- z is the word of the nearest number to N by D units of 2^-1074 -/
def IsNear (N D z : Nat) : Prop := ∃ t, Unit N D t ∧ z = min (t * B52 + rne N (D * 2 ^ t)) INF

theorem Unit.above {N D t u : Nat} (h : Unit N D t) (k : Unit N D u) : u ≤ t := by
  rcases k.lo with h0 | h0
  · omega
  · have h1 := Nat.lt_of_le_of_lt h0 h.hi
    have := two_pow_lt (Nat.lt_of_mul_lt_mul_left h1)
    omega
theorem Unit.one {N D t u : Nat} (h : Unit N D t) (k : Unit N D u) : t = u := Nat.le_antisymm (k.above h) (h.above k)
theorem IsNear.one {N D z y : Nat} (h : IsNear N D z) (k : IsNear N D y) : z = y := by
  obtain ⟨t, ht, rfl⟩ := h
  obtain ⟨u, hu, rfl⟩ := k
  rw [ht.one hu]
theorem unit_upto {N D : Nat} (hD : 0 < D) (k : Nat) : N < D * 2 ^ (k + 53) → ∃ t, Unit N D t := by
  induction k with
  | zero => exact fun h => ⟨0, hD, h, .inl rfl⟩
  | succ k ih =>
    intro h
    rcases Nat.lt_or_ge N (D * 2 ^ (k + 53)) with h1 | h1
    · exact ih h1
    · exact ⟨k + 1, hD, h, .inr (by rw [show k + 1 + 52 = k + 53 from by omega]; exact h1)⟩
theorem unit_exist (N : Nat) {D : Nat} (hD : 0 < D) : ∃ t, Unit N D t := by
  refine unit_upto hD N ?_
  have h1 : N < 2 ^ N := Nat.lt_two_pow_self
  have h2 : 2 ^ N ≤ 2 ^ (N + 53) := Nat.pow_le_pow_right (by decide) (by omega)
  exact Nat.lt_of_lt_of_le (Nat.lt_of_lt_of_le h1 h2) (Nat.le_mul_of_pos_left _ hD)
theorem rne_ge {n d m : Nat} (hd : 0 < d) (h : m * d ≤ n) : m ≤ rne n d := by
  unfold rne
  have := (Nat.le_div_iff_mul_le hd).2 h
  omega
theorem Unit.rne_le {N D t : Nat} (h : Unit N D t) : rne N (D * 2 ^ t) ≤ 2 * B52 := by
  refine Go.Proofs.Ytfanjmgbkmdmfaa.rne_le (Nat.mul_pos h.hD (Nat.two_pow_pos t)) ?_
  have h1 := h.hi
  rw [Nat.add_comm t, Nat.pow_add 2 53] at h1
  have e : 2 * B52 * (D * 2 ^ t) = D * (2 ^ 53 * 2 ^ t) := by
    show 2 ^ 53 * (D * 2 ^ t) = _
    ac_rfl
  rw [e]
  exact Nat.le_of_lt h1
theorem Unit.rne_ge {N D t : Nat} (h : Unit N D t) (ht : t ≠ 0) : B52 ≤ rne N (D * 2 ^ t) := by
  refine Go.Proofs.Ytfanjmgbkmdmfaa.rne_ge (Nat.mul_pos h.hD (Nat.two_pow_pos t)) ?_
  have h1 : D * 2 ^ (t + 52) ≤ N := by
    rcases h.lo with h0 | h0
    · exact absurd h0 ht
    · exact h0
  rw [Nat.add_comm t, Nat.pow_add 2 52] at h1
  have e : B52 * (D * 2 ^ t) = D * (2 ^ 52 * 2 ^ t) := by
    show 2 ^ 52 * (D * 2 ^ t) = _
    ac_rfl
  rw [e]
  exact h1
theorem IsNear.inf {N D k : Nat} (hD : 0 < D) (hk : 2098 ≤ k) (h : D * 2 ^ k ≤ N) : IsNear N D INF := by
  obtain ⟨t, ht⟩ := unit_exist N hD
  refine ⟨t, ht, ?_⟩
  have h1 := two_pow_lt (Nat.lt_of_mul_lt_mul_left (Nat.lt_of_le_of_lt h ht.hi))
  have h2 := ht.rne_ge (by omega)
  rw [Nat.min_eq_right]
  unfold INF
  unfold B52 at *
  omega
theorem near_is {X A B : Nat} {e : Int} (h0 : 0 < X) (hp : e + 1074 = (A : Int) - (B : Int)) : IsNear (X * 2 ^ A) (2 ^ B) (nearN X e) := by
  obtain ⟨t, ht⟩ := unit_exist (X * 2 ^ A) (Nat.two_pow_pos B)
  refine ⟨t, ht, ?_⟩
  unfold nearN
  rw [nearest_of (a := A) (b := B) false ht h0 hp rfl]
  exact word_pos _
theorem Unit.scale {N D t k : Nat} (h : Unit N D t) (hk : 0 < k) : Unit (N * k) (D * k) t := by
  obtain ⟨h1, h2, h3⟩ := h
  refine ⟨Nat.mul_pos h1 hk, ?_, ?_⟩
  · rw [Nat.mul_right_comm]; exact Nat.mul_lt_mul_of_pos_right h2 hk
  · rcases h3 with h3 | h3
    · exact .inl h3
    · right; rw [Nat.mul_right_comm]; exact Nat.mul_le_mul_right _ h3
theorem IsNear.scale {N D z k : Nat} (h : IsNear N D z) (hk : 0 < k) : IsNear (N * k) (D * k) z := by
  obtain ⟨t, ht, hz⟩ := h
  refine ⟨t, ht.scale hk, ?_⟩
  rw [hz, Nat.mul_right_comm, rne_scale hk]
theorem IsNear.le {N D z : Nat} (h : IsNear N D z) : z ≤ INF := by
  obtain ⟨t, -, rfl⟩ := h
  exact Nat.min_le_right _ _

/-- the question below(p, q, e, k) in units of 2^-1074 -/
theorem below_hi {P Q A B t g : Nat} {e k : Int} (hA : e + 1074 = (A : Int) - (B : Int)) (hk : k = (t : Int) + 53 - 1074) (hg : k = e + (g : Int)) :
    (P < Q * 2 ^ g) ↔ (P * 2 ^ A < Q * 2 ^ B * 2 ^ (t + 53)) := by
  have e1 : B + (t + 53) = g + A := by omega
  rw [Nat.mul_assoc Q, ← Nat.pow_add, e1, Nat.pow_add, ← Nat.mul_assoc]
  exact (Nat.mul_lt_mul_right (Nat.two_pow_pos A)).symm
theorem below_lo {P Q A B t g : Nat} {e k : Int} (hA : e + 1074 = (A : Int) - (B : Int)) (hk : k = (t : Int) + 53 - 1074) (hg : e = k + (g : Int)) :
    (P * 2 ^ g < Q) ↔ (P * 2 ^ A < Q * 2 ^ B * 2 ^ (t + 53)) := by
  have e1 : A = g + (B + (t + 53)) := by omega
  rw [Nat.mul_assoc Q, ← Nat.pow_add, e1, Nat.pow_add, ← Nat.mul_assoc]
  exact (Nat.mul_lt_mul_right (Nat.two_pow_pos _)).symm
theorem cmpZ_neg {x y : Int} : cmpZ x y < 0 ↔ x < y := by
  unfold cmpZ
  split
  · omega
  · split <;> omega
theorem cmpZ_pos {x y : Int} : 0 < cmpZ x y ↔ y < x := by
  unfold cmpZ
  split
  · omega
  · split <;> omega
theorem cmpZ_nul {x y : Int} : cmpZ x y = 0 ↔ x = y := by
  unfold cmpZ
  split
  · omega
  · split <;> omega
end Go.Proofs.Ytfanjmgbkmdmfaa
