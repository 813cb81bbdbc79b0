/- The nearest number to the root of a quotient: there is one, and only one; it is rounded by the root's first bits. No conditions. -/
import Derived.Test.YtfanjmgbkmdmfaaRatA
namespace Go.Proofs.Ytfanjmgbkmdmfaa
open Go.RowKit Ieee

/-- the last digit's place of the root of N by D (units of 2^-1074, N in their squares) -/
structure RUnit (N D t : Nat) : Prop where
  hD : 0 < D
  hi : N < D * (2 ^ (t + 53) * 2 ^ (t + 53))
  lo : t = 0 ∨ D * (2 ^ (t + 52) * 2 ^ (t + 52)) ≤ N
def upR (N D t m : Nat) : Bool := decide (D * ((2 * m + 1) * 2 ^ t * ((2 * m + 1) * 2 ^ t)) < 4 * N) || (decide (D * ((2 * m + 1) * 2 ^ t * ((2 * m + 1) * 2 ^ t)) = 4 * N) && decide (m % 2 = 1))
def IsRoot (N D z : Nat) : Prop := ∃ t m, RUnit N D t ∧ D * (m * 2 ^ t * (m * 2 ^ t)) ≤ N ∧ N < D * ((m + 1) * 2 ^ t * ((m + 1) * 2 ^ t)) ∧ z = min (t * B52 + (m + (upR N D t m).toNat)) INF

theorem sq_lt {x y : Nat} : x * x < y * y ↔ x < y := Nat.mul_self_lt_mul_self_iff
theorem sq_le {x y : Nat} : x * x ≤ y * y ↔ x ≤ y := Nat.mul_self_le_mul_self_iff
theorem sq_eq {x y : Nat} : x * x = y * y ↔ x = y := ⟨fun h => Nat.le_antisymm (sq_le.1 (Nat.le_of_eq h)) (sq_le.1 (Nat.le_of_eq h.symm)), fun h => by rw [h]⟩
theorem sq_pow_lt {a b : Nat} (h : 2 ^ a * 2 ^ a < 2 ^ b * 2 ^ b) : a < b := two_pow_lt (sq_lt.1 h)
theorem RUnit.above {N D t u : Nat} (h : RUnit N D t) (k : RUnit N D u) : u ≤ t := by
  rcases k.lo with h0 | h0
  · omega
  · have h1 := Nat.lt_of_le_of_lt h0 h.hi
    have := sq_pow_lt (Nat.lt_of_mul_lt_mul_left h1)
    omega
theorem RUnit.one {N D t u : Nat} (h : RUnit N D t) (k : RUnit N D u) : t = u := Nat.le_antisymm (k.above h) (h.above k)
theorem root_floor_le {N D t m k : Nat} (h1 : D * (m * 2 ^ t * (m * 2 ^ t)) ≤ N) (h2 : N < D * ((k + 1) * 2 ^ t * ((k + 1) * 2 ^ t))) : m ≤ k := by
  have h3 := sq_lt.1 (Nat.lt_of_mul_lt_mul_left (Nat.lt_of_le_of_lt h1 h2))
  have := Nat.lt_of_mul_lt_mul_right h3
  omega
theorem IsRoot.one {N D z y : Nat} (h : IsRoot N D z) (k : IsRoot N D y) : z = y := by
  obtain ⟨t, m, ht, h1, h2, rfl⟩ := h
  obtain ⟨u, n, hu, k1, k2, rfl⟩ := k
  obtain rfl := ht.one hu
  obtain rfl : m = n := Nat.le_antisymm (root_floor_le h1 k2) (root_floor_le k1 h2)
  rfl
theorem runit_upto {N D : Nat} (hD : 0 < D) (k : Nat) : N < D * (2 ^ (k + 53) * 2 ^ (k + 53)) → ∃ t, RUnit N D t := by
  induction k with
  | zero => exact fun h => ⟨0, hD, h, .inl rfl⟩
  | succ k ih =>
    intro h
    rcases Nat.lt_or_ge N (D * (2 ^ (k + 53) * 2 ^ (k + 53))) with h1 | h1
    · exact ih h1
    · exact ⟨k + 1, hD, h, .inr (by rw [show k + 1 + 52 = k + 53 from by omega]; exact h1)⟩
theorem runit_exist (N : Nat) {D : Nat} (hD : 0 < D) : ∃ t, RUnit N D t := by
  refine runit_upto hD N ?_
  have h1 : N < 2 ^ N := Nat.lt_two_pow_self
  have h2 : 2 ^ N ≤ 2 ^ (N + 53) := Nat.pow_le_pow_right (by decide) (by omega)
  have h3 : 2 ^ (N + 53) ≤ 2 ^ (N + 53) * 2 ^ (N + 53) := Nat.le_mul_of_pos_left _ (Nat.two_pow_pos _)
  exact Nat.lt_of_lt_of_le (Nat.lt_of_lt_of_le (Nat.lt_of_lt_of_le h1 h2) h3) (Nat.le_mul_of_pos_left _ hD)

theorem root_scale {q a b c t k K : Nat} (h : t + a = b + K + c) : q * (k * 2 ^ t * (k * 2 ^ t)) * (2 ^ a * 2 ^ a) = k * 2 ^ c * (k * 2 ^ c) * (q * (2 ^ b * 2 ^ b)) * (2 ^ K * 2 ^ K) := by
  have e1 : q * (k * 2 ^ t * (k * 2 ^ t)) * (2 ^ a * 2 ^ a) = q * (k * k) * (2 ^ (t + a) * 2 ^ (t + a)) := by rw [Nat.pow_add]; ac_rfl
  have e2 : k * 2 ^ c * (k * 2 ^ c) * (q * (2 ^ b * 2 ^ b)) * (2 ^ K * 2 ^ K) = q * (k * k) * (2 ^ (b + K + c) * 2 ^ (b + K + c)) := by rw [Nat.pow_add, Nat.pow_add]; ac_rfl
  rw [e1, e2, h]
theorem pp_pos (a : Nat) : 0 < 2 ^ a * 2 ^ a := Nat.mul_pos (Nat.two_pow_pos a) (Nat.two_pow_pos a)
theorem root_le {p q a b c t k K : Nat} (h : t + a = b + K + c) : q * (k * 2 ^ t * (k * 2 ^ t)) ≤ p * (2 ^ K * 2 ^ K) ↔ k * 2 ^ c * (k * 2 ^ c) * (q * (2 ^ b * 2 ^ b)) ≤ p * (2 ^ a * 2 ^ a) := by
  rw [← Nat.mul_le_mul_right_iff (pp_pos a), root_scale h, show p * (2 ^ K * 2 ^ K) * (2 ^ a * 2 ^ a) = p * (2 ^ a * 2 ^ a) * (2 ^ K * 2 ^ K) from Nat.mul_right_comm _ _ _, Nat.mul_le_mul_right_iff (pp_pos K)]
theorem floor_le {p q a b r y : Nat} (h1 : r * r * (q * (2 ^ b * 2 ^ b)) ≤ p * (2 ^ a * 2 ^ a)) (h2 : p * (2 ^ a * 2 ^ a) < (r + 1) * (r + 1) * (q * (2 ^ b * 2 ^ b))) : y * y * (q * (2 ^ b * 2 ^ b)) ≤ p * (2 ^ a * 2 ^ a) ↔ y ≤ r := by
  constructor
  · intro h
    have := sq_lt.1 (Nat.lt_of_mul_lt_mul_right (Nat.lt_of_le_of_lt h h2))
    omega
  · intro h
    exact Nat.le_trans (Nat.mul_le_mul_right _ (sq_le.2 h)) h1

set_option maxHeartbeats 800000 in
theorem root_near0 {p q a b r K f : Nat} {e : Int} (hK0 : K = 1074) (hf : f = 53) (hq : 0 < q) (h1 : r * r * (q * (2 ^ b * 2 ^ b)) ≤ p * (2 ^ a * 2 ^ a)) (h2 : p * (2 ^ a * 2 ^ a) < (r + 1) * (r + 1) * (q * (2 ^ b * 2 ^ b))) (hr : 2 ^ f ≤ r) (he : e = (b : Int) - (a : Int) - 1) :
    IsRoot (p * (2 ^ K * 2 ^ K)) q (nearN (2 * r + (decide (r * r * (q * (2 ^ b * 2 ^ b)) < p * (2 ^ a * 2 ^ a))).toNat) e) := by
  obtain ⟨t, ht⟩ := runit_exist (p * (2 ^ K * 2 ^ K)) hq
  have hqb : 0 < q * (2 ^ b * 2 ^ b) := Nat.mul_pos hq (pp_pos b)
  have hc0 : f + b + K < t + 53 + a := by
    apply sq_pow_lt
    have g1 : p * (2 ^ K * 2 ^ K) * (2 ^ a * 2 ^ a) < q * (2 ^ (t + 53) * 2 ^ (t + 53)) * (2 ^ a * 2 ^ a) := Nat.mul_lt_mul_of_pos_right ht.hi (pp_pos a)
    have g2 : 2 ^ f * 2 ^ f * (q * (2 ^ b * 2 ^ b)) ≤ p * (2 ^ a * 2 ^ a) := (floor_le h1 h2).2 hr
    have g3 := Nat.mul_le_mul_right (2 ^ K * 2 ^ K) g2
    have g4 : q * (2 ^ (f + b + K) * 2 ^ (f + b + K)) < q * (2 ^ (t + 53 + a) * 2 ^ (t + 53 + a)) := by
      calc q * (2 ^ (f + b + K) * 2 ^ (f + b + K)) = 2 ^ f * 2 ^ f * (q * (2 ^ b * 2 ^ b)) * (2 ^ K * 2 ^ K) := by rw [Nat.pow_add, Nat.pow_add]; ac_rfl
        _ ≤ p * (2 ^ a * 2 ^ a) * (2 ^ K * 2 ^ K) := g3
        _ = p * (2 ^ K * 2 ^ K) * (2 ^ a * 2 ^ a) := Nat.mul_right_comm _ _ _
        _ < q * (2 ^ (t + 53) * 2 ^ (t + 53)) * (2 ^ a * 2 ^ a) := g1
        _ = q * (2 ^ (t + 53 + a) * 2 ^ (t + 53 + a)) := by rw [Nat.pow_add 2 (t + 53)]; generalize 2 ^ (t + 53) = T; ac_rfl
    exact Nat.lt_of_mul_lt_mul_left g4
  obtain ⟨d, hd⟩ : ∃ d, t + a = b + K + (d + 1) := ⟨t + a - (b + K) - 1, by omega⟩
  have hle : ∀ k, q * (k * 2 ^ t * (k * 2 ^ t)) ≤ p * (2 ^ K * 2 ^ K) ↔ k * 2 ^ (d + 1) ≤ r := fun k => (root_le hd).trans (floor_le h1 h2)
  obtain ⟨h, hh⟩ : ∃ h, 2 ^ d = h := ⟨_, rfl⟩
  have hh2 : 2 ^ (d + 1) = 2 * h := by rw [Nat.pow_succ, hh]; omega
  have hh4 : 2 ^ (d + 1 + 1) = 4 * h := by rw [Nat.pow_succ, hh2]; omega
  have hpos : 0 < h := by rw [← hh]; exact Nat.two_pow_pos d
  obtain ⟨m, g, hm, hg⟩ : ∃ m g, r = m * (2 * h) + g ∧ g < 2 * h := ⟨r / (2 * h), r % (2 * h), by rw [Nat.mul_comm]; exact (Nat.div_add_mod _ _).symm, Nat.mod_lt _ (by omega)⟩
  rw [hh2] at hle
  -- the question about half a unit
  have hhalf : ∀ k, q * (k * 2 ^ t * (k * 2 ^ t)) ≤ 4 * (p * (2 ^ K * 2 ^ K)) ↔ k * h ≤ r := fun k => by
    have e4 : 4 * (p * (2 ^ K * 2 ^ K)) = 4 * p * (2 ^ K * 2 ^ K) := (Nat.mul_assoc _ _ _).symm
    rw [e4, root_le hd, hh2, ← floor_le h1 h2]
    have e5 : k * (2 * h) * (k * (2 * h)) * (q * (2 ^ b * 2 ^ b)) = 4 * (k * h * (k * h) * (q * (2 ^ b * 2 ^ b))) := by
      rw [show k * (2 * h) = 2 * (k * h) from by ac_rfl]
      generalize k * h = y
      rw [show 2 * y * (2 * y) = 4 * (y * y) from by rw [show (4 : Nat) = 2 * 2 from rfl]; ac_rfl, Nat.mul_assoc 4]
    rw [e5, Nat.mul_assoc 4 p]
    omega
  have hhalfe : ∀ k, q * (k * 2 ^ t * (k * 2 ^ t)) = 4 * (p * (2 ^ K * 2 ^ K)) ↔ k * h * (k * h) * (q * (2 ^ b * 2 ^ b)) = p * (2 ^ a * 2 ^ a) := fun k => by
    have e4 : 4 * (p * (2 ^ K * 2 ^ K)) * (2 ^ a * 2 ^ a) = 4 * (p * (2 ^ a * 2 ^ a)) * (2 ^ K * 2 ^ K) := by ac_rfl
    have e6 := root_scale (q := q) (k := k) hd
    rw [hh2] at e6
    have e5 : k * (2 * h) * (k * (2 * h)) * (q * (2 ^ b * 2 ^ b)) = 4 * (k * h * (k * h) * (q * (2 ^ b * 2 ^ b))) := by
      rw [show k * (2 * h) = 2 * (k * h) from by ac_rfl]
      generalize k * h = y
      rw [show 2 * y * (2 * y) = 4 * (y * y) from by rw [show (4 : Nat) = 2 * 2 from rfl]; ac_rfl, Nat.mul_assoc 4]
    rw [e5] at e6
    constructor
    · intro hx
      rw [hx, e4] at e6
      have := Nat.eq_of_mul_eq_mul_right (pp_pos K) e6
      omega
    · intro hx
      rw [hx, ← e4] at e6
      exact Nat.eq_of_mul_eq_mul_right (pp_pos a) e6
  obtain ⟨s, hs⟩ : ∃ s, (decide (r * r * (q * (2 ^ b * 2 ^ b)) < p * (2 ^ a * 2 ^ a))).toNat = s := ⟨_, rfl⟩
  have hs1 : s = 0 ∧ r * r * (q * (2 ^ b * 2 ^ b)) = p * (2 ^ a * 2 ^ a) ∨ s = 1 ∧ r * r * (q * (2 ^ b * 2 ^ b)) ≠ p * (2 ^ a * 2 ^ a) := by
    by_cases h0 : r * r * (q * (2 ^ b * 2 ^ b)) < p * (2 ^ a * 2 ^ a)
    · right; rw [← hs, decide_eq_true h0]; exact ⟨rfl, by omega⟩
    · left; rw [← hs, decide_eq_false h0]; exact ⟨rfl, by omega⟩
  rw [hs]
  have hK : (K : Int) = 1074 := by omega
  obtain ⟨A, B, hAB⟩ : ∃ A B : Nat, e + 1074 = (A : Int) - (B : Int) := ⟨(e + 1074).toNat, (-(e + 1074)).toNat, by omega⟩
  have hBt : B + t = A + (d + 1 + 1) := by omega
  have hr53 : r < 2 ^ f * (2 * h) := by
    rcases Nat.lt_or_ge r (2 ^ f * (2 * h)) with g1 | g1
    · exact g1
    · have g2 := (hle (2 ^ f)).2 g1
      have g3 := ht.hi
      rw [← hf, Nat.add_comm t, Nat.pow_add] at g3
      omega
  have hr52 : t = 0 ∨ 2 ^ 52 * (2 * h) ≤ r := by
    rcases ht.lo with g1 | g1
    · exact .inl g1
    · right
      rw [Nat.add_comm t, Nat.pow_add] at g1
      exact (hle (2 ^ 52)).1 g1
  have hX0 : 0 < 2 * r + s := by have := Nat.two_pow_pos f; omega
  have hu : Unit ((2 * r + s) * 2 ^ A) (2 ^ B) t := by
    refine ⟨Nat.two_pow_pos B, ?_, ?_⟩
    · rw [← Nat.pow_add, show B + (t + 53) = f + (d + 1 + 1) + A from by omega, Nat.pow_add, Nat.pow_add 2 f, hh4]
      refine Nat.mul_lt_mul_of_pos_right ?_ (Nat.two_pow_pos A)
      have e5 : 2 ^ f * (4 * h) = 2 * (2 ^ f * (2 * h)) := by rw [show 4 * h = 2 * (2 * h) from by omega]; ac_rfl
      omega
    · rcases hr52 with g1 | g1
      · exact .inl g1
      · right
        rw [← Nat.pow_add, show B + (t + 52) = 52 + (d + 1 + 1) + A from by omega, Nat.pow_add, Nat.pow_add 2 52, hh4]
        refine Nat.mul_le_mul_right _ ?_
        have e5 : 2 ^ 52 * (4 * h) = 2 * (2 ^ 52 * (2 * h)) := by rw [show 4 * h = 2 * (2 * h) from by omega, Nat.mul_left_comm]
        omega
  have hmr : m * (2 * h) ≤ r := by omega
  have hmr1 : ¬ (m + 1) * (2 * h) ≤ r := by rw [Nat.add_mul]; omega
  refine ⟨t, m, ht, (hle m).2 hmr, by have := hle (m + 1); omega, ?_⟩
  rw [(near_is hX0 hAB).one ⟨t, hu, rfl⟩]
  have e1 : rne ((2 * r + s) * 2 ^ A) (2 ^ B * 2 ^ t) = rne (2 * r + s) (4 * h) := by
    rw [← Nat.pow_add, hBt, Nat.pow_add, Nat.mul_comm (2 ^ A), rne_scale (Nat.two_pow_pos A), hh4]
  rw [e1]
  have e2 : rne (2 * r + s) (4 * h) = m + (upR (p * (2 ^ K * 2 ^ K)) q t m).toNat := by
    have hX2 : 2 * r + s = 4 * h * m + (2 * g + s) := by
      rw [hm]
      have : 4 * h * m = 2 * (m * (2 * h)) := by rw [show 4 * h = 2 * (2 * h) from by omega]; ac_rfl
      omega
    have hlow2 : 2 * g + s < 4 * h := by omega
    have q2 : (2 * r + s) / (4 * h) = m := by rw [hX2, Nat.mul_add_div (by omega), Nat.div_eq_of_lt hlow2, Nat.add_zero]
    have r2 : (2 * r + s) % (4 * h) = 2 * g + s := by rw [hX2, Nat.mul_add_mod, Nat.mod_eq_of_lt hlow2]
    unfold rne upR
    rw [q2, r2]
    have k1 := hhalf (2 * m + 1)
    have k2 := hhalfe (2 * m + 1)
    have e6 : (2 * m + 1) * h = m * (2 * h) + h := by rw [Nat.add_mul, Nat.one_mul]; congr 1; ac_rfl
    have k3 : (2 * m + 1) * h * ((2 * m + 1) * h) * (q * (2 ^ b * 2 ^ b)) = p * (2 ^ a * 2 ^ a) ↔ (g = h ∧ s = 0) := by
      constructor
      · intro hx
        have hy : (2 * m + 1) * h = r := by
          have z1 := (floor_le h1 h2 (y := (2 * m + 1) * h)).1 (Nat.le_of_eq hx)
          rcases Nat.lt_or_ge ((2 * m + 1) * h) r with z2 | z2
          · have z3 := sq_lt.2 z2
            have z4 := Nat.mul_lt_mul_of_pos_right z3 hqb
            omega
          · omega
        rw [hy] at hx
        refine ⟨by omega, ?_⟩
        rcases hs1 with ⟨z, -⟩ | ⟨-, z⟩
        · exact z
        · exact absurd hx z
      · rintro ⟨z1, z2⟩
        have hy : (2 * m + 1) * h = r := by omega
        rw [hy]
        rcases hs1 with ⟨-, z⟩ | ⟨z, -⟩
        · exact z
        · omega
    rw [k3] at k2
    generalize q * ((2 * m + 1) * 2 ^ t * ((2 * m + 1) * 2 ^ t)) = U at *
    generalize p * (2 ^ K * 2 ^ K) = W at *
    have c1 : decide (4 * h < 2 * (2 * g + s)) = decide (U < 4 * W) := by
      rw [decide_eq_decide]
      have : s ≤ 1 := by omega
      constructor
      · intro z
        have z1 : U ≤ 4 * W := k1.2 (by omega)
        have z2 : ¬ U = 4 * W := fun z3 => by have := k2.1 z3; omega
        omega
      · intro z
        have z1 := k1.1 (by omega)
        have z2 : ¬ (g = h ∧ s = 0) := fun z3 => by have := k2.2 z3; omega
        omega
    have c2 : decide (4 * h = 2 * (2 * g + s)) = decide (U = 4 * W) := by
      rw [decide_eq_decide, k2]
      have : s ≤ 1 := by omega
      omega
    rw [c1, c2]
  rw [e2]
theorem root_near {p q a b r : Nat} {e : Int} (hq : 0 < q) (h1 : r * r * (q * (2 ^ b * 2 ^ b)) ≤ p * (2 ^ a * 2 ^ a)) (h2 : p * (2 ^ a * 2 ^ a) < (r + 1) * (r + 1) * (q * (2 ^ b * 2 ^ b))) (hr : 9007199254740992 ≤ r) (he : e = (b : Int) - (a : Int) - 1) :
    IsRoot (p * (2 ^ K1074 * 2 ^ K1074)) q (nearN (2 * r + (decide (r * r * (q * (2 ^ b * 2 ^ b)) < p * (2 ^ a * 2 ^ a))).toNat) e) := root_near0 rfl rfl hq h1 h2 hr he
end Go.Proofs.Ytfanjmgbkmdmfaa
