/- The nearest number to a quotient of two whole numbers: there is one, and only one. No conditions. -/
import Derived.Test.YtehmompbmnejkaaGreatMFloB
import Derived.Test.YtehmompbmnejkaaGreatBlk
namespace Go.Proofs.YtehmompbmnejkaaGreat
open Go.RowKit Ieee

/-- z is the word of the nearest number to N by D units of 2^-1074 -/
def IsNear (N D z : Nat) : Prop := ∃ t, Unit N D t ∧ z = min (t * B52 + rne N (D * 2 ^ t)) INF

theorem Unit.above {N D t u : Nat} (h : Unit N D t) (k : Unit N D u) : u ≤ t := by
 rcases k.lo with h0 | h0
 ·omega
 ·have h1 := Nat.lt_of_le_of_lt h0 h.hi
  have := two_pow_lt (Nat.lt_of_mul_lt_mul_left h1)
  omega
theorem Unit.one {N D t u : Nat} (h : Unit N D t) (k : Unit N D u) : t = u := Nat.le_antisymm (k.above h) (h.above k)
theorem IsNear.one {N D z y : Nat} (h : IsNear N D z) (k : IsNear N D y) : z = y := by
 obtain ⟨t, ht, rfl⟩ := h
 obtain ⟨u, hu, rfl⟩ := k
 rw [ht.one hu]
theorem unit_upto {N D : Nat} (hD : 0 < D) (k : Nat) : N < D * 2 ^ (k + 53) → ∃ t, Unit N D t := by
 induction k with
 | zero => exact fun h => ⟨0, hD, h, .inl rfl⟩
 | succ k ih =>
  intro h
  rcases Nat.lt_or_ge N (D * 2 ^ (k + 53)) with h1 | h1
  ·exact ih h1
  ·exact ⟨k + 1, hD, h, .inr (by rw [show k + 1 + 52 = k + 53 from by omega]; exact h1)⟩
theorem unit_exist (N : Nat) {D : Nat} (hD : 0 < D) : ∃ t, Unit N D t := by
 refine unit_upto hD N ?_
 have h1 : N < 2 ^ N := Nat.lt_two_pow_self
 have h2 : 2 ^ N ≤ 2 ^ (N + 53) := Nat.pow_le_pow_right (by decide) (by omega)
 exact Nat.lt_of_lt_of_le (Nat.lt_of_lt_of_le h1 h2) (Nat.le_mul_of_pos_left _ hD)
theorem rne_ge {n d m : Nat} (hd : 0 < d) (h : m * d ≤ n) : m ≤ rne n d := by
 unfold rne
 have := (Nat.le_div_iff_mul_le hd).2 h
 omega
theorem Unit.rne_le {N D t : Nat} (h : Unit N D t) : rne N (D * 2 ^ t) ≤ 2 * B52 := by
 refine Go.Proofs.YtehmompbmnejkaaGreat.rne_le (Nat.mul_pos h.hD (Nat.two_pow_pos t)) ?_
 have h1 := h.hi
 rw [Nat.add_comm t, Nat.pow_add 2 53] at h1
 have e : 2 * B52 * (D * 2 ^ t) = D * (2 ^ 53 * 2 ^ t) := by
  show 2 ^ 53 * (D * 2 ^ t) = _
  ac_rfl
 rw [e]
 exact Nat.le_of_lt h1
theorem Unit.rne_ge {N D t : Nat} (h : Unit N D t) (ht : t ≠ 0) : B52 ≤ rne N (D * 2 ^ t) := by
 refine Go.Proofs.YtehmompbmnejkaaGreat.rne_ge (Nat.mul_pos h.hD (Nat.two_pow_pos t)) ?_
 have h1 : D * 2 ^ (t + 52) ≤ N := by
  rcases h.lo with h0 | h0
  ·exact absurd h0 ht
  ·exact h0
 rw [Nat.add_comm t, Nat.pow_add 2 52] at h1
 have e : B52 * (D * 2 ^ t) = D * (2 ^ 52 * 2 ^ t) := by
  show 2 ^ 52 * (D * 2 ^ t) = _
  ac_rfl
 rw [e]
 exact h1
theorem near_is {X A B : Nat} {e : Int} (h0 : 0 < X) (hp : e + 1074 = (A : Int) - (B : Int)) : IsNear (X * 2 ^ A) (2 ^ B) (nearN X e) := by
 obtain ⟨t, ht⟩ := unit_exist (X * 2 ^ A) (Nat.two_pow_pos B)
 refine ⟨t, ht, ?_⟩
 unfold nearN
 rw [nearest_of (a := A) (b := B) false ht h0 hp rfl]
 exact word_pos _
theorem Unit.scale {N D t k : Nat} (h : Unit N D t) (hk : 0 < k) : Unit (N * k) (D * k) t := by
 obtain ⟨h1, h2, h3⟩ := h
 refine ⟨Nat.mul_pos h1 hk, ?_, ?_⟩
 ·rw [Nat.mul_right_comm]; exact Nat.mul_lt_mul_of_pos_right h2 hk
 ·rcases h3 with h3 | h3
  ·exact .inl h3
  ·right; rw [Nat.mul_right_comm]; exact Nat.mul_le_mul_right _ h3
theorem IsNear.scale {N D z k : Nat} (h : IsNear N D z) (hk : 0 < k) : IsNear (N * k) (D * k) z := by
 obtain ⟨t, ht, hz⟩ := h
 refine ⟨t, ht.scale hk, ?_⟩
 rw [hz, Nat.mul_right_comm, rne_scale hk]
theorem IsNear.le {N D z : Nat} (h : IsNear N D z) : z ≤ INF := by
 obtain ⟨t, -, rfl⟩ := h
 exact Nat.min_le_right _ _

theorem cmpZ_nul {x y : Int} : cmpZ x y = 0 ↔ x = y := by
 unfold cmpZ
 split
 ·omega
 ·split <;> omega
end Go.Proofs.YtehmompbmnejkaaGreat
/- Rounding a quotient by so many bits and one more that tells whether something is left. No conditions. -/
namespace Go.Proofs.YtehmompbmnejkaaGreat
open Go.RowKit Ieee

/-- what is left tells but one bit more -/
def stickyN (Q R : Nat) : Nat := 2 * Q + (decide (0 < R)).toNat
theorem sticky_rne {V D c Q R : Nat} (hD : 0 < D) (hV : V = Q * D + R) (hR : R < D) (hc : 1 ≤ c) : rne V (D * 2 ^ c) = rne (stickyN Q R) (2 ^ (c + 1)) := by
 obtain ⟨m, f, hm, hf⟩ : ∃ m f, Q = m * 2 ^ c + f ∧ f < 2 ^ c := ⟨Q / 2 ^ c, Q % 2 ^ c, by rw [Nat.mul_comm]; exact (Nat.div_add_mod _ _).symm, Nat.mod_lt _ (Nat.two_pow_pos c)⟩
 obtain ⟨h, hh⟩ : ∃ h, 2 ^ c = 2 * h := ⟨2 ^ (c - 1), by rw [show c = c - 1 + 1 from by omega, Nat.pow_succ]; simp; omega⟩
 have hpc : 2 ^ (c + 1) = 4 * h := by rw [Nat.pow_succ, hh]; omega
 have hpos : 0 < 2 ^ c := Nat.two_pow_pos c
 rw [hh] at hm hf hpos
 rw [hpc, hh]
 have hlow : f * D + R < D * (2 * h) := by
  have h1 : (f + 1) * D ≤ 2 * h * D := Nat.mul_le_mul_right _ (by omega)
  rw [Nat.add_mul, Nat.one_mul] at h1
  rw [Nat.mul_comm D]
  omega
 have hV2 : V = m * (D * (2 * h)) + (f * D + R) := by
  rw [hV, hm, Nat.add_mul]
  have : m * (2 * h) * D = m * (D * (2 * h)) := by ac_rfl
  omega
 obtain ⟨s, hs⟩ : ∃ s, (decide (0 < R)).toNat = s := ⟨_, rfl⟩
 have hs1 : s = 0 ∧ R = 0 ∨ s = 1 ∧ 0 < R := by
  rcases Nat.eq_zero_or_pos R with h0 | h0
  ·left; rw [← hs, h0]; exact ⟨rfl, rfl⟩
  ·right; rw [← hs, decide_eq_true h0]; exact ⟨rfl, h0⟩
 have hX2 : stickyN Q R = m * (4 * h) + (2 * f + s) := by
  unfold stickyN
  rw [hs, hm]
  have : 2 * (m * (2 * h)) = m * (4 * h) := by rw [show 4 * h = 2 * (2 * h) from by omega]; ac_rfl
  omega
 have hDh : 0 < D * (2 * h) := Nat.mul_pos hD hpos
 have q1 : V / (D * (2 * h)) = m := by
  rw [hV2, Nat.mul_comm m, Nat.mul_add_div hDh, Nat.div_eq_of_lt hlow, Nat.add_zero]
 have r1 : V % (D * (2 * h)) = f * D + R := by
  rw [hV2, Nat.mul_comm m, Nat.mul_add_mod, Nat.mod_eq_of_lt hlow]
 have hlow2 : 2 * f + s < 4 * h := by omega
 have q2 : stickyN Q R / (4 * h) = m := by
  rw [hX2, Nat.mul_comm m, Nat.mul_add_div (by omega), Nat.div_eq_of_lt hlow2, Nat.add_zero]
 have r2 : stickyN Q R % (4 * h) = 2 * f + s := by
  rw [hX2, Nat.mul_comm m, Nat.mul_add_mod, Nat.mod_eq_of_lt hlow2]
 unfold rne
 rw [q1, r1, q2, r2]
 have e1 : 2 * (f * D + R) = 2 * f * D + 2 * R := by rw [Nat.mul_add, Nat.mul_assoc]
 have e2 : D * (2 * h) = 2 * h * D := Nat.mul_comm _ _
 have g1 : decide (D * (2 * h) < 2 * (f * D + R)) = decide (4 * h < 2 * (2 * f + s)) := by
  rw [decide_eq_decide, e1, e2]
  rcases Nat.lt_trichotomy f h with h1 | h1 | h1
  ·have h2 : (f + 1) * D ≤ h * D := Nat.mul_le_mul_right _ h1
   rw [Nat.add_mul, Nat.one_mul] at h2
   have h3 : 2 * f * D = 2 * (f * D) := Nat.mul_assoc _ _ _
   have h4 : 2 * h * D = 2 * (h * D) := Nat.mul_assoc _ _ _
   omega
  ·subst h1
   omega
  ·have h2 : (h + 1) * D ≤ f * D := Nat.mul_le_mul_right _ h1
   rw [Nat.add_mul, Nat.one_mul] at h2
   have h3 : 2 * f * D = 2 * (f * D) := Nat.mul_assoc _ _ _
   have h4 : 2 * h * D = 2 * (h * D) := Nat.mul_assoc _ _ _
   omega
 have g2 : decide (D * (2 * h) = 2 * (f * D + R)) = decide (4 * h = 2 * (2 * f + s)) := by
  rw [decide_eq_decide, e1, e2]
  rcases Nat.lt_trichotomy f h with h1 | h1 | h1
  ·have h2 : (f + 1) * D ≤ h * D := Nat.mul_le_mul_right _ h1
   rw [Nat.add_mul, Nat.one_mul] at h2
   have h3 : 2 * f * D = 2 * (f * D) := Nat.mul_assoc _ _ _
   have h4 : 2 * h * D = 2 * (h * D) := Nat.mul_assoc _ _ _
   omega
  ·subst h1
   omega
  ·have h2 : (h + 1) * D ≤ f * D := Nat.mul_le_mul_right _ h1
   rw [Nat.add_mul, Nat.one_mul] at h2
   have h3 : 2 * f * D = 2 * (f * D) := Nat.mul_assoc _ _ _
   have h4 : 2 * h * D = 2 * (h * D) := Nat.mul_assoc _ _ _
   omega
 rw [g1, g2]

/-- the nearest number to a quotient by the quotient's first bits -/
theorem quot_near0 {p q a b Q R K f : Nat} {e : Int} (hK0 : K = 1074) (hf : f = 53) (hq : 0 < q) (h : p * 2 ^ a = Q * (q * 2 ^ b) + R) (hR : R < q * 2 ^ b) (hQ : 2 ^ f ≤ Q) (he : e = (b : Int) - (a : Int) - 1) :
    IsNear (p * 2 ^ K) q (nearN (stickyN Q R) e) := by
  obtain ⟨t, ht⟩ := unit_exist (p * 2 ^ K) hq
  have hqb : 0 < q * 2 ^ b := Nat.mul_pos hq (Nat.two_pow_pos b)
  have hlow : Q * (q * 2 ^ b) ≤ p * 2 ^ a := by omega
  have hup : p * 2 ^ a < (Q + 1) * (q * 2 ^ b) := by rw [Nat.add_mul, Nat.one_mul]; omega
  -- c: the unit's place in the quotient
  have hc0 : b + K + f < t + 53 + a := by
    apply two_pow_lt
    have h1 : p * 2 ^ K * 2 ^ a < q * 2 ^ (t + 53) * 2 ^ a := Nat.mul_lt_mul_of_pos_right ht.hi (Nat.two_pow_pos a)
    have h2 : Q * (q * 2 ^ b) * 2 ^ K ≤ p * 2 ^ a * 2 ^ K := Nat.mul_le_mul_right _ hlow
    have h3 : 2 ^ f * (q * 2 ^ b) * 2 ^ K ≤ Q * (q * 2 ^ b) * 2 ^ K := Nat.mul_le_mul_right _ (Nat.mul_le_mul_right _ hQ)
    have h4 : q * 2 ^ (b + K + f) < q * 2 ^ (t + 53 + a) := by
      calc q * 2 ^ (b + K + f) = 2 ^ f * (q * 2 ^ b) * 2 ^ K := by rw [Nat.pow_add, Nat.pow_add]; ac_rfl
        _ ≤ p * 2 ^ a * 2 ^ K := Nat.le_trans h3 h2
        _ = p * 2 ^ K * 2 ^ a := by ac_rfl
        _ < q * 2 ^ (t + 53) * 2 ^ a := h1
        _ = q * 2 ^ (t + 53 + a) := by rw [Nat.pow_add 2 (t + 53)]; generalize 2 ^ (t + 53) = T; rw [Nat.mul_assoc]
    exact Nat.lt_of_mul_lt_mul_left h4
  obtain ⟨c, hc⟩ : ∃ c, t + a = b + K + c := ⟨t + a - (b + K), by omega⟩
  have hc1 : 1 ≤ c := by omega
  obtain ⟨A, B, hAB⟩ : ∃ A B : Nat, e + 1074 = (A : Int) - (B : Int) := ⟨(e + 1074).toNat, (-(e + 1074)).toNat, by omega⟩
  have hBt : B + t = A + (c + 1) := by omega
  have hX0 : 0 < stickyN Q R := by
    unfold stickyN
    have : 0 < 2 ^ f := Nat.two_pow_pos f
    omega
  have hX1 : 2 * Q ≤ stickyN Q R ∧ stickyN Q R ≤ 2 * Q + 1 := by
    unfold stickyN
    cases decide (0 < R) <;> simp
  -- the unit of the joined number
  have hu : Unit (stickyN Q R * 2 ^ A) (2 ^ B) t := by
    refine ⟨Nat.two_pow_pos B, ?_, ?_⟩
    · have h1 : Q < 2 ^ (c + 53) := by
        have h2 : Q * (q * 2 ^ b) * 2 ^ K < q * 2 ^ (t + 53) * 2 ^ a := by
          calc Q * (q * 2 ^ b) * 2 ^ K ≤ p * 2 ^ a * 2 ^ K := Nat.mul_le_mul_right _ hlow
            _ = p * 2 ^ K * 2 ^ a := by ac_rfl
            _ < _ := Nat.mul_lt_mul_of_pos_right ht.hi (Nat.two_pow_pos a)
        have e1 : Q * (q * 2 ^ b) * 2 ^ K = q * 2 ^ (b + K) * Q := by rw [Nat.pow_add]; ac_rfl
        have e2 : q * 2 ^ (t + 53) * 2 ^ a = q * 2 ^ (b + K) * 2 ^ (c + 53) := by
          rw [Nat.mul_assoc, Nat.mul_assoc, ← Nat.pow_add, ← Nat.pow_add]
          congr 2
          omega
        rw [e1, e2] at h2
        exact Nat.lt_of_mul_lt_mul_left h2
      have h3 : stickyN Q R < 2 ^ (c + 1 + 53) := by
        have e3 : 2 ^ (c + 1 + 53) = 2 * 2 ^ (c + 53) := by rw [show c + 1 + 53 = c + 53 + 1 from by omega, Nat.pow_succ]; omega
        omega
      rw [← Nat.pow_add, show B + (t + 53) = c + 1 + 53 + A from by omega, Nat.pow_add]
      exact Nat.mul_lt_mul_of_pos_right h3 (Nat.two_pow_pos A)
    · rcases ht.lo with h0 | h0
      · exact .inl h0
      · right
        have h1 : 2 ^ (c + 52) ≤ Q := by
          have h2 : q * 2 ^ (t + 52) * 2 ^ a ≤ p * 2 ^ K * 2 ^ a := Nat.mul_le_mul_right _ h0
          have h3 : p * 2 ^ K * 2 ^ a < (Q + 1) * (q * 2 ^ b) * 2 ^ K := by
            rw [show p * 2 ^ K * 2 ^ a = p * 2 ^ a * 2 ^ K from by ac_rfl]
            exact Nat.mul_lt_mul_of_pos_right hup (Nat.two_pow_pos _)
          have e1 : (Q + 1) * (q * 2 ^ b) * 2 ^ K = q * 2 ^ (b + K) * (Q + 1) := by rw [Nat.pow_add]; ac_rfl
          have e2 : q * 2 ^ (t + 52) * 2 ^ a = q * 2 ^ (b + K) * 2 ^ (c + 52) := by
            rw [Nat.mul_assoc, Nat.mul_assoc, ← Nat.pow_add, ← Nat.pow_add]
            congr 2
            omega
          rw [e1] at h3
          rw [e2] at h2
          have h4 := Nat.lt_of_mul_lt_mul_left (Nat.lt_of_le_of_lt h2 h3)
          omega
        have h3 : 2 ^ (c + 1 + 52) ≤ stickyN Q R := by
          have e3 : 2 ^ (c + 1 + 52) = 2 * 2 ^ (c + 52) := by rw [show c + 1 + 52 = c + 52 + 1 from by omega, Nat.pow_succ]; omega
          omega
        rw [← Nat.pow_add, show B + (t + 52) = c + 1 + 52 + A from by omega, Nat.pow_add]
        exact Nat.mul_le_mul_right _ h3
  refine ⟨t, ht, ?_⟩
  have hn := near_is hX0 hAB
  rw [hn.one ⟨t, hu, rfl⟩]
  -- the two roundings
  have e1 : rne (stickyN Q R * 2 ^ A) (2 ^ B * 2 ^ t) = rne (stickyN Q R) (2 ^ (c + 1)) := by
    rw [← Nat.pow_add, hBt, Nat.pow_add, Nat.mul_comm (2 ^ A), rne_scale (Nat.two_pow_pos A)]
  have e2 : rne (p * 2 ^ K) (q * 2 ^ t) = rne (p * 2 ^ a) (q * 2 ^ b * 2 ^ c) := by
    apply rne_ratio (Nat.mul_pos hq (Nat.two_pow_pos t)) (Nat.mul_pos hqb (Nat.two_pow_pos c))
    calc p * 2 ^ K * (q * 2 ^ b * 2 ^ c) = p * q * 2 ^ (b + K + c) := by rw [Nat.pow_add, Nat.pow_add]; ac_rfl
      _ = p * q * 2 ^ (t + a) := by rw [hc]
      _ = p * 2 ^ a * (q * 2 ^ t) := by rw [Nat.pow_add]; ac_rfl
  rw [e1, e2, sticky_rne hqb h hR hc1]
theorem quot_near {p q a b Q R : Nat} {e : Int} (hq : 0 < q) (h : p * 2 ^ a = Q * (q * 2 ^ b) + R) (hR : R < q * 2 ^ b) (hQ : 9007199254740992 ≤ Q) (he : e = (b : Int) - (a : Int) - 1) :
  IsNear (p * 2 ^ K1074) q (nearN (stickyN Q R) e) := quot_near0 rfl rfl hq h hR (by omega) he
end Go.Proofs.YtehmompbmnejkaaGreat
/- The nearest number to the root of a quotient: there is one, and only one; it is rounded by the root's first bits. No conditions. -/
namespace Go.Proofs.YtehmompbmnejkaaGreat
open Go.RowKit Ieee

/-- the last digit's place of the root of N by D (units of 2^-1074, N in their squares) -/
structure RUnit (N D t : Nat) : Prop where
 hD : 0 < D
 hi : N < D * (2 ^ (t + 53) * 2 ^ (t + 53))
 lo : t = 0 ∨ D * (2 ^ (t + 52) * 2 ^ (t + 52)) ≤ N
def upR (N D t m : Nat) : Bool := decide (D * ((2 * m + 1) * 2 ^ t * ((2 * m + 1) * 2 ^ t)) < 4 * N) || (decide (D * ((2 * m + 1) * 2 ^ t * ((2 * m + 1) * 2 ^ t)) = 4 * N) && decide (m % 2 = 1))
def IsRoot (N D z : Nat) : Prop := ∃ t m, RUnit N D t ∧ D * (m * 2 ^ t * (m * 2 ^ t)) ≤ N ∧ N < D * ((m + 1) * 2 ^ t * ((m + 1) * 2 ^ t)) ∧ z = min (t * B52 + (m + (upR N D t m).toNat)) INF

theorem sq_lt {x y : Nat} : x * x < y * y ↔ x < y := Nat.mul_self_lt_mul_self_iff
theorem sq_le {x y : Nat} : x * x ≤ y * y ↔ x ≤ y := Nat.mul_self_le_mul_self_iff
theorem sq_pow_lt {a b : Nat} (h : 2 ^ a * 2 ^ a < 2 ^ b * 2 ^ b) : a < b := two_pow_lt (sq_lt.1 h)
theorem runit_upto {N D : Nat} (hD : 0 < D) (k : Nat) : N < D * (2 ^ (k + 53) * 2 ^ (k + 53)) → ∃ t, RUnit N D t := by
 induction k with
 | zero => exact fun h => ⟨0, hD, h, .inl rfl⟩
 | succ k ih =>
  intro h
  rcases Nat.lt_or_ge N (D * (2 ^ (k + 53) * 2 ^ (k + 53))) with h1 | h1
  ·exact ih h1
  ·exact ⟨k + 1, hD, h, .inr (by rw [show k + 1 + 52 = k + 53 from by omega]; exact h1)⟩
theorem runit_exist (N : Nat) {D : Nat} (hD : 0 < D) : ∃ t, RUnit N D t := by
 refine runit_upto hD N ?_
 have h1 : N < 2 ^ N := Nat.lt_two_pow_self
 have h2 : 2 ^ N ≤ 2 ^ (N + 53) := Nat.pow_le_pow_right (by decide) (by omega)
 have h3 : 2 ^ (N + 53) ≤ 2 ^ (N + 53) * 2 ^ (N + 53) := Nat.le_mul_of_pos_left _ (Nat.two_pow_pos _)
 exact Nat.lt_of_lt_of_le (Nat.lt_of_lt_of_le (Nat.lt_of_lt_of_le h1 h2) h3) (Nat.le_mul_of_pos_left _ hD)

theorem root_scale {q a b c t k K : Nat} (h : t + a = b + K + c) : q * (k * 2 ^ t * (k * 2 ^ t)) * (2 ^ a * 2 ^ a) = k * 2 ^ c * (k * 2 ^ c) * (q * (2 ^ b * 2 ^ b)) * (2 ^ K * 2 ^ K) := by
 have e1 : q * (k * 2 ^ t * (k * 2 ^ t)) * (2 ^ a * 2 ^ a) = q * (k * k) * (2 ^ (t + a) * 2 ^ (t + a)) := by rw [Nat.pow_add]; ac_rfl
 have e2 : k * 2 ^ c * (k * 2 ^ c) * (q * (2 ^ b * 2 ^ b)) * (2 ^ K * 2 ^ K) = q * (k * k) * (2 ^ (b + K + c) * 2 ^ (b + K + c)) := by rw [Nat.pow_add, Nat.pow_add]; ac_rfl
 rw [e1, e2, h]
theorem pp_pos (a : Nat) : 0 < 2 ^ a * 2 ^ a := Nat.mul_pos (Nat.two_pow_pos a) (Nat.two_pow_pos a)
theorem root_le {p q a b c t k K : Nat} (h : t + a = b + K + c) : q * (k * 2 ^ t * (k * 2 ^ t)) ≤ p * (2 ^ K * 2 ^ K) ↔ k * 2 ^ c * (k * 2 ^ c) * (q * (2 ^ b * 2 ^ b)) ≤ p * (2 ^ a * 2 ^ a) := by
 rw [← Nat.mul_le_mul_right_iff (pp_pos a), root_scale h, show p * (2 ^ K * 2 ^ K) * (2 ^ a * 2 ^ a) = p * (2 ^ a * 2 ^ a) * (2 ^ K * 2 ^ K) from Nat.mul_right_comm _ _ _, Nat.mul_le_mul_right_iff (pp_pos K)]
theorem floor_le {p q a b r y : Nat} (h1 : r * r * (q * (2 ^ b * 2 ^ b)) ≤ p * (2 ^ a * 2 ^ a)) (h2 : p * (2 ^ a * 2 ^ a) < (r + 1) * (r + 1) * (q * (2 ^ b * 2 ^ b))) : y * y * (q * (2 ^ b * 2 ^ b)) ≤ p * (2 ^ a * 2 ^ a) ↔ y ≤ r := by
 constructor
 ·intro h
  have := sq_lt.1 (Nat.lt_of_mul_lt_mul_right (Nat.lt_of_le_of_lt h h2))
  omega
 ·intro h
  exact Nat.le_trans (Nat.mul_le_mul_right _ (sq_le.2 h)) h1

set_option maxHeartbeats 800000 in
theorem root_near0 {p q a b r K f : Nat} {e : Int} (hK0 : K = 1074) (hf : f = 53) (hq : 0 < q) (h1 : r * r * (q * (2 ^ b * 2 ^ b)) ≤ p * (2 ^ a * 2 ^ a)) (h2 : p * (2 ^ a * 2 ^ a) < (r + 1) * (r + 1) * (q * (2 ^ b * 2 ^ b))) (hr : 2 ^ f ≤ r) (he : e = (b : Int) - (a : Int) - 1) :
    IsRoot (p * (2 ^ K * 2 ^ K)) q (nearN (2 * r + (decide (r * r * (q * (2 ^ b * 2 ^ b)) < p * (2 ^ a * 2 ^ a))).toNat) e) := by
  obtain ⟨t, ht⟩ := runit_exist (p * (2 ^ K * 2 ^ K)) hq
  have hqb : 0 < q * (2 ^ b * 2 ^ b) := Nat.mul_pos hq (pp_pos b)
  have hc0 : f + b + K < t + 53 + a := by
    apply sq_pow_lt
    have g1 : p * (2 ^ K * 2 ^ K) * (2 ^ a * 2 ^ a) < q * (2 ^ (t + 53) * 2 ^ (t + 53)) * (2 ^ a * 2 ^ a) := Nat.mul_lt_mul_of_pos_right ht.hi (pp_pos a)
    have g2 : 2 ^ f * 2 ^ f * (q * (2 ^ b * 2 ^ b)) ≤ p * (2 ^ a * 2 ^ a) := (floor_le h1 h2).2 hr
    have g3 := Nat.mul_le_mul_right (2 ^ K * 2 ^ K) g2
    have g4 : q * (2 ^ (f + b + K) * 2 ^ (f + b + K)) < q * (2 ^ (t + 53 + a) * 2 ^ (t + 53 + a)) := by
      calc q * (2 ^ (f + b + K) * 2 ^ (f + b + K)) = 2 ^ f * 2 ^ f * (q * (2 ^ b * 2 ^ b)) * (2 ^ K * 2 ^ K) := by rw [Nat.pow_add, Nat.pow_add]; ac_rfl
        _ ≤ p * (2 ^ a * 2 ^ a) * (2 ^ K * 2 ^ K) := g3
        _ = p * (2 ^ K * 2 ^ K) * (2 ^ a * 2 ^ a) := Nat.mul_right_comm _ _ _
        _ < q * (2 ^ (t + 53) * 2 ^ (t + 53)) * (2 ^ a * 2 ^ a) := g1
        _ = q * (2 ^ (t + 53 + a) * 2 ^ (t + 53 + a)) := by rw [Nat.pow_add 2 (t + 53)]; generalize 2 ^ (t + 53) = T; ac_rfl
    exact Nat.lt_of_mul_lt_mul_left g4
  obtain ⟨d, hd⟩ : ∃ d, t + a = b + K + (d + 1) := ⟨t + a - (b + K) - 1, by omega⟩
  have hle : ∀ k, q * (k * 2 ^ t * (k * 2 ^ t)) ≤ p * (2 ^ K * 2 ^ K) ↔ k * 2 ^ (d + 1) ≤ r := fun k => (root_le hd).trans (floor_le h1 h2)
  obtain ⟨h, hh⟩ : ∃ h, 2 ^ d = h := ⟨_, rfl⟩
  have hh2 : 2 ^ (d + 1) = 2 * h := by rw [Nat.pow_succ, hh]; omega
  have hh4 : 2 ^ (d + 1 + 1) = 4 * h := by rw [Nat.pow_succ, hh2]; omega
  have hpos : 0 < h := by rw [← hh]; exact Nat.two_pow_pos d
  obtain ⟨m, g, hm, hg⟩ : ∃ m g, r = m * (2 * h) + g ∧ g < 2 * h := ⟨r / (2 * h), r % (2 * h), by rw [Nat.mul_comm]; exact (Nat.div_add_mod _ _).symm, Nat.mod_lt _ (by omega)⟩
  rw [hh2] at hle
  -- the question about half a unit
  have hhalf : ∀ k, q * (k * 2 ^ t * (k * 2 ^ t)) ≤ 4 * (p * (2 ^ K * 2 ^ K)) ↔ k * h ≤ r := fun k => by
    have e4 : 4 * (p * (2 ^ K * 2 ^ K)) = 4 * p * (2 ^ K * 2 ^ K) := (Nat.mul_assoc _ _ _).symm
    rw [e4, root_le hd, hh2, ← floor_le h1 h2]
    have e5 : k * (2 * h) * (k * (2 * h)) * (q * (2 ^ b * 2 ^ b)) = 4 * (k * h * (k * h) * (q * (2 ^ b * 2 ^ b))) := by
      rw [show k * (2 * h) = 2 * (k * h) from by ac_rfl]
      generalize k * h = y
      rw [show 2 * y * (2 * y) = 4 * (y * y) from by rw [show (4 : Nat) = 2 * 2 from rfl]; ac_rfl, Nat.mul_assoc 4]
    rw [e5, Nat.mul_assoc 4 p]
    omega
  have hhalfe : ∀ k, q * (k * 2 ^ t * (k * 2 ^ t)) = 4 * (p * (2 ^ K * 2 ^ K)) ↔ k * h * (k * h) * (q * (2 ^ b * 2 ^ b)) = p * (2 ^ a * 2 ^ a) := fun k => by
    have e4 : 4 * (p * (2 ^ K * 2 ^ K)) * (2 ^ a * 2 ^ a) = 4 * (p * (2 ^ a * 2 ^ a)) * (2 ^ K * 2 ^ K) := by ac_rfl
    have e6 := root_scale (q := q) (k := k) hd
    rw [hh2] at e6
    have e5 : k * (2 * h) * (k * (2 * h)) * (q * (2 ^ b * 2 ^ b)) = 4 * (k * h * (k * h) * (q * (2 ^ b * 2 ^ b))) := by
      rw [show k * (2 * h) = 2 * (k * h) from by ac_rfl]
      generalize k * h = y
      rw [show 2 * y * (2 * y) = 4 * (y * y) from by rw [show (4 : Nat) = 2 * 2 from rfl]; ac_rfl, Nat.mul_assoc 4]
    rw [e5] at e6
    constructor
    · intro hx
      rw [hx, e4] at e6
      have := Nat.eq_of_mul_eq_mul_right (pp_pos K) e6
      omega
    · intro hx
      rw [hx, ← e4] at e6
      exact Nat.eq_of_mul_eq_mul_right (pp_pos a) e6
  obtain ⟨s, hs⟩ : ∃ s, (decide (r * r * (q * (2 ^ b * 2 ^ b)) < p * (2 ^ a * 2 ^ a))).toNat = s := ⟨_, rfl⟩
  have hs1 : s = 0 ∧ r * r * (q * (2 ^ b * 2 ^ b)) = p * (2 ^ a * 2 ^ a) ∨ s = 1 ∧ r * r * (q * (2 ^ b * 2 ^ b)) ≠ p * (2 ^ a * 2 ^ a) := by
    by_cases h0 : r * r * (q * (2 ^ b * 2 ^ b)) < p * (2 ^ a * 2 ^ a)
    · right; rw [← hs, decide_eq_true h0]; exact ⟨rfl, by omega⟩
    · left; rw [← hs, decide_eq_false h0]; exact ⟨rfl, by omega⟩
  rw [hs]
  have hK : (K : Int) = 1074 := by omega
  obtain ⟨A, B, hAB⟩ : ∃ A B : Nat, e + 1074 = (A : Int) - (B : Int) := ⟨(e + 1074).toNat, (-(e + 1074)).toNat, by omega⟩
  have hBt : B + t = A + (d + 1 + 1) := by omega
  have hr53 : r < 2 ^ f * (2 * h) := by
    rcases Nat.lt_or_ge r (2 ^ f * (2 * h)) with g1 | g1
    · exact g1
    · have g2 := (hle (2 ^ f)).2 g1
      have g3 := ht.hi
      rw [← hf, Nat.add_comm t, Nat.pow_add] at g3
      omega
  have hr52 : t = 0 ∨ 2 ^ 52 * (2 * h) ≤ r := by
    rcases ht.lo with g1 | g1
    · exact .inl g1
    · right
      rw [Nat.add_comm t, Nat.pow_add] at g1
      exact (hle (2 ^ 52)).1 g1
  have hX0 : 0 < 2 * r + s := by have := Nat.two_pow_pos f; omega
  have hu : Unit ((2 * r + s) * 2 ^ A) (2 ^ B) t := by
    refine ⟨Nat.two_pow_pos B, ?_, ?_⟩
    · rw [← Nat.pow_add, show B + (t + 53) = f + (d + 1 + 1) + A from by omega, Nat.pow_add, Nat.pow_add 2 f, hh4]
      refine Nat.mul_lt_mul_of_pos_right ?_ (Nat.two_pow_pos A)
      have e5 : 2 ^ f * (4 * h) = 2 * (2 ^ f * (2 * h)) := by rw [show 4 * h = 2 * (2 * h) from by omega]; ac_rfl
      omega
    · rcases hr52 with g1 | g1
      · exact .inl g1
      · right
        rw [← Nat.pow_add, show B + (t + 52) = 52 + (d + 1 + 1) + A from by omega, Nat.pow_add, Nat.pow_add 2 52, hh4]
        refine Nat.mul_le_mul_right _ ?_
        have e5 : 2 ^ 52 * (4 * h) = 2 * (2 ^ 52 * (2 * h)) := by rw [show 4 * h = 2 * (2 * h) from by omega, Nat.mul_left_comm]
        omega
  have hmr : m * (2 * h) ≤ r := by omega
  have hmr1 : ¬ (m + 1) * (2 * h) ≤ r := by rw [Nat.add_mul]; omega
  refine ⟨t, m, ht, (hle m).2 hmr, by have := hle (m + 1); omega, ?_⟩
  rw [(near_is hX0 hAB).one ⟨t, hu, rfl⟩]
  have e1 : rne ((2 * r + s) * 2 ^ A) (2 ^ B * 2 ^ t) = rne (2 * r + s) (4 * h) := by
    rw [← Nat.pow_add, hBt, Nat.pow_add, Nat.mul_comm (2 ^ A), rne_scale (Nat.two_pow_pos A), hh4]
  rw [e1]
  have e2 : rne (2 * r + s) (4 * h) = m + (upR (p * (2 ^ K * 2 ^ K)) q t m).toNat := by
    have hX2 : 2 * r + s = 4 * h * m + (2 * g + s) := by
      rw [hm]
      have : 4 * h * m = 2 * (m * (2 * h)) := by rw [show 4 * h = 2 * (2 * h) from by omega]; ac_rfl
      omega
    have hlow2 : 2 * g + s < 4 * h := by omega
    have q2 : (2 * r + s) / (4 * h) = m := by rw [hX2, Nat.mul_add_div (by omega), Nat.div_eq_of_lt hlow2, Nat.add_zero]
    have r2 : (2 * r + s) % (4 * h) = 2 * g + s := by rw [hX2, Nat.mul_add_mod, Nat.mod_eq_of_lt hlow2]
    unfold rne upR
    rw [q2, r2]
    have k1 := hhalf (2 * m + 1)
    have k2 := hhalfe (2 * m + 1)
    have e6 : (2 * m + 1) * h = m * (2 * h) + h := by rw [Nat.add_mul, Nat.one_mul]; congr 1; ac_rfl
    have k3 : (2 * m + 1) * h * ((2 * m + 1) * h) * (q * (2 ^ b * 2 ^ b)) = p * (2 ^ a * 2 ^ a) ↔ (g = h ∧ s = 0) := by
      constructor
      · intro hx
        have hy : (2 * m + 1) * h = r := by
          have z1 := (floor_le h1 h2 (y := (2 * m + 1) * h)).1 (Nat.le_of_eq hx)
          rcases Nat.lt_or_ge ((2 * m + 1) * h) r with z2 | z2
          · have z3 := sq_lt.2 z2
            have z4 := Nat.mul_lt_mul_of_pos_right z3 hqb
            omega
          · omega
        rw [hy] at hx
        refine ⟨by omega, ?_⟩
        rcases hs1 with ⟨z, -⟩ | ⟨-, z⟩
        · exact z
        · exact absurd hx z
      · rintro ⟨z1, z2⟩
        have hy : (2 * m + 1) * h = r := by omega
        rw [hy]
        rcases hs1 with ⟨-, z⟩ | ⟨z, -⟩
        · exact z
        · omega
    rw [k3] at k2
    generalize q * ((2 * m + 1) * 2 ^ t * ((2 * m + 1) * 2 ^ t)) = U at *
    generalize p * (2 ^ K * 2 ^ K) = W at *
    have c1 : decide (4 * h < 2 * (2 * g + s)) = decide (U < 4 * W) := by
      rw [decide_eq_decide]
      have : s ≤ 1 := by omega
      constructor
      · intro z
        have z1 : U ≤ 4 * W := k1.2 (by omega)
        have z2 : ¬ U = 4 * W := fun z3 => by have := k2.1 z3; omega
        omega
      · intro z
        have z1 := k1.1 (by omega)
        have z2 : ¬ (g = h ∧ s = 0) := fun z3 => by have := k2.2 z3; omega
        omega
    have c2 : decide (4 * h = 2 * (2 * g + s)) = decide (U = 4 * W) := by
      rw [decide_eq_decide, k2]
      have : s ≤ 1 := by omega
      omega
    rw [c1, c2]
  rw [e2]
theorem root_near {p q a b r : Nat} {e : Int} (hq : 0 < q) (h1 : r * r * (q * (2 ^ b * 2 ^ b)) ≤ p * (2 ^ a * 2 ^ a)) (h2 : p * (2 ^ a * 2 ^ a) < (r + 1) * (r + 1) * (q * (2 ^ b * 2 ^ b))) (hr : 9007199254740992 ≤ r) (he : e = (b : Int) - (a : Int) - 1) :
  IsRoot (p * (2 ^ K1074 * 2 ^ K1074)) q (nearN (2 * r + (decide (r * r * (q * (2 ^ b * 2 ^ b)) < p * (2 ^ a * 2 ^ a))).toNat) e) := root_near0 rfl rfl hq h1 h2 hr he
end Go.Proofs.YtehmompbmnejkaaGreat
/- Contracts of package ratio's scaled and sticky. Conditions: numbers below 2^10000; at most 80000 words. -/
namespace Go.Proofs.YtehmompbmnejkaaGreat
open Go.RowKit Ieee

theorem NatC.row {w : World} {a : Option Addr} {n c : Nat} {z : Int} (h : NatC w a n c z) : ∃ xs, RowK .u32 w a n c xs ∧ Dig 4294967296 xs ∧ V 4294967296 xs = z := by
 obtain ⟨xs, h1, h2, -, h4⟩ := h
 exact ⟨xs, h1, h2, h4⟩
theorem NatC.short {w : World} {a : Option Addr} {n c z K : Nat} (h : NatC w a n c (z : Int)) (hz : z < 2 ^ K) : n ≤ K := by
 apply h.len
 have h1 : 2 ^ K ≤ 4294967296 ^ K := Nat.pow_le_pow_left (by decide) K
 have h2 := Int.ofNat_lt.2 (Nat.lt_of_lt_of_le hz h1)
 rw [Int.natCast_pow] at h2
 exact h2
theorem NatC.tell {w : World} {a : Option Addr} {n c z : Nat} (h : NatC w a n c (z : Int)) : decide (0 < n) = decide (0 < z) := by
 obtain ⟨xs, hr, hd, ht, hv⟩ := h
 have hp := V_pos (B := 4294967296) (by decide) hd ht
 rw [hv] at hp
 rw [decide_eq_decide]
 have hl := hr.1
 constructor
 ·intro h
  have : (0 : Int) < (z : Int) := hp.2 (fun e => by rw [e] at hl; simp at hl; omega)
  omega
 ·intro h
  have h1 := hp.1 (by omega)
  rcases Nat.eq_zero_or_pos n with h0 | h0
  ·exact absurd (List.eq_nil_of_length_eq_zero (by omega)) h1
  ·omega
theorem nshl_yes (a : Option Addr) (n c N : Nat) (xs : List Int) (w : World) (ha : RowK .u32 w a n c xs) (hx : Dig 4294967296 xs) (hn0 : n ≤ 80000) (hN : N ≤ 8192) :
  Calls Tryz.prog 72 #[.slice a n c, .int .i64 N] w (RetNatB w (V 4294967296 xs * 2 ^ N)) := shl_any a n c N (N / 32) (N % 32) xs w ha hx hn0 (by omega) (by omega) hN

def RetScaled (Q R : Nat) (w : World) (e : Ending) (w' : World) : Prop := ∃ a n c, e = .returned (.tuple #[.slice a n c, .bool (decide (0 < R))]) ∧ NatC w' a n c (Q : Int) ∧ Below w.heap.size w w'
theorem cast_shl {z : Int} {X N : Nat} (h : z = (X : Int)) : z * 2 ^ N = ((X * 2 ^ N : Nat) : Int) := by rw [h, shl_cast]
theorem shl_lt {X K N M : Nat} (h : X < 2 ^ K) (hN : N ≤ M) : X * 2 ^ N < 2 ^ (K + M) := by
 rw [Nat.pow_add]
 exact Nat.lt_of_lt_of_le (Nat.mul_lt_mul_of_pos_right h (Nat.two_pow_pos N)) (Nat.mul_le_mul_left _ (Nat.pow_le_pow_right (by decide) hN))

set_option maxHeartbeats 2000000 in
theorem scaled_up (a b : Option Addr) (n c m d K s X Y : Nat) (xs ys : List Int) (w : World) (ha : RowK .u32 w a n c xs) (hb : RowK .u32 w b m d ys) (hx : Dig 4294967296 xs) (hy : Dig 4294967296 ys) (hX : V 4294967296 xs = (X : Int)) (hY : V 4294967296 ys = (Y : Int)) (hn : n ≤ 80000) (hm : m ≤ 80000)
  (hXK : X < 2 ^ K) (hK : K ≤ 10000) (hY0 : 0 < Y) (hs : s ≤ 8192) :
  Calls Tryz.prog 74 #[.slice a n c, .slice b m d, .int .i64 (s : Int)] w (RetScaled (X * 2 ^ s / Y) (X * 2 ^ s % Y) w) := by
 have HS := Lib.hid (nshl_yes a n c s xs w ha hx hn hs)
 rw [cast_shl hX] at HS
 have HL := Lib.hid (shl_lt (M := 8192) hXK hs)
 have HB := Lib.hid hb
 have HY := Lib.hid hy
 have HVY := Lib.hid hY
 have HY0 := Lib.hid hY0
 have hs1 : decide ((0 : Int) ≤ (s : Int)) = true := by simp
 clear ha hb hx hy hX hY hXK hY0
 generalize X * 2 ^ s = U at *
 go_enter Tryz.func74, Tryz.ntmps74
 go_wp2_with fail
 refine HS.out.mono ?_; rintro z w1 ⟨a1, n1, c1, rfl, hN1, hb1, -⟩
 have HB1 := Lib.hid hb1
 have hl1 := hN1.short HL.out
 obtain ⟨us, hu1, hu2, hu3⟩ := hN1.row
 have HD := Lib.hid (ndiv_any a1 b n1 c1 m d us ys w1 hu1 (HB.out.below hb1 (Nat.le_refl _)) hu2 HY.out (by omega) (by omega) (by have := HVY.out; have := HY0.out; omega))
 rw [hu3, HVY.out] at HD
 rw [show (U : Int) / (Y : Int) = ((U / Y : Nat) : Int) from rfl, show (U : Int) % (Y : Int) = ((U % Y : Nat) : Int) from rfl] at HD
 clear hb1 hN1 hl1 hu1 hu2 hu3
 go_wp2_with fail
 refine HD.out.mono ?_; rintro z w2 ⟨a2, n2, c2, a3, n3, c3, rfl, hQ, hR, hb2, -, -⟩
 have HB2 := Lib.hid (HB1.out.trans (hb2.mono HB1.out.size))
 have ht := hR.tell
 have HQ := Lib.hid hQ
 have HT : Hid (decide (0 < n3) = decide (0 < U % Y)) := Lib.hid ht
 clear hb2 hQ hR ht
 go_wp2_with fail
 go_ret2
 exact ⟨a2, n2, c2, by rw [← HT.out]; rfl, HQ.out, HB2.out⟩

set_option maxHeartbeats 2000000 in
theorem scaled_dn (a b : Option Addr) (n c m d K s X Y : Nat) (t : Int) (xs ys : List Int) (w : World) (ha : RowK .u32 w a n c xs) (hb : RowK .u32 w b m d ys) (hx : Dig 4294967296 xs) (hy : Dig 4294967296 ys) (hX : V 4294967296 xs = (X : Int)) (hY : V 4294967296 ys = (Y : Int)) (hn : n ≤ 80000) (hm : m ≤ 80000)
  (hYK : Y < 2 ^ K) (hK : K ≤ 10000) (hY0 : 0 < Y) (hs : s ≤ 8192) (ht : t = -(s : Int)) (hs0 : 0 < s) :
  Calls Tryz.prog 74 #[.slice a n c, .slice b m d, .int .i64 t] w (RetScaled (X / (Y * 2 ^ s)) (X % (Y * 2 ^ s)) w) := by
 have HS := Lib.hid (nshl_yes b m d s ys w hb hy hm hs)
 rw [cast_shl hY] at HS
 have HL := Lib.hid (shl_lt (M := 8192) hYK hs)
 have HA := Lib.hid ha
 have HX := Lib.hid hx
 have HVX := Lib.hid hX
 have HY0 := Lib.hid (Nat.mul_pos hY0 (Nat.two_pow_pos s))
 have hs1 : decide ((0 : Int) ≤ t) = false := by simp; omega
 have hneg : -t = (s : Int) := by omega
 have ht1 : -8192 ≤ t := by omega
 have ht2 : t < 0 := by omega
 clear ha hb hx hy hX hY hYK hY0 ht
 generalize Y * 2 ^ s = U at *
 go_enter Tryz.func74, Tryz.ntmps74
 go_wp2_with fail
 refine HS.out.mono ?_; rintro z w1 ⟨a1, n1, c1, rfl, hN1, hb1, -⟩
 have HB1 := Lib.hid hb1
 have hl1 := hN1.short HL.out
 obtain ⟨us, hu1, hu2, hu3⟩ := hN1.row
 have HD := Lib.hid (ndiv_any a a1 n c n1 c1 xs us w1 (HA.out.below hb1 (Nat.le_refl _)) hu1 HX.out hu2 (by omega) (by omega) (by have := HY0.out; omega))
 rw [hu3, HVX.out] at HD
 rw [show (X : Int) / (U : Int) = ((X / U : Nat) : Int) from rfl, show (X : Int) % (U : Int) = ((X % U : Nat) : Int) from rfl] at HD
 clear hb1 hN1 hl1 hu1 hu2 hu3
 go_wp2_with fail
 refine HD.out.mono ?_; rintro z w2 ⟨a2, n2, c2, a3, n3, c3, rfl, hQ, hR, hb2, -, -⟩
 have HB2 := Lib.hid (HB1.out.trans (hb2.mono HB1.out.size))
 have ht := hR.tell
 have HQ := Lib.hid hQ
 have HT : Hid (decide (0 < n3) = decide (0 < X % U)) := Lib.hid ht
 clear hb2 hQ hR ht
 go_wp2_with fail
 go_ret2
 exact ⟨a2, n2, c2, by rw [← HT.out]; rfl, HQ.out, HB2.out⟩

theorem scaled_any (a b : Option Addr) (n c m d K s t X Y : Nat) (i : Int) (xs ys : List Int) (w : World) (ha : RowK .u32 w a n c xs) (hb : RowK .u32 w b m d ys) (hx : Dig 4294967296 xs) (hy : Dig 4294967296 ys) (hX : V 4294967296 xs = (X : Int)) (hY : V 4294967296 ys = (Y : Int)) (hn : n ≤ 80000) (hm : m ≤ 80000)
  (hXK : X < 2 ^ K) (hYK : Y < 2 ^ K) (hK : K ≤ 10000) (hY0 : 0 < Y) (hs : s ≤ 8192) (ht : t ≤ 8192) (hi : i = (s : Int) - (t : Int)) (hz : s = 0 ∨ t = 0) :
  Calls Tryz.prog 74 #[.slice a n c, .slice b m d, .int .i64 i] w (RetScaled (X * 2 ^ s / (Y * 2 ^ t)) (X * 2 ^ s % (Y * 2 ^ t)) w) := by
 rcases Nat.eq_zero_or_pos t with h | h
 ·subst h
  rw [Nat.pow_zero, Nat.mul_one, show i = (s : Int) from by omega]
  exact scaled_up a b n c m d K s X Y xs ys w ha hb hx hy hX hY hn hm hXK hK hY0 hs
 ·obtain rfl : s = 0 := by omega
  rw [Nat.pow_zero, Nat.mul_one]
  exact scaled_dn a b n c m d K t X Y i xs ys w ha hb hx hy hX hY hn hm hYK hK hY0 ht (by omega) h

set_option maxHeartbeats 2000000 in
theorem sticky_any (a : Option Addr) (n c K Q : Nat) (left : Bool) (w : World) (h : NatC w a n c (Q : Int)) (hQ : Q < 2 ^ K) (hK : K ≤ 20000) :
  Calls Tryz.prog 75 #[.slice a n c, .bool left] w (RetNat w ((2 * Q + left.toNat : Nat) : Int)) := by
 have hl := h.short hQ
 obtain ⟨xs, h1, h2, h3⟩ := h.row
 have HS := Lib.hid (nshl_yes a n c 1 xs w h1 h2 (by omega) (by omega))
 rw [cast_shl h3, Nat.pow_one, Nat.mul_comm] at HS
 have HL : Hid (2 * Q < 2 ^ (K + 1)) := Lib.hid (by rw [Nat.pow_succ]; omega)
 clear h hQ h1 h2 h3
 cases left
 ·go_enter Tryz.func75, Tryz.ntmps75
  go_wp2_with fail
  refine HS.out.mono ?_; rintro z w1 ⟨a1, n1, c1, rfl, hN1, hb1, hf1⟩
  have HB1 := Lib.hid hb1
  have HN1 := Lib.hid hN1
  clear hb1 hN1
  go_wp2_with fail
  go_ret
  exact ⟨a1, n1, c1, rfl, HN1.out, HB1.out, hf1⟩
 ·go_enter Tryz.func75, Tryz.ntmps75
  go_wp2_with fail
  refine HS.out.mono ?_; rintro z w1 ⟨a1, n1, c1, rfl, hN1, hb1, -⟩
  have HB1 := Lib.hid hb1
  have hl1 := hN1.short HL.out
  have HN1 := Lib.hid hN1
  clear hb1 hN1
  go_wp2_with fail
  have a1r : Arr .u32 34 (w1.alloc (.cells #[.int .u32 1] 34)) w1.heap.size [1] := Arr.new [1] rfl rfl
  have hb2 : Below w1.heap.size w1 (w1.alloc (.cells #[.int .u32 1] 34)) := (Below.refl _ _).alloc (Nat.le_refl _) _
  obtain ⟨us, hu1, hu2, hu3⟩ := (HN1.out.below hb2 (Nat.le_refl _)).row
  have HA := Lib.hid (nadd_any a1 _ n1 c1 1 1 us [1] _ hu1 (a1r.full (by simp)) hu2 (by intro d hd; simp at hd; omega) (by omega) (by omega))
  rw [hu3, show V 4294967296 [1] = 1 from by decide] at HA
  have HB2 := Lib.hid (HB1.out.trans (hb2.mono HB1.out.size))
  clear hb2 hu1 hu2 hu3 a1r
  refine HA.out.mono ?_; rintro z w2 ⟨a2, n2, c2, rfl, hN2, hb2, hf2⟩
  have HB3 := Lib.hid (HB2.out.trans (hb2.mono HB2.out.size))
  have HN2 := Lib.hid hN2
  have hsz := HB2.out.size
  clear hb2 hN2
  go_wp2_with fail
  go_ret
  exact ⟨a2, n2, c2, rfl, HN2.out, HB3.out, hf2.mono hsz⟩
end Go.Proofs.YtehmompbmnejkaaGreat
/- Contract of package ratio's Quot. Conditions: numbers below 2^3000; at most 80000 words. -/
namespace Go.Proofs.YtehmompbmnejkaaGreat
open Go.RowKit Ieee

/-- the word with a sign -/
def sgnW (neg : Bool) (y : Nat) : Nat := if neg then S63 + y else y
theorem join_sgn (neg : Bool) (X : Nat) (e : Int) : joinN neg X e = sgnW neg (nearN X e) := rfl
theorem sgnW_lt {neg : Bool} {y : Nat} (h : y ≤ INF) : sgnW neg y < 18446744073709551616 := by
 unfold sgnW S63
 unfold INF at h
 split <;> omega
theorem join_lt0 (neg : Bool) (X : Nat) (e : Int) : joinN neg X e < 18446744073709551616 := sgnW_lt (near_le X e)
def IsQuot (neg : Bool) (p q z : Nat) : Prop := z < 18446744073709551616 ∧ ((p = 0 ∧ q = 0 ∧ INF < z % S63) ∨ (p ≠ 0 ∧ q = 0 ∧ z = sgnW neg INF) ∨ (p = 0 ∧ q ≠ 0 ∧ z = sgnW neg 0) ∨ (p ≠ 0 ∧ q ≠ 0 ∧ ∃ y, IsNear (p * 2 ^ K1074) q y ∧ z = sgnW neg y))
/-- how many bits a quotient has -/
theorem quot_bits {p q n m s t G : Nat} (hp1 : 2 ^ (n - 1) ≤ p) (hp2 : p < 2 ^ n) (hq1 : 2 ^ (m - 1) ≤ q) (hq2 : q < 2 ^ m) (hn : 1 ≤ n) (hm : 1 ≤ m) (hG : (s : Int) - (t : Int) = (G : Int) - ((n : Int) - (m : Int))) (hG1 : 1 ≤ G) :
  2 ^ (G - 1) ≤ p * 2 ^ s / (q * 2 ^ t) ∧ p * 2 ^ s / (q * 2 ^ t) < 2 ^ (G + 1) := by
 have hq0 : 0 < q := Nat.lt_of_lt_of_le (Nat.two_pow_pos _) hq1
 have hd : 0 < q * 2 ^ t := Nat.mul_pos hq0 (Nat.two_pow_pos t)
 constructor
 ·rw [Nat.le_div_iff_mul_le hd]
  have h1 : q * 2 ^ t ≤ 2 ^ m * 2 ^ t := Nat.mul_le_mul_right _ (Nat.le_of_lt hq2)
  have h2 : 2 ^ (n - 1) * 2 ^ s ≤ p * 2 ^ s := Nat.mul_le_mul_right _ hp1
  refine Nat.le_trans (Nat.mul_le_mul_left _ h1) (Nat.le_trans (Nat.le_of_eq ?_) h2)
  rw [← Nat.pow_add, ← Nat.pow_add, ← Nat.pow_add]
  congr 1
  omega
 ·rw [Nat.div_lt_iff_lt_mul hd]
  have h1 : 2 ^ (m - 1) * 2 ^ t ≤ q * 2 ^ t := Nat.mul_le_mul_right _ hq1
  have h2 : p * 2 ^ s < 2 ^ n * 2 ^ s := Nat.mul_lt_mul_of_pos_right hp2 (Nat.two_pow_pos s)
  refine Nat.lt_of_lt_of_le h2 (Nat.le_trans (Nat.le_of_eq ?_) (Nat.mul_le_mul_left _ h1))
  rw [← Nat.pow_add, ← Nat.pow_add, ← Nat.pow_add]
  congr 1
  omega
theorem bits_le {p n K : Nat} (h : 2 ^ (n - 1) ≤ p) (hp : p < 2 ^ K) : n ≤ K := by
 have := two_pow_lt (Nat.lt_of_le_of_lt h hp)
 omega
/-- bits_any, said of a natural number -/
def BitsN (p b : Nat) : Prop := (p = 0 ∧ b = 0) ∨ (1 ≤ b ∧ 2 ^ (b - 1) ≤ p ∧ p < 2 ^ b)
theorem nbits_any (a : Option Addr) (n c p : Nat) (xs : List Int) (w : World) (ha : RowK .u32 w a n c xs) (hx : Dig 4294967296 xs) (hX : V 4294967296 xs = (p : Int)) (hn : n ≤ 80000) :
  Calls Tryz.prog 45 #[.slice a n c] w fun e w' => ∃ b : Nat, e = .returned (.int .i64 b) ∧ w = w' ∧ BitsN p b := by
 refine (bits_any a n c xs w ha hx (by omega)).mono ?_
 rintro e w' ⟨b, he, hw, hb⟩
 refine ⟨b, he, hw, ?_⟩
 rw [hX] at hb
 rcases hb with ⟨h1, h2⟩ | ⟨h1, h2, h3⟩
 ·exact .inl ⟨by omega, h2⟩
 ·exact .inr ⟨h1, pow_of_int' h2, pow_of_int h3⟩
/-- flo's Join of a natural number -/
theorem njoin_any (neg : Bool) (a : Option Addr) (n c X K : Nat) (e : Int) (w : World) (h : NatC w a n c (X : Int)) (hX : X < 2 ^ K) (hK : K ≤ 150) (he1 : -9223372036854775808 ≤ e) (he2 : e ≤ 9223372036854775807) :
  Calls Tryz.prog 73 #[.bool neg, .slice a n c, .int .i64 e] w (RJoin (joinN neg X e) w) := by
 have hl := h.short hX
 obtain ⟨xs, h1, h2, h3⟩ := h.row
 exact fjoin_any neg a n c xs X e w h1 h2 h3 (by omega) he1 he2

def RQuot (neg : Bool) (p q : Nat) (w : World) (e : Ending) (w' : World) : Prop := ∃ z, e = .returned (.float .f64 z) ∧ IsQuot neg p q z ∧ Below w.heap.size w w'

set_option maxRecDepth 100000 in
set_option maxHeartbeats 4000000 in
theorem fquot_any (neg : Bool) (a b : Option Addr) (n c m d p q K : Nat) (xs ys : List Int) (w : World) (ha : RowK .u32 w a n c xs) (hb : RowK .u32 w b m d ys) (hx : Dig 4294967296 xs) (hy : Dig 4294967296 ys) (hX : V 4294967296 xs = (p : Int)) (hY : V 4294967296 ys = (q : Int)) (hn : n ≤ 80000) (hm : m ≤ 80000)
  (hp : p < 2 ^ K) (hq : q < 2 ^ K) (hK : K ≤ 3000) :
  Calls Tryz.prog 42 #[.bool neg, .slice a n c, .slice b m d] w (RQuot neg p q w) := by
 have HN := Lib.hid (nbits_any a n c p xs w ha hx hX hn)
 have HM := Lib.hid (nbits_any b m d q ys w hb hy hY hm)
 have HP := Lib.hid hp
 have HQ := Lib.hid hq
 have HSC := Lib.hid (fun (s t : Nat) (i : Int) (hq0 : 0 < q) (hs : s ≤ 8192) (ht : t ≤ 8192) (hi : i = (s : Int) - (t : Int)) (hz : s = 0 ∨ t = 0) => scaled_any a b n c m d K s t p q i xs ys w ha hb hx hy hX hY hn hm hp hq (by omega) hq0 hs ht hi hz)
 clear ha hb hx hy hX hY hp hq
 go_enter Tryz.func42, Tryz.ntmps42
 go_wp2_with fail
 refine HN.out.mono ?_; rintro z w1 ⟨bn, rfl, rfl, hbn⟩
 have HBN := Lib.hid hbn
 clear hbn
 go_wp2_with fail
 refine HM.out.mono ?_; rintro z w1 ⟨bm, rfl, rfl, hbm⟩
 have hbn := HBN.out
 rcases hbn with ⟨hp0, rfl⟩ | ⟨n1, n2, n3⟩ <;> rcases hbm with ⟨hq0, rfl⟩ | ⟨m1, m2, m3⟩
 ·have HP0 := Lib.hid hp0
  have HQ0 := Lib.hid hq0
  have HNAN := Lib.hid (nan_any w)
  clear hp0 hq0
  go_wp2_with fail
  refine HNAN.out.mono ?_; rintro z w1 ⟨rfl, rfl⟩
  go_wp2_with fail
  go_ret
  exact ⟨_, rfl, ⟨by decide, .inl ⟨HP0.out, HQ0.out, by decide⟩⟩, Below.refl _ _⟩
 ·have hm9 := bits_le m2 HQ.out
  have t1 : decide ((3000 : Int) < (bm : Int)) = false := by simp; omega
  have t2 : ((bm : Int) == 0) = false := by simp; omega
  have HP0 := Lib.hid hp0
  have HQ0 : Hid (q ≠ 0) := Lib.hid (by have := Nat.two_pow_pos (bm - 1); omega)
  have HJ := Lib.hid (fjoin_any neg none 0 0 [] 0 0 w RowK.nil Dig.nil rfl (by omega) (by omega) (by omega))
  clear hp0 m2 m3
  go_wp2_with fail
  refine HJ.out.mono ?_; rintro z w1 ⟨rfl, hb1⟩
  have HB1 := Lib.hid hb1
  clear hb1
  go_wp2_with fail
  go_ret
  refine ⟨_, rfl, ⟨join_lt0 neg 0 0, .inr (.inr (.inl ⟨HP0.out, HQ0.out, ?_⟩))⟩, HB1.out⟩
  rw [join_sgn, near_zero]
 ·have hn9 := bits_le n2 HP.out
  have t1 : decide ((3000 : Int) < (bn : Int)) = false := by simp; omega
  have t2 : ((bn : Int) == 0) = false := by simp; omega
  have HQ0 := Lib.hid hq0
  have HP0 : Hid (p ≠ 0) := Lib.hid (by have := Nat.two_pow_pos (bn - 1); omega)
  clear hq0 n2 n3
  go_wp2_with fail
  have a1r : Arr .u32 34 (w.alloc (.cells #[.int .u32 1] 34)) w.heap.size [1] := Arr.new [1] rfl rfl
  have hb2 : Below w.heap.size w (w.alloc (.cells #[.int .u32 1] 34)) := (Below.refl _ _).alloc (Nat.le_refl _) _
  have HJ := Lib.hid (fjoin_any neg _ 1 1 [1] 1 2000 _ (a1r.full (by simp)) (by intro d hd; simp at hd; omega) (by decide) (by omega) (by omega) (by omega))
  have HB2 := Lib.hid hb2
  clear hb2 a1r
  refine HJ.out.mono ?_; rintro z w1 ⟨rfl, hb1⟩
  have HB1 := Lib.hid (HB2.out.trans (hb1.mono HB2.out.size))
  clear hb1
  go_wp2_with fail
  go_ret
  refine ⟨_, rfl, ⟨join_lt0 neg _ _, .inr (.inl ⟨HP0.out, HQ0.out, ?_⟩)⟩, HB1.out⟩
  rw [join_sgn, near_big (n := 1) (by decide) (by omega) (by omega)]
 ·have hn9 := bits_le n2 HP.out
  have hm9 := bits_le m2 HQ.out
  have t1 : decide ((3000 : Int) < (bn : Int)) = false := by simp; omega
  have t2 : ((bn : Int) == 0) = false := by simp; omega
  have t3 : decide ((3000 : Int) < (bm : Int)) = false := by simp; omega
  have t4 : ((bm : Int) == 0) = false := by simp; omega
  have HP0 : Hid (p ≠ 0) := Lib.hid (by have := Nat.two_pow_pos (bn - 1); omega)
  have hq0 : 0 < q := by have := Nat.two_pow_pos (bm - 1); omega
  have HQ0 := Lib.hid hq0
  obtain ⟨s, t, hi, hz⟩ : ∃ s t : Nat, 70 - ((bn : Int) - (bm : Int)) = (s : Int) - (t : Int) ∧ (s = 0 ∨ t = 0) := ⟨(70 - ((bn : Int) - (bm : Int))).toNat, (-(70 - ((bn : Int) - (bm : Int)))).toNat, by omega, by omega⟩
  have HQB := Lib.hid (quot_bits (s := s) (t := t) (G := 70) n2 n3 m2 m3 n1 m1 (by omega) (by decide))
  have HC := Lib.hid (HSC.out s t (70 - ((bn : Int) - (bm : Int))) hq0 (by omega) (by omega) hi hz)
  have HE := Lib.hid (Nat.div_add_mod (p * 2 ^ s) (q * 2 ^ t))
  have HR := Lib.hid (Nat.mod_lt (p * 2 ^ s) (Nat.mul_pos hq0 (Nat.two_pow_pos t)))
  have HI := Lib.hid hi
  clear n2 n3 m2 m3 hq0 hi hz
  obtain ⟨Q, hQ⟩ : ∃ Q, p * 2 ^ s / (q * 2 ^ t) = Q := ⟨_, rfl⟩
  obtain ⟨R, hR⟩ : ∃ R, p * 2 ^ s % (q * 2 ^ t) = R := ⟨_, rfl⟩
  rw [hQ, hR] at HC HE
  rw [hQ] at HQB
  rw [hR] at HR
  clear hQ hR
  go_wp2_with fail
  refine HC.out.mono ?_; rintro z w1 ⟨a1, l1, c1, rfl, hN1, hb1⟩
  have HB1 := Lib.hid hb1
  have HST := Lib.hid (sticky_any a1 l1 c1 71 Q (decide (0 < R)) w1 hN1 HQB.out.2 (by omega))
  clear hb1 hN1
  generalize hdr : decide (0 < R) = dr at *
  go_wp2_with fail
  refine HST.out.mono ?_; rintro z w2 ⟨a2, l2, c2, rfl, hN2, hb2, -⟩
  have HB2 := Lib.hid (HB1.out.trans (hb2.mono HB1.out.size))
  have hX72 : 2 * Q + dr.toNat < 2 ^ 72 := by
   have h1 := HQB.out.2
   have h2 : dr.toNat ≤ 1 := by cases dr <;> simp
   omega
  have HJ := Lib.hid (fun (e : Int) (h1 : -9223372036854775808 ≤ e) (h2 : e ≤ 9223372036854775807) => njoin_any neg a2 l2 c2 (2 * Q + dr.toNat) 72 e w2 hN2 hX72 (by omega) h1 h2)
  have HDR := Lib.hid hdr
  clear hb2 hN2 hX72 hdr
  go_wp2_with fail
  refine (HJ.out _ (by omega) (by omega)).mono ?_; rintro z w3 ⟨rfl, hb3⟩
  have HB3 := Lib.hid (HB2.out.trans (hb3.mono HB2.out.size))
  clear hb3
  go_wp2_with fail
  go_ret
  refine ⟨_, rfl, ⟨join_lt0 neg _ _, .inr (.inr (.inr ⟨HP0.out, by have := HQ0.out; omega, _, ?_, join_sgn _ _ _⟩))⟩, HB3.out⟩
  have hq := quot_near (p := p) (q := q) (a := s) (b := t) (Q := Q) (R := R) (e := -(70 - ((bn : Int) - (bm : Int))) - 1) HQ0.out (by rw [← HE.out, Nat.mul_comm]) HR.out (by have := HQB.out.1; omega) (by have := HI.out; omega)
  unfold stickyN at hq
  rw [HDR.out] at hq
  exact hq
end Go.Proofs.YtehmompbmnejkaaGreat
/- Contract of package ratio's Root. Conditions: numbers below 2^3000; at most 80000 words. -/
namespace Go.Proofs.YtehmompbmnejkaaGreat
open Go.RowKit Ieee

theorem sgnW_no (y : Nat) : sgnW false y = y := by unfold sgnW; rw [if_neg (by decide)]
def IsRootQ (p q z : Nat) : Prop := z < 18446744073709551616 ∧ ((p = 0 ∧ q = 0 ∧ INF < z % S63) ∨ (p ≠ 0 ∧ q = 0 ∧ z = INF) ∨ (p = 0 ∧ q ≠ 0 ∧ z = 0) ∨ (p ≠ 0 ∧ q ≠ 0 ∧ IsRoot (p * (2 ^ K1074 * 2 ^ K1074)) q z))
theorem pow_dbl (a : Nat) : 2 ^ (2 * a) = 2 ^ a * 2 ^ a := by rw [← Nat.pow_add]; congr 1; omega
/-- the root of the scaled quotient tells the root of the quotient -/
theorem root_fin {p q a b Q R r : Nat} {e : Int} {s : Bool} (hq : 0 < q) (h : p * 2 ^ (2 * a) = Q * (q * 2 ^ (2 * b)) + R) (hR : R < q * 2 ^ (2 * b)) (hr1 : r * r ≤ Q) (hr2 : Q < (r + 1) * (r + 1)) (hr : 9007199254740992 ≤ r) (he : e = (b : Int) - (a : Int) - 1) (hs : s = (decide (0 < R) || decide (r * r ≠ Q))) :
  IsRoot (p * (2 ^ K1074 * 2 ^ K1074)) q (nearN (2 * r + s.toNat) e) := by
 rw [pow_dbl, pow_dbl] at h
 rw [pow_dbl] at hR
 have hqb : 0 < q * (2 ^ b * 2 ^ b) := Nat.mul_pos hq (pp_pos b)
 have h1 : r * r * (q * (2 ^ b * 2 ^ b)) ≤ p * (2 ^ a * 2 ^ a) := by
  have := Nat.mul_le_mul_right (q * (2 ^ b * 2 ^ b)) hr1
  omega
 have h2 : p * (2 ^ a * 2 ^ a) < (r + 1) * (r + 1) * (q * (2 ^ b * 2 ^ b)) := by
  have h3 := Nat.mul_le_mul_right (q * (2 ^ b * 2 ^ b)) (show Q + 1 ≤ (r + 1) * (r + 1) from hr2)
  rw [Nat.add_mul, Nat.one_mul] at h3
  omega
 have h4 := root_near hq h1 h2 hr he
 have h5 : decide (r * r * (q * (2 ^ b * 2 ^ b)) < p * (2 ^ a * 2 ^ a)) = s := by
  rw [hs]
  rcases Nat.lt_or_ge (r * r) Q with h6 | h6
  ·have h7 := Nat.mul_lt_mul_of_pos_right h6 hqb
   rw [decide_eq_true (by omega), decide_eq_true (show r * r ≠ Q by omega), Bool.or_true]
  ·have h8 : r * r = Q := by omega
   rw [h8, show decide (Q ≠ Q) = false from by simp, Bool.or_false, decide_eq_decide]
   omega
 rw [h5] at h4
 exact h4

def RRoot (p q : Nat) (w : World) (e : Ending) (w' : World) : Prop := ∃ z, e = .returned (.float .f64 z) ∧ IsRootQ p q z ∧ Below w.heap.size w w'

set_option maxRecDepth 100000 in
set_option maxHeartbeats 4000000 in
theorem froot_any (a b : Option Addr) (n c m d p q K : Nat) (xs ys : List Int) (w : World) (ha : RowK .u32 w a n c xs) (hb : RowK .u32 w b m d ys) (hx : Dig 4294967296 xs) (hy : Dig 4294967296 ys) (hX : V 4294967296 xs = (p : Int)) (hY : V 4294967296 ys = (q : Int)) (hn : n ≤ 80000) (hm : m ≤ 80000)
  (hp : p < 2 ^ K) (hq : q < 2 ^ K) (hK : K ≤ 3000) :
  Calls Tryz.prog 49 #[.slice a n c, .slice b m d] w (RRoot p q w) := by
 have HN := Lib.hid (nbits_any a n c p xs w ha hx hX hn)
 have HM := Lib.hid (nbits_any b m d q ys w hb hy hY hm)
 have HP := Lib.hid hp
 have HQ := Lib.hid hq
 have HSC := Lib.hid (fun (s t : Nat) (i : Int) (hq0 : 0 < q) (hs : s ≤ 8192) (ht : t ≤ 8192) (hi : i = (s : Int) - (t : Int)) (hz : s = 0 ∨ t = 0) => scaled_any a b n c m d K s t p q i xs ys w ha hb hx hy hX hY hn hm hp hq (by omega) hq0 hs ht hi hz)
 clear ha hb hx hy hX hY hp hq
 go_enter Tryz.func49, Tryz.ntmps49
 go_wp2_with fail
 refine HN.out.mono ?_; rintro z w1 ⟨bn, rfl, rfl, hbn⟩
 have HBN := Lib.hid hbn
 clear hbn
 go_wp2_with fail
 refine HM.out.mono ?_; rintro z w1 ⟨bm, rfl, rfl, hbm⟩
 have hbn := HBN.out
 rcases hbn with ⟨hp0, rfl⟩ | ⟨n1, n2, n3⟩ <;> rcases hbm with ⟨hq0, rfl⟩ | ⟨m1, m2, m3⟩
 ·have HP0 := Lib.hid hp0
  have HQ0 := Lib.hid hq0
  have HNAN := Lib.hid (nan_any w)
  clear hp0 hq0
  go_wp2_with fail
  refine HNAN.out.mono ?_; rintro z w1 ⟨rfl, rfl⟩
  go_wp2_with fail
  go_ret
  exact ⟨_, rfl, ⟨by decide, .inl ⟨HP0.out, HQ0.out, by decide⟩⟩, Below.refl _ _⟩
 ·have hm9 := bits_le m2 HQ.out
  have t1 : decide ((3000 : Int) < (bm : Int)) = false := by simp; omega
  have t2 : ((bm : Int) == 0) = false := by simp; omega
  have HP0 := Lib.hid hp0
  have HQ0 : Hid (q ≠ 0) := Lib.hid (by have := Nat.two_pow_pos (bm - 1); omega)
  clear hp0 m2 m3
  go_wp2_with fail
  go_ret
  exact ⟨_, rfl, ⟨by decide, .inr (.inr (.inl ⟨HP0.out, HQ0.out, rfl⟩))⟩, Below.refl _ _⟩
 ·have hn9 := bits_le n2 HP.out
  have t1 : decide ((3000 : Int) < (bn : Int)) = false := by simp; omega
  have t2 : ((bn : Int) == 0) = false := by simp; omega
  have HQ0 := Lib.hid hq0
  have HP0 : Hid (p ≠ 0) := Lib.hid (by have := Nat.two_pow_pos (bn - 1); omega)
  have hin := Lib.hid (inf_any 1 w)
  rw [if_pos (by decide)] at hin
  clear hq0 n2 n3
  go_wp2_with fail
  refine hin.out.mono ?_; rintro z w1 ⟨rfl, rfl⟩
  go_wp2_with fail
  go_ret
  exact ⟨_, rfl, ⟨by decide, .inr (.inl ⟨HP0.out, HQ0.out, rfl⟩)⟩, Below.refl _ _⟩
 ·have hn9 := bits_le n2 HP.out
  have hm9 := bits_le m2 HQ.out
  have t1 : decide ((3000 : Int) < (bn : Int)) = false := by simp; omega
  have t2 : ((bn : Int) == 0) = false := by simp; omega
  have t3 : decide ((3000 : Int) < (bm : Int)) = false := by simp; omega
  have t4 : ((bm : Int) == 0) = false := by simp; omega
  have HP0 : Hid (p ≠ 0) := Lib.hid (by have := Nat.two_pow_pos (bn - 1); omega)
  have hq0 : 0 < q := by have := Nat.two_pow_pos (bm - 1); omega
  have HQ0 := Lib.hid hq0
  have HN2 := Lib.hid n2
  have HN3 := Lib.hid n3
  have HM2 := Lib.hid m2
  have HM3 := Lib.hid m3
  clear n2 n3 m2 m3 hq0
  go_wp2_with fail
  obtain ⟨u, v, hi, hz⟩ : ∃ u v : Nat, (141 - ((bn : Int) - (bm : Int))) / 2 = (u : Int) - (v : Int) ∧ (u = 0 ∨ v = 0) := ⟨((141 - ((bn : Int) - (bm : Int))) / 2).toNat, (-((141 - ((bn : Int) - (bm : Int))) / 2)).toNat, by omega, by omega⟩
  obtain ⟨G, hG, hG1⟩ : ∃ G : Nat, ((2 * u : Nat) : Int) - ((2 * v : Nat) : Int) = (G : Int) - ((bn : Int) - (bm : Int)) ∧ (G = 140 ∨ G = 141) := ⟨(((2 * u : Nat) : Int) - ((2 * v : Nat) : Int) + ((bn : Int) - (bm : Int))).toNat, by omega, by omega⟩
  have HQB := Lib.hid (quot_bits (s := 2 * u) (t := 2 * v) (G := G) HN2.out HN3.out HM2.out HM3.out n1 m1 hG (by omega))
  have HC := Lib.hid (HSC.out (2 * u) (2 * v) (2 * ((141 - ((bn : Int) - (bm : Int))) / 2)) HQ0.out (by omega) (by omega) (by omega) (by omega))
  have HE := Lib.hid (Nat.div_add_mod (p * 2 ^ (2 * u)) (q * 2 ^ (2 * v)))
  have HR := Lib.hid (Nat.mod_lt (p * 2 ^ (2 * u)) (Nat.mul_pos HQ0.out (Nat.two_pow_pos (2 * v))))
  have HI := Lib.hid hi
  have HG := Lib.hid hG1
  have hh1 : -2000 ≤ (141 - ((bn : Int) - (bm : Int))) / 2 := by omega
  have hh2 : (141 - ((bn : Int) - (bm : Int))) / 2 ≤ 2000 := by omega
  clear hi hz hG hG1
  obtain ⟨Q, hQ⟩ : ∃ Q, p * 2 ^ (2 * u) / (q * 2 ^ (2 * v)) = Q := ⟨_, rfl⟩
  obtain ⟨R, hR⟩ : ∃ R, p * 2 ^ (2 * u) % (q * 2 ^ (2 * v)) = R := ⟨_, rfl⟩
  rw [hQ, hR] at HC HE
  rw [hQ] at HQB
  rw [hR] at HR
  clear hQ hR
  have HQ1 : Hid (2 ^ 139 ≤ Q) := Lib.hid (Nat.le_trans (Nat.pow_le_pow_right (by decide) (by have := HG.out; omega)) HQB.out.1)
  have HQ2 : Hid (Q < 2 ^ 142) := Lib.hid (Nat.lt_of_lt_of_le HQB.out.2 (Nat.pow_le_pow_right (by decide) (by have := HG.out; omega)))
  refine HC.out.mono ?_; rintro z w1 ⟨a1, l1, c1, rfl, hN1, hb1⟩
  have HB1 := Lib.hid hb1
  have hl1 := hN1.short HQ2.out
  obtain ⟨us, hu1, hu2, hu3⟩ := hN1.row
  have HRT := Lib.hid (root_any a1 l1 c1 us w1 hu1 hu2 (by omega))
  rw [hu3] at HRT
  have HN1 := Lib.hid hN1
  clear hb1 hN1 hu1 hu2 hu3
  generalize hdr : decide (0 < R) = dr at *
  have HDR := Lib.hid hdr
  clear hdr
  go_wp2_with fail
  refine HRT.out.mono ?_; rintro z w2 ⟨ri, hr0, hr1, hr2, a2, l2, c2, rfl, hN2, hb2, -⟩
  obtain ⟨r, rfl⟩ : ∃ r : Nat, ri = (r : Int) := ⟨ri.toNat, by omega⟩
  have HR1 : Hid (r * r ≤ Q) := Lib.hid (by rw [← Int.natCast_mul] at hr1; omega)
  have HR2 : Hid (Q < (r + 1) * (r + 1)) := Lib.hid (by
   rw [show (r : Int) + 1 = ((r + 1 : Nat) : Int) from rfl, ← Int.natCast_mul] at hr2
   omega)
  have HR3 : Hid (2 ^ 69 ≤ r) := Lib.hid (by
   have h1 : 2 ^ 69 * 2 ^ 69 ≤ Q := Nat.le_trans (by decide) HQ1.out
   have h2 := sq_lt.1 (Nat.lt_of_le_of_lt h1 HR2.out)
   omega)
  have HR4 : Hid (r < 2 ^ 71) := Lib.hid (by
   have h1 : Q < 2 ^ 71 * 2 ^ 71 := Nat.lt_of_lt_of_le HQ2.out (by decide)
   exact sq_lt.1 (Nat.lt_of_le_of_lt HR1.out h1))
  have HB2 := Lib.hid (HB1.out.trans (hb2.mono HB1.out.size))
  have HN12 := Lib.hid (HN1.out.below hb2 (Nat.le_refl _))
  have HN2 := Lib.hid hN2
  have HST := Lib.hid (fun (s : Bool) (w : World) (h : NatC w a2 l2 c2 (r : Int)) => sticky_any a2 l2 c2 71 r s w h HR4.out (by omega))
  clear hr0 hr1 hr2 hN2 hb2 HC HRT HSC HN1
  cases dr
  ·-- nothing is left: the square is asked
   have hl2 := HN2.out.short HR4.out
   go_wp2_with fail
   obtain ⟨vs, hv1, hv2, hv3⟩ := HN2.out.row
   have HML := Lib.hid (nmul_any a2 a2 l2 c2 l2 c2 vs vs w2 hv1 hv1 hv2 hv2 (by omega) (by omega))
   rw [hv3, ← Int.natCast_mul] at HML
   clear hv1 hv2 hv3
   refine HML.out.mono ?_; rintro z w3 ⟨a3, l3, c3, rfl, hN3, hb3, -⟩
   obtain ⟨ts, ht1, ht2, ht3⟩ := hN3.row
   obtain ⟨us, hu1, hu2, hu3⟩ := (HN12.out.below hb3 (Nat.le_refl _)).row
   have HCM := Lib.hid (ncmp_any a3 a1 l3 c3 l1 c1 ts us w3 ht1 hu1 ht2 hu2)
   rw [ht3, hu3] at HCM
   have HB3 := Lib.hid (HB2.out.trans (hb3.mono HB2.out.size))
   have HN23 := Lib.hid (HN2.out.below hb3 (Nat.le_refl _))
   obtain ⟨cc, hcc⟩ : ∃ cc, cmpZ ((r * r : Nat) : Int) (Q : Int) = cc := ⟨_, rfl⟩
   rw [hcc] at HCM
   have HCC := Lib.hid hcc
   clear hb3 hN3 ht1 ht2 ht3 hu1 hu2 hu3 hcc
   go_wp2_with fail
   refine HCM.out.mono ?_; rintro z w4 ⟨rfl, hb4⟩
   have HB4 := Lib.hid (HB3.out.trans (hb4.mono HB3.out.size))
   have HN24 := Lib.hid (HN23.out.below hb4 (Nat.le_refl _))
   clear hb4
   obtain ⟨s, hs⟩ : ∃ s, (cc != 0) = s := ⟨_, rfl⟩
   have HS : Hid (s = (decide (0 < R) || decide (r * r ≠ Q))) := Lib.hid (by
    rw [HDR.out, Bool.false_or, ← hs, ← HCC.out, bne, Bool.eq_iff_iff]
    simp only [Bool.not_eq_true', beq_eq_false_iff_ne, decide_eq_true_eq, ne_eq, cmpZ_nul]
    omega)
   go_wp2_with fail
   refine (HST.out s w4 HN24.out).mono ?_; rintro z w5 ⟨a5, l5, c5, rfl, hN5, hb5, -⟩
   have HB5 := Lib.hid (HB4.out.trans (hb5.mono HB4.out.size))
   have hX72 : 2 * r + s.toNat < 2 ^ 72 := by
    have h1 := HR4.out
    have h2 : s.toNat ≤ 1 := by cases s <;> simp
    omega
   have HJ := Lib.hid (fun (e : Int) (h1 : -9223372036854775808 ≤ e) (h2 : e ≤ 9223372036854775807) => njoin_any false a5 l5 c5 (2 * r + s.toNat) 72 e w5 hN5 hX72 (by omega) h1 h2)
   clear hb5 hN5 hX72
   go_wp2_with fail
   refine (HJ.out _ (by omega) (by omega)).mono ?_; rintro z w6 ⟨rfl, hb6⟩
   have HB6 := Lib.hid (HB5.out.trans (hb6.mono HB5.out.size))
   clear hb6
   go_wp2_with fail
   go_ret
   refine ⟨_, rfl, ⟨join_lt0 false _ _, .inr (.inr (.inr ⟨HP0.out, by have := HQ0.out; omega, ?_⟩))⟩, HB6.out⟩
   rw [join_sgn, sgnW_no]
   exact root_fin (p := p) (q := q) (a := u) (b := v) (Q := Q) (R := R) (r := r) HQ0.out (by rw [← HE.out, Nat.mul_comm]) HR.out HR1.out HR2.out (by have := HR3.out; omega) (by have := HI.out; omega) HS.out
  ·have HS : Hid (true = (decide (0 < R) || decide (r * r ≠ Q))) := Lib.hid (by rw [HDR.out, Bool.true_or])
   have HB4 := HB2
   go_wp2_with fail
   refine (HST.out true w2 HN2.out).mono ?_; rintro z w5 ⟨a5, l5, c5, rfl, hN5, hb5, -⟩
   have HB5 := Lib.hid (HB4.out.trans (hb5.mono HB4.out.size))
   have hX72 : 2 * r + true.toNat < 2 ^ 72 := by
    have h1 := HR4.out
    have h2 : true.toNat ≤ 1 := by decide
    omega
   have HJ := Lib.hid (fun (e : Int) (h1 : -9223372036854775808 ≤ e) (h2 : e ≤ 9223372036854775807) => njoin_any false a5 l5 c5 (2 * r + true.toNat) 72 e w5 hN5 hX72 (by omega) h1 h2)
   clear hb5 hN5 hX72
   go_wp2_with fail
   refine (HJ.out _ (by omega) (by omega)).mono ?_; rintro z w6 ⟨rfl, hb6⟩
   have HB6 := Lib.hid (HB5.out.trans (hb6.mono HB5.out.size))
   clear hb6
   go_wp2_with fail
   go_ret
   refine ⟨_, rfl, ⟨join_lt0 false _ _, .inr (.inr (.inr ⟨HP0.out, by have := HQ0.out; omega, ?_⟩))⟩, HB6.out⟩
   rw [join_sgn, sgnW_no]
   exact root_fin (p := p) (q := q) (a := u) (b := v) (Q := Q) (R := R) (r := r) HQ0.out (by rw [← HE.out, Nat.mul_comm]) HR.out HR1.out HR2.out (by have := HR3.out; omega) (by have := HI.out; omega) HS.out
end Go.Proofs.YtehmompbmnejkaaGreat
