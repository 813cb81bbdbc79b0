/- The nearest number to a quotient of two whole numbers: there is one, and only one. No conditions. -/
import Derived.Test.YtdbkgpakpadloaaGreatDoorMFloB
import Derived.Test.YtdbkgpakpadloaaGreatDoorBlk
namespace Go.Proofs.YtdbkgpakpadloaaGreatDoor
open Go.RowKit Ieee

/-- z is the word of the nearest number to N by D units of 2^-1074 -/
def IsNear (N D z : Nat) : Prop := ∃ t, Unit N D t ∧ z = min (t * B52 + rne N (D * 2 ^ t)) INF

theorem Unit.above {N D t u : Nat} (h : Unit N D t) (k : Unit N D u) : u ≤ t := by
  rcases k.lo with h0 | h0
  · omega
  · have h1 := Nat.lt_of_le_of_lt h0 h.hi
    have := two_pow_lt (Nat.lt_of_mul_lt_mul_left h1)
    omega
theorem Unit.one {N D t u : Nat} (h : Unit N D t) (k : Unit N D u) : t = u := Nat.le_antisymm (k.above h) (h.above k)
theorem IsNear.one {N D z y : Nat} (h : IsNear N D z) (k : IsNear N D y) : z = y := by
  obtain ⟨t, ht, rfl⟩ := h
  obtain ⟨u, hu, rfl⟩ := k
  rw [ht.one hu]
theorem unit_upto {N D : Nat} (hD : 0 < D) (k : Nat) : N < D * 2 ^ (k + 53) → ∃ t, Unit N D t := by
  induction k with
  | zero => exact fun h => ⟨0, hD, h, .inl rfl⟩
  | succ k ih =>
    intro h
    rcases Nat.lt_or_ge N (D * 2 ^ (k + 53)) with h1 | h1
    · exact ih h1
    · exact ⟨k + 1, hD, h, .inr (by rw [show k + 1 + 52 = k + 53 from by omega]; exact h1)⟩
theorem unit_exist (N : Nat) {D : Nat} (hD : 0 < D) : ∃ t, Unit N D t := by
  refine unit_upto hD N ?_
  have h1 : N < 2 ^ N := Nat.lt_two_pow_self
  have h2 : 2 ^ N ≤ 2 ^ (N + 53) := Nat.pow_le_pow_right (by decide) (by omega)
  exact Nat.lt_of_lt_of_le (Nat.lt_of_lt_of_le h1 h2) (Nat.le_mul_of_pos_left _ hD)
theorem rne_ge {n d m : Nat} (hd : 0 < d) (h : m * d ≤ n) : m ≤ rne n d := by
  unfold rne
  have := (Nat.le_div_iff_mul_le hd).2 h
  omega
theorem Unit.rne_le {N D t : Nat} (h : Unit N D t) : rne N (D * 2 ^ t) ≤ 2 * B52 := by
  refine Go.Proofs.YtdbkgpakpadloaaGreatDoor.rne_le (Nat.mul_pos h.hD (Nat.two_pow_pos t)) ?_
  have h1 := h.hi
  rw [Nat.add_comm t, Nat.pow_add 2 53] at h1
  have e : 2 * B52 * (D * 2 ^ t) = D * (2 ^ 53 * 2 ^ t) := by
    show 2 ^ 53 * (D * 2 ^ t) = _
    ac_rfl
  rw [e]
  exact Nat.le_of_lt h1
theorem Unit.rne_ge {N D t : Nat} (h : Unit N D t) (ht : t ≠ 0) : B52 ≤ rne N (D * 2 ^ t) := by
  refine Go.Proofs.YtdbkgpakpadloaaGreatDoor.rne_ge (Nat.mul_pos h.hD (Nat.two_pow_pos t)) ?_
  have h1 : D * 2 ^ (t + 52) ≤ N := by
    rcases h.lo with h0 | h0
    · exact absurd h0 ht
    · exact h0
  rw [Nat.add_comm t, Nat.pow_add 2 52] at h1
  have e : B52 * (D * 2 ^ t) = D * (2 ^ 52 * 2 ^ t) := by
    show 2 ^ 52 * (D * 2 ^ t) = _
    ac_rfl
  rw [e]
  exact h1
theorem IsNear.inf {N D k : Nat} (hD : 0 < D) (hk : 2098 ≤ k) (h : D * 2 ^ k ≤ N) : IsNear N D INF := by
  obtain ⟨t, ht⟩ := unit_exist N hD
  refine ⟨t, ht, ?_⟩
  have h1 := two_pow_lt (Nat.lt_of_mul_lt_mul_left (Nat.lt_of_le_of_lt h ht.hi))
  have h2 := ht.rne_ge (by omega)
  rw [Nat.min_eq_right]
  unfold INF
  unfold B52 at *
  omega
theorem near_is {X A B : Nat} {e : Int} (h0 : 0 < X) (hp : e + 1074 = (A : Int) - (B : Int)) : IsNear (X * 2 ^ A) (2 ^ B) (nearN X e) := by
  obtain ⟨t, ht⟩ := unit_exist (X * 2 ^ A) (Nat.two_pow_pos B)
  refine ⟨t, ht, ?_⟩
  unfold nearN
  rw [nearest_of (a := A) (b := B) false ht h0 hp rfl]
  exact word_pos _
theorem Unit.scale {N D t k : Nat} (h : Unit N D t) (hk : 0 < k) : Unit (N * k) (D * k) t := by
  obtain ⟨h1, h2, h3⟩ := h
  refine ⟨Nat.mul_pos h1 hk, ?_, ?_⟩
  · rw [Nat.mul_right_comm]; exact Nat.mul_lt_mul_of_pos_right h2 hk
  · rcases h3 with h3 | h3
    · exact .inl h3
    · right; rw [Nat.mul_right_comm]; exact Nat.mul_le_mul_right _ h3
theorem IsNear.scale {N D z k : Nat} (h : IsNear N D z) (hk : 0 < k) : IsNear (N * k) (D * k) z := by
  obtain ⟨t, ht, hz⟩ := h
  refine ⟨t, ht.scale hk, ?_⟩
  rw [hz, Nat.mul_right_comm, rne_scale hk]
theorem IsNear.le {N D z : Nat} (h : IsNear N D z) : z ≤ INF := by
  obtain ⟨t, -, rfl⟩ := h
  exact Nat.min_le_right _ _

/-- the question below(p, q, e, k) in units of 2^-1074 -/
theorem below_hi {P Q A B t g : Nat} {e k : Int} (hA : e + 1074 = (A : Int) - (B : Int)) (hk : k = (t : Int) + 53 - 1074) (hg : k = e + (g : Int)) :
    (P < Q * 2 ^ g) ↔ (P * 2 ^ A < Q * 2 ^ B * 2 ^ (t + 53)) := by
  have e1 : B + (t + 53) = g + A := by omega
  rw [Nat.mul_assoc Q, ← Nat.pow_add, e1, Nat.pow_add, ← Nat.mul_assoc]
  exact (Nat.mul_lt_mul_right (Nat.two_pow_pos A)).symm
theorem below_lo {P Q A B t g : Nat} {e k : Int} (hA : e + 1074 = (A : Int) - (B : Int)) (hk : k = (t : Int) + 53 - 1074) (hg : e = k + (g : Int)) :
    (P * 2 ^ g < Q) ↔ (P * 2 ^ A < Q * 2 ^ B * 2 ^ (t + 53)) := by
  have e1 : A = g + (B + (t + 53)) := by omega
  rw [Nat.mul_assoc Q, ← Nat.pow_add, e1, Nat.pow_add, ← Nat.mul_assoc]
  exact (Nat.mul_lt_mul_right (Nat.two_pow_pos _)).symm
theorem cmpZ_neg {x y : Int} : cmpZ x y < 0 ↔ x < y := by
  unfold cmpZ
  split
  · omega
  · split <;> omega
theorem cmpZ_pos {x y : Int} : 0 < cmpZ x y ↔ y < x := by
  unfold cmpZ
  split
  · omega
  · split <;> omega
theorem cmpZ_nul {x y : Int} : cmpZ x y = 0 ↔ x = y := by
  unfold cmpZ
  split
  · omega
  · split <;> omega
end Go.Proofs.YtdbkgpakpadloaaGreatDoor
/- Rounding a quotient by so many bits and one more that tells whether something is left. No conditions. -/
namespace Go.Proofs.YtdbkgpakpadloaaGreatDoor
open Go.RowKit Ieee

/-- what is left tells but one bit more -/
def stickyN (Q R : Nat) : Nat := 2 * Q + (decide (0 < R)).toNat
theorem sticky_rne {V D c Q R : Nat} (hD : 0 < D) (hV : V = Q * D + R) (hR : R < D) (hc : 1 ≤ c) : rne V (D * 2 ^ c) = rne (stickyN Q R) (2 ^ (c + 1)) := by
  obtain ⟨m, f, hm, hf⟩ : ∃ m f, Q = m * 2 ^ c + f ∧ f < 2 ^ c := ⟨Q / 2 ^ c, Q % 2 ^ c, by rw [Nat.mul_comm]; exact (Nat.div_add_mod _ _).symm, Nat.mod_lt _ (Nat.two_pow_pos c)⟩
  obtain ⟨h, hh⟩ : ∃ h, 2 ^ c = 2 * h := ⟨2 ^ (c - 1), by rw [show c = c - 1 + 1 from by omega, Nat.pow_succ]; simp; omega⟩
  have hpc : 2 ^ (c + 1) = 4 * h := by rw [Nat.pow_succ, hh]; omega
  have hpos : 0 < 2 ^ c := Nat.two_pow_pos c
  rw [hh] at hm hf hpos
  rw [hpc, hh]
  have hlow : f * D + R < D * (2 * h) := by
    have h1 : (f + 1) * D ≤ 2 * h * D := Nat.mul_le_mul_right _ (by omega)
    rw [Nat.add_mul, Nat.one_mul] at h1
    rw [Nat.mul_comm D]
    omega
  have hV2 : V = m * (D * (2 * h)) + (f * D + R) := by
    rw [hV, hm, Nat.add_mul]
    have : m * (2 * h) * D = m * (D * (2 * h)) := by ac_rfl
    omega
  obtain ⟨s, hs⟩ : ∃ s, (decide (0 < R)).toNat = s := ⟨_, rfl⟩
  have hs1 : s = 0 ∧ R = 0 ∨ s = 1 ∧ 0 < R := by
    rcases Nat.eq_zero_or_pos R with h0 | h0
    · left; rw [← hs, h0]; exact ⟨rfl, rfl⟩
    · right; rw [← hs, decide_eq_true h0]; exact ⟨rfl, h0⟩
  have hX2 : stickyN Q R = m * (4 * h) + (2 * f + s) := by
    unfold stickyN
    rw [hs, hm]
    have : 2 * (m * (2 * h)) = m * (4 * h) := by rw [show 4 * h = 2 * (2 * h) from by omega]; ac_rfl
    omega
  have hDh : 0 < D * (2 * h) := Nat.mul_pos hD hpos
  have q1 : V / (D * (2 * h)) = m := by
    rw [hV2, Nat.mul_comm m, Nat.mul_add_div hDh, Nat.div_eq_of_lt hlow, Nat.add_zero]
  have r1 : V % (D * (2 * h)) = f * D + R := by
    rw [hV2, Nat.mul_comm m, Nat.mul_add_mod, Nat.mod_eq_of_lt hlow]
  have hlow2 : 2 * f + s < 4 * h := by omega
  have q2 : stickyN Q R / (4 * h) = m := by
    rw [hX2, Nat.mul_comm m, Nat.mul_add_div (by omega), Nat.div_eq_of_lt hlow2, Nat.add_zero]
  have r2 : stickyN Q R % (4 * h) = 2 * f + s := by
    rw [hX2, Nat.mul_comm m, Nat.mul_add_mod, Nat.mod_eq_of_lt hlow2]
  unfold rne
  rw [q1, r1, q2, r2]
  have e1 : 2 * (f * D + R) = 2 * f * D + 2 * R := by rw [Nat.mul_add, Nat.mul_assoc]
  have e2 : D * (2 * h) = 2 * h * D := Nat.mul_comm _ _
  have g1 : decide (D * (2 * h) < 2 * (f * D + R)) = decide (4 * h < 2 * (2 * f + s)) := by
    rw [decide_eq_decide, e1, e2]
    rcases Nat.lt_trichotomy f h with h1 | h1 | h1
    · have h2 : (f + 1) * D ≤ h * D := Nat.mul_le_mul_right _ h1
      rw [Nat.add_mul, Nat.one_mul] at h2
      have h3 : 2 * f * D = 2 * (f * D) := Nat.mul_assoc _ _ _
      have h4 : 2 * h * D = 2 * (h * D) := Nat.mul_assoc _ _ _
      omega
    · subst h1
      omega
    · have h2 : (h + 1) * D ≤ f * D := Nat.mul_le_mul_right _ h1
      rw [Nat.add_mul, Nat.one_mul] at h2
      have h3 : 2 * f * D = 2 * (f * D) := Nat.mul_assoc _ _ _
      have h4 : 2 * h * D = 2 * (h * D) := Nat.mul_assoc _ _ _
      omega
  have g2 : decide (D * (2 * h) = 2 * (f * D + R)) = decide (4 * h = 2 * (2 * f + s)) := by
    rw [decide_eq_decide, e1, e2]
    rcases Nat.lt_trichotomy f h with h1 | h1 | h1
    · have h2 : (f + 1) * D ≤ h * D := Nat.mul_le_mul_right _ h1
      rw [Nat.add_mul, Nat.one_mul] at h2
      have h3 : 2 * f * D = 2 * (f * D) := Nat.mul_assoc _ _ _
      have h4 : 2 * h * D = 2 * (h * D) := Nat.mul_assoc _ _ _
      omega
    · subst h1
      omega
    · have h2 : (h + 1) * D ≤ f * D := Nat.mul_le_mul_right _ h1
      rw [Nat.add_mul, Nat.one_mul] at h2
      have h3 : 2 * f * D = 2 * (f * D) := Nat.mul_assoc _ _ _
      have h4 : 2 * h * D = 2 * (h * D) := Nat.mul_assoc _ _ _
      omega
  rw [g1, g2]

/-- the nearest number to a quotient by the quotient's first bits -/
theorem quot_near0 {p q a b Q R K f : Nat} {e : Int} (hK0 : K = 1074) (hf : f = 53) (hq : 0 < q) (h : p * 2 ^ a = Q * (q * 2 ^ b) + R) (hR : R < q * 2 ^ b) (hQ : 2 ^ f ≤ Q) (he : e = (b : Int) - (a : Int) - 1) :
    IsNear (p * 2 ^ K) q (nearN (stickyN Q R) e) := by
  obtain ⟨t, ht⟩ := unit_exist (p * 2 ^ K) hq
  have hqb : 0 < q * 2 ^ b := Nat.mul_pos hq (Nat.two_pow_pos b)
  have hlow : Q * (q * 2 ^ b) ≤ p * 2 ^ a := by omega
  have hup : p * 2 ^ a < (Q + 1) * (q * 2 ^ b) := by rw [Nat.add_mul, Nat.one_mul]; omega
  -- c: the unit's place in the quotient
  have hc0 : b + K + f < t + 53 + a := by
    apply two_pow_lt
    have h1 : p * 2 ^ K * 2 ^ a < q * 2 ^ (t + 53) * 2 ^ a := Nat.mul_lt_mul_of_pos_right ht.hi (Nat.two_pow_pos a)
    have h2 : Q * (q * 2 ^ b) * 2 ^ K ≤ p * 2 ^ a * 2 ^ K := Nat.mul_le_mul_right _ hlow
    have h3 : 2 ^ f * (q * 2 ^ b) * 2 ^ K ≤ Q * (q * 2 ^ b) * 2 ^ K := Nat.mul_le_mul_right _ (Nat.mul_le_mul_right _ hQ)
    have h4 : q * 2 ^ (b + K + f) < q * 2 ^ (t + 53 + a) := by
      calc q * 2 ^ (b + K + f) = 2 ^ f * (q * 2 ^ b) * 2 ^ K := by rw [Nat.pow_add, Nat.pow_add]; ac_rfl
        _ ≤ p * 2 ^ a * 2 ^ K := Nat.le_trans h3 h2
        _ = p * 2 ^ K * 2 ^ a := by ac_rfl
        _ < q * 2 ^ (t + 53) * 2 ^ a := h1
        _ = q * 2 ^ (t + 53 + a) := by rw [Nat.pow_add 2 (t + 53)]; generalize 2 ^ (t + 53) = T; rw [Nat.mul_assoc]
    exact Nat.lt_of_mul_lt_mul_left h4
  obtain ⟨c, hc⟩ : ∃ c, t + a = b + K + c := ⟨t + a - (b + K), by omega⟩
  have hc1 : 1 ≤ c := by omega
  obtain ⟨A, B, hAB⟩ : ∃ A B : Nat, e + 1074 = (A : Int) - (B : Int) := ⟨(e + 1074).toNat, (-(e + 1074)).toNat, by omega⟩
  have hBt : B + t = A + (c + 1) := by omega
  have hX0 : 0 < stickyN Q R := by
    unfold stickyN
    have : 0 < 2 ^ f := Nat.two_pow_pos f
    omega
  have hX1 : 2 * Q ≤ stickyN Q R ∧ stickyN Q R ≤ 2 * Q + 1 := by
    unfold stickyN
    cases decide (0 < R) <;> simp
  -- the unit of the joined number
  have hu : Unit (stickyN Q R * 2 ^ A) (2 ^ B) t := by
    refine ⟨Nat.two_pow_pos B, ?_, ?_⟩
    · have h1 : Q < 2 ^ (c + 53) := by
        have h2 : Q * (q * 2 ^ b) * 2 ^ K < q * 2 ^ (t + 53) * 2 ^ a := by
          calc Q * (q * 2 ^ b) * 2 ^ K ≤ p * 2 ^ a * 2 ^ K := Nat.mul_le_mul_right _ hlow
            _ = p * 2 ^ K * 2 ^ a := by ac_rfl
            _ < _ := Nat.mul_lt_mul_of_pos_right ht.hi (Nat.two_pow_pos a)
        have e1 : Q * (q * 2 ^ b) * 2 ^ K = q * 2 ^ (b + K) * Q := by rw [Nat.pow_add]; ac_rfl
        have e2 : q * 2 ^ (t + 53) * 2 ^ a = q * 2 ^ (b + K) * 2 ^ (c + 53) := by
          rw [Nat.mul_assoc, Nat.mul_assoc, ← Nat.pow_add, ← Nat.pow_add]
          congr 2
          omega
        rw [e1, e2] at h2
        exact Nat.lt_of_mul_lt_mul_left h2
      have h3 : stickyN Q R < 2 ^ (c + 1 + 53) := by
        have e3 : 2 ^ (c + 1 + 53) = 2 * 2 ^ (c + 53) := by rw [show c + 1 + 53 = c + 53 + 1 from by omega, Nat.pow_succ]; omega
        omega
      rw [← Nat.pow_add, show B + (t + 53) = c + 1 + 53 + A from by omega, Nat.pow_add]
      exact Nat.mul_lt_mul_of_pos_right h3 (Nat.two_pow_pos A)
    · rcases ht.lo with h0 | h0
      · exact .inl h0
      · right
        have h1 : 2 ^ (c + 52) ≤ Q := by
          have h2 : q * 2 ^ (t + 52) * 2 ^ a ≤ p * 2 ^ K * 2 ^ a := Nat.mul_le_mul_right _ h0
          have h3 : p * 2 ^ K * 2 ^ a < (Q + 1) * (q * 2 ^ b) * 2 ^ K := by
            rw [show p * 2 ^ K * 2 ^ a = p * 2 ^ a * 2 ^ K from by ac_rfl]
            exact Nat.mul_lt_mul_of_pos_right hup (Nat.two_pow_pos _)
          have e1 : (Q + 1) * (q * 2 ^ b) * 2 ^ K = q * 2 ^ (b + K) * (Q + 1) := by rw [Nat.pow_add]; ac_rfl
          have e2 : q * 2 ^ (t + 52) * 2 ^ a = q * 2 ^ (b + K) * 2 ^ (c + 52) := by
            rw [Nat.mul_assoc, Nat.mul_assoc, ← Nat.pow_add, ← Nat.pow_add]
            congr 2
            omega
          rw [e1] at h3
          rw [e2] at h2
          have h4 := Nat.lt_of_mul_lt_mul_left (Nat.lt_of_le_of_lt h2 h3)
          omega
        have h3 : 2 ^ (c + 1 + 52) ≤ stickyN Q R := by
          have e3 : 2 ^ (c + 1 + 52) = 2 * 2 ^ (c + 52) := by rw [show c + 1 + 52 = c + 52 + 1 from by omega, Nat.pow_succ]; omega
          omega
        rw [← Nat.pow_add, show B + (t + 52) = c + 1 + 52 + A from by omega, Nat.pow_add]
        exact Nat.mul_le_mul_right _ h3
  refine ⟨t, ht, ?_⟩
  have hn := near_is hX0 hAB
  rw [hn.one ⟨t, hu, rfl⟩]
  -- the two roundings
  have e1 : rne (stickyN Q R * 2 ^ A) (2 ^ B * 2 ^ t) = rne (stickyN Q R) (2 ^ (c + 1)) := by
    rw [← Nat.pow_add, hBt, Nat.pow_add, Nat.mul_comm (2 ^ A), rne_scale (Nat.two_pow_pos A)]
  have e2 : rne (p * 2 ^ K) (q * 2 ^ t) = rne (p * 2 ^ a) (q * 2 ^ b * 2 ^ c) := by
    apply rne_ratio (Nat.mul_pos hq (Nat.two_pow_pos t)) (Nat.mul_pos hqb (Nat.two_pow_pos c))
    calc p * 2 ^ K * (q * 2 ^ b * 2 ^ c) = p * q * 2 ^ (b + K + c) := by rw [Nat.pow_add, Nat.pow_add]; ac_rfl
      _ = p * q * 2 ^ (t + a) := by rw [hc]
      _ = p * 2 ^ a * (q * 2 ^ t) := by rw [Nat.pow_add]; ac_rfl
  rw [e1, e2, sticky_rne hqb h hR hc1]
theorem quot_near {p q a b Q R : Nat} {e : Int} (hq : 0 < q) (h : p * 2 ^ a = Q * (q * 2 ^ b) + R) (hR : R < q * 2 ^ b) (hQ : 9007199254740992 ≤ Q) (he : e = (b : Int) - (a : Int) - 1) :
    IsNear (p * 2 ^ K1074) q (nearN (stickyN Q R) e) := quot_near0 rfl rfl hq h hR (by omega) he
end Go.Proofs.YtdbkgpakpadloaaGreatDoor
/- The nearest number to the root of a quotient: there is one, and only one; it is rounded by the root's first bits. No conditions. -/
namespace Go.Proofs.YtdbkgpakpadloaaGreatDoor
open Go.RowKit Ieee

/-- the last digit's place of the root of N by D (units of 2^-1074, N in their squares) -/
structure RUnit (N D t : Nat) : Prop where
  hD : 0 < D
  hi : N < D * (2 ^ (t + 53) * 2 ^ (t + 53))
  lo : t = 0 ∨ D * (2 ^ (t + 52) * 2 ^ (t + 52)) ≤ N
def upR (N D t m : Nat) : Bool := decide (D * ((2 * m + 1) * 2 ^ t * ((2 * m + 1) * 2 ^ t)) < 4 * N) || (decide (D * ((2 * m + 1) * 2 ^ t * ((2 * m + 1) * 2 ^ t)) = 4 * N) && decide (m % 2 = 1))
def IsRoot (N D z : Nat) : Prop := ∃ t m, RUnit N D t ∧ D * (m * 2 ^ t * (m * 2 ^ t)) ≤ N ∧ N < D * ((m + 1) * 2 ^ t * ((m + 1) * 2 ^ t)) ∧ z = min (t * B52 + (m + (upR N D t m).toNat)) INF

theorem sq_lt {x y : Nat} : x * x < y * y ↔ x < y := Nat.mul_self_lt_mul_self_iff
theorem sq_le {x y : Nat} : x * x ≤ y * y ↔ x ≤ y := Nat.mul_self_le_mul_self_iff
theorem sq_eq {x y : Nat} : x * x = y * y ↔ x = y := ⟨fun h => Nat.le_antisymm (sq_le.1 (Nat.le_of_eq h)) (sq_le.1 (Nat.le_of_eq h.symm)), fun h => by rw [h]⟩
theorem sq_pow_lt {a b : Nat} (h : 2 ^ a * 2 ^ a < 2 ^ b * 2 ^ b) : a < b := two_pow_lt (sq_lt.1 h)
theorem RUnit.above {N D t u : Nat} (h : RUnit N D t) (k : RUnit N D u) : u ≤ t := by
  rcases k.lo with h0 | h0
  · omega
  · have h1 := Nat.lt_of_le_of_lt h0 h.hi
    have := sq_pow_lt (Nat.lt_of_mul_lt_mul_left h1)
    omega
theorem RUnit.one {N D t u : Nat} (h : RUnit N D t) (k : RUnit N D u) : t = u := Nat.le_antisymm (k.above h) (h.above k)
theorem root_floor_le {N D t m k : Nat} (h1 : D * (m * 2 ^ t * (m * 2 ^ t)) ≤ N) (h2 : N < D * ((k + 1) * 2 ^ t * ((k + 1) * 2 ^ t))) : m ≤ k := by
  have h3 := sq_lt.1 (Nat.lt_of_mul_lt_mul_left (Nat.lt_of_le_of_lt h1 h2))
  have := Nat.lt_of_mul_lt_mul_right h3
  omega
theorem IsRoot.one {N D z y : Nat} (h : IsRoot N D z) (k : IsRoot N D y) : z = y := by
  obtain ⟨t, m, ht, h1, h2, rfl⟩ := h
  obtain ⟨u, n, hu, k1, k2, rfl⟩ := k
  obtain rfl := ht.one hu
  obtain rfl : m = n := Nat.le_antisymm (root_floor_le h1 k2) (root_floor_le k1 h2)
  rfl
theorem runit_upto {N D : Nat} (hD : 0 < D) (k : Nat) : N < D * (2 ^ (k + 53) * 2 ^ (k + 53)) → ∃ t, RUnit N D t := by
  induction k with
  | zero => exact fun h => ⟨0, hD, h, .inl rfl⟩
  | succ k ih =>
    intro h
    rcases Nat.lt_or_ge N (D * (2 ^ (k + 53) * 2 ^ (k + 53))) with h1 | h1
    · exact ih h1
    · exact ⟨k + 1, hD, h, .inr (by rw [show k + 1 + 52 = k + 53 from by omega]; exact h1)⟩
theorem runit_exist (N : Nat) {D : Nat} (hD : 0 < D) : ∃ t, RUnit N D t := by
  refine runit_upto hD N ?_
  have h1 : N < 2 ^ N := Nat.lt_two_pow_self
  have h2 : 2 ^ N ≤ 2 ^ (N + 53) := Nat.pow_le_pow_right (by decide) (by omega)
  have h3 : 2 ^ (N + 53) ≤ 2 ^ (N + 53) * 2 ^ (N + 53) := Nat.le_mul_of_pos_left _ (Nat.two_pow_pos _)
  exact Nat.lt_of_lt_of_le (Nat.lt_of_lt_of_le (Nat.lt_of_lt_of_le h1 h2) h3) (Nat.le_mul_of_pos_left _ hD)

theorem root_scale {q a b c t k K : Nat} (h : t + a = b + K + c) : q * (k * 2 ^ t * (k * 2 ^ t)) * (2 ^ a * 2 ^ a) = k * 2 ^ c * (k * 2 ^ c) * (q * (2 ^ b * 2 ^ b)) * (2 ^ K * 2 ^ K) := by
  have e1 : q * (k * 2 ^ t * (k * 2 ^ t)) * (2 ^ a * 2 ^ a) = q * (k * k) * (2 ^ (t + a) * 2 ^ (t + a)) := by rw [Nat.pow_add]; ac_rfl
  have e2 : k * 2 ^ c * (k * 2 ^ c) * (q * (2 ^ b * 2 ^ b)) * (2 ^ K * 2 ^ K) = q * (k * k) * (2 ^ (b + K + c) * 2 ^ (b + K + c)) := by rw [Nat.pow_add, Nat.pow_add]; ac_rfl
  rw [e1, e2, h]
theorem pp_pos (a : Nat) : 0 < 2 ^ a * 2 ^ a := Nat.mul_pos (Nat.two_pow_pos a) (Nat.two_pow_pos a)
theorem root_le {p q a b c t k K : Nat} (h : t + a = b + K + c) : q * (k * 2 ^ t * (k * 2 ^ t)) ≤ p * (2 ^ K * 2 ^ K) ↔ k * 2 ^ c * (k * 2 ^ c) * (q * (2 ^ b * 2 ^ b)) ≤ p * (2 ^ a * 2 ^ a) := by
  rw [← Nat.mul_le_mul_right_iff (pp_pos a), root_scale h, show p * (2 ^ K * 2 ^ K) * (2 ^ a * 2 ^ a) = p * (2 ^ a * 2 ^ a) * (2 ^ K * 2 ^ K) from Nat.mul_right_comm _ _ _, Nat.mul_le_mul_right_iff (pp_pos K)]
theorem floor_le {p q a b r y : Nat} (h1 : r * r * (q * (2 ^ b * 2 ^ b)) ≤ p * (2 ^ a * 2 ^ a)) (h2 : p * (2 ^ a * 2 ^ a) < (r + 1) * (r + 1) * (q * (2 ^ b * 2 ^ b))) : y * y * (q * (2 ^ b * 2 ^ b)) ≤ p * (2 ^ a * 2 ^ a) ↔ y ≤ r := by
  constructor
  · intro h
    have := sq_lt.1 (Nat.lt_of_mul_lt_mul_right (Nat.lt_of_le_of_lt h h2))
    omega
  · intro h
    exact Nat.le_trans (Nat.mul_le_mul_right _ (sq_le.2 h)) h1

set_option maxHeartbeats 800000 in
theorem root_near0 {p q a b r K f : Nat} {e : Int} (hK0 : K = 1074) (hf : f = 53) (hq : 0 < q) (h1 : r * r * (q * (2 ^ b * 2 ^ b)) ≤ p * (2 ^ a * 2 ^ a)) (h2 : p * (2 ^ a * 2 ^ a) < (r + 1) * (r + 1) * (q * (2 ^ b * 2 ^ b))) (hr : 2 ^ f ≤ r) (he : e = (b : Int) - (a : Int) - 1) :
    IsRoot (p * (2 ^ K * 2 ^ K)) q (nearN (2 * r + (decide (r * r * (q * (2 ^ b * 2 ^ b)) < p * (2 ^ a * 2 ^ a))).toNat) e) := by
  obtain ⟨t, ht⟩ := runit_exist (p * (2 ^ K * 2 ^ K)) hq
  have hqb : 0 < q * (2 ^ b * 2 ^ b) := Nat.mul_pos hq (pp_pos b)
  have hc0 : f + b + K < t + 53 + a := by
    apply sq_pow_lt
    have g1 : p * (2 ^ K * 2 ^ K) * (2 ^ a * 2 ^ a) < q * (2 ^ (t + 53) * 2 ^ (t + 53)) * (2 ^ a * 2 ^ a) := Nat.mul_lt_mul_of_pos_right ht.hi (pp_pos a)
    have g2 : 2 ^ f * 2 ^ f * (q * (2 ^ b * 2 ^ b)) ≤ p * (2 ^ a * 2 ^ a) := (floor_le h1 h2).2 hr
    have g3 := Nat.mul_le_mul_right (2 ^ K * 2 ^ K) g2
    have g4 : q * (2 ^ (f + b + K) * 2 ^ (f + b + K)) < q * (2 ^ (t + 53 + a) * 2 ^ (t + 53 + a)) := by
      calc q * (2 ^ (f + b + K) * 2 ^ (f + b + K)) = 2 ^ f * 2 ^ f * (q * (2 ^ b * 2 ^ b)) * (2 ^ K * 2 ^ K) := by rw [Nat.pow_add, Nat.pow_add]; ac_rfl
        _ ≤ p * (2 ^ a * 2 ^ a) * (2 ^ K * 2 ^ K) := g3
        _ = p * (2 ^ K * 2 ^ K) * (2 ^ a * 2 ^ a) := Nat.mul_right_comm _ _ _
        _ < q * (2 ^ (t + 53) * 2 ^ (t + 53)) * (2 ^ a * 2 ^ a) := g1
        _ = q * (2 ^ (t + 53 + a) * 2 ^ (t + 53 + a)) := by rw [Nat.pow_add 2 (t + 53)]; generalize 2 ^ (t + 53) = T; ac_rfl
    exact Nat.lt_of_mul_lt_mul_left g4
  obtain ⟨d, hd⟩ : ∃ d, t + a = b + K + (d + 1) := ⟨t + a - (b + K) - 1, by omega⟩
  have hle : ∀ k, q * (k * 2 ^ t * (k * 2 ^ t)) ≤ p * (2 ^ K * 2 ^ K) ↔ k * 2 ^ (d + 1) ≤ r := fun k => (root_le hd).trans (floor_le h1 h2)
  obtain ⟨h, hh⟩ : ∃ h, 2 ^ d = h := ⟨_, rfl⟩
  have hh2 : 2 ^ (d + 1) = 2 * h := by rw [Nat.pow_succ, hh]; omega
  have hh4 : 2 ^ (d + 1 + 1) = 4 * h := by rw [Nat.pow_succ, hh2]; omega
  have hpos : 0 < h := by rw [← hh]; exact Nat.two_pow_pos d
  obtain ⟨m, g, hm, hg⟩ : ∃ m g, r = m * (2 * h) + g ∧ g < 2 * h := ⟨r / (2 * h), r % (2 * h), by rw [Nat.mul_comm]; exact (Nat.div_add_mod _ _).symm, Nat.mod_lt _ (by omega)⟩
  rw [hh2] at hle
  -- the question about half a unit
  have hhalf : ∀ k, q * (k * 2 ^ t * (k * 2 ^ t)) ≤ 4 * (p * (2 ^ K * 2 ^ K)) ↔ k * h ≤ r := fun k => by
    have e4 : 4 * (p * (2 ^ K * 2 ^ K)) = 4 * p * (2 ^ K * 2 ^ K) := (Nat.mul_assoc _ _ _).symm
    rw [e4, root_le hd, hh2, ← floor_le h1 h2]
    have e5 : k * (2 * h) * (k * (2 * h)) * (q * (2 ^ b * 2 ^ b)) = 4 * (k * h * (k * h) * (q * (2 ^ b * 2 ^ b))) := by
      rw [show k * (2 * h) = 2 * (k * h) from by ac_rfl]
      generalize k * h = y
      rw [show 2 * y * (2 * y) = 4 * (y * y) from by rw [show (4 : Nat) = 2 * 2 from rfl]; ac_rfl, Nat.mul_assoc 4]
    rw [e5, Nat.mul_assoc 4 p]
    omega
  have hhalfe : ∀ k, q * (k * 2 ^ t * (k * 2 ^ t)) = 4 * (p * (2 ^ K * 2 ^ K)) ↔ k * h * (k * h) * (q * (2 ^ b * 2 ^ b)) = p * (2 ^ a * 2 ^ a) := fun k => by
    have e4 : 4 * (p * (2 ^ K * 2 ^ K)) * (2 ^ a * 2 ^ a) = 4 * (p * (2 ^ a * 2 ^ a)) * (2 ^ K * 2 ^ K) := by ac_rfl
    have e6 := root_scale (q := q) (k := k) hd
    rw [hh2] at e6
    have e5 : k * (2 * h) * (k * (2 * h)) * (q * (2 ^ b * 2 ^ b)) = 4 * (k * h * (k * h) * (q * (2 ^ b * 2 ^ b))) := by
      rw [show k * (2 * h) = 2 * (k * h) from by ac_rfl]
      generalize k * h = y
      rw [show 2 * y * (2 * y) = 4 * (y * y) from by rw [show (4 : Nat) = 2 * 2 from rfl]; ac_rfl, Nat.mul_assoc 4]
    rw [e5] at e6
    constructor
    · intro hx
      rw [hx, e4] at e6
      have := Nat.eq_of_mul_eq_mul_right (pp_pos K) e6
      omega
    · intro hx
      rw [hx, ← e4] at e6
      exact Nat.eq_of_mul_eq_mul_right (pp_pos a) e6
  obtain ⟨s, hs⟩ : ∃ s, (decide (r * r * (q * (2 ^ b * 2 ^ b)) < p * (2 ^ a * 2 ^ a))).toNat = s := ⟨_, rfl⟩
  have hs1 : s = 0 ∧ r * r * (q * (2 ^ b * 2 ^ b)) = p * (2 ^ a * 2 ^ a) ∨ s = 1 ∧ r * r * (q * (2 ^ b * 2 ^ b)) ≠ p * (2 ^ a * 2 ^ a) := by
    by_cases h0 : r * r * (q * (2 ^ b * 2 ^ b)) < p * (2 ^ a * 2 ^ a)
    · right; rw [← hs, decide_eq_true h0]; exact ⟨rfl, by omega⟩
    · left; rw [← hs, decide_eq_false h0]; exact ⟨rfl, by omega⟩
  rw [hs]
  have hK : (K : Int) = 1074 := by omega
  obtain ⟨A, B, hAB⟩ : ∃ A B : Nat, e + 1074 = (A : Int) - (B : Int) := ⟨(e + 1074).toNat, (-(e + 1074)).toNat, by omega⟩
  have hBt : B + t = A + (d + 1 + 1) := by omega
  have hr53 : r < 2 ^ f * (2 * h) := by
    rcases Nat.lt_or_ge r (2 ^ f * (2 * h)) with g1 | g1
    · exact g1
    · have g2 := (hle (2 ^ f)).2 g1
      have g3 := ht.hi
      rw [← hf, Nat.add_comm t, Nat.pow_add] at g3
      omega
  have hr52 : t = 0 ∨ 2 ^ 52 * (2 * h) ≤ r := by
    rcases ht.lo with g1 | g1
    · exact .inl g1
    · right
      rw [Nat.add_comm t, Nat.pow_add] at g1
      exact (hle (2 ^ 52)).1 g1
  have hX0 : 0 < 2 * r + s := by have := Nat.two_pow_pos f; omega
  have hu : Unit ((2 * r + s) * 2 ^ A) (2 ^ B) t := by
    refine ⟨Nat.two_pow_pos B, ?_, ?_⟩
    · rw [← Nat.pow_add, show B + (t + 53) = f + (d + 1 + 1) + A from by omega, Nat.pow_add, Nat.pow_add 2 f, hh4]
      refine Nat.mul_lt_mul_of_pos_right ?_ (Nat.two_pow_pos A)
      have e5 : 2 ^ f * (4 * h) = 2 * (2 ^ f * (2 * h)) := by rw [show 4 * h = 2 * (2 * h) from by omega]; ac_rfl
      omega
    · rcases hr52 with g1 | g1
      · exact .inl g1
      · right
        rw [← Nat.pow_add, show B + (t + 52) = 52 + (d + 1 + 1) + A from by omega, Nat.pow_add, Nat.pow_add 2 52, hh4]
        refine Nat.mul_le_mul_right _ ?_
        have e5 : 2 ^ 52 * (4 * h) = 2 * (2 ^ 52 * (2 * h)) := by rw [show 4 * h = 2 * (2 * h) from by omega, Nat.mul_left_comm]
        omega
  have hmr : m * (2 * h) ≤ r := by omega
  have hmr1 : ¬ (m + 1) * (2 * h) ≤ r := by rw [Nat.add_mul]; omega
  refine ⟨t, m, ht, (hle m).2 hmr, by have := hle (m + 1); omega, ?_⟩
  rw [(near_is hX0 hAB).one ⟨t, hu, rfl⟩]
  have e1 : rne ((2 * r + s) * 2 ^ A) (2 ^ B * 2 ^ t) = rne (2 * r + s) (4 * h) := by
    rw [← Nat.pow_add, hBt, Nat.pow_add, Nat.mul_comm (2 ^ A), rne_scale (Nat.two_pow_pos A), hh4]
  rw [e1]
  have e2 : rne (2 * r + s) (4 * h) = m + (upR (p * (2 ^ K * 2 ^ K)) q t m).toNat := by
    have hX2 : 2 * r + s = 4 * h * m + (2 * g + s) := by
      rw [hm]
      have : 4 * h * m = 2 * (m * (2 * h)) := by rw [show 4 * h = 2 * (2 * h) from by omega]; ac_rfl
      omega
    have hlow2 : 2 * g + s < 4 * h := by omega
    have q2 : (2 * r + s) / (4 * h) = m := by rw [hX2, Nat.mul_add_div (by omega), Nat.div_eq_of_lt hlow2, Nat.add_zero]
    have r2 : (2 * r + s) % (4 * h) = 2 * g + s := by rw [hX2, Nat.mul_add_mod, Nat.mod_eq_of_lt hlow2]
    unfold rne upR
    rw [q2, r2]
    have k1 := hhalf (2 * m + 1)
    have k2 := hhalfe (2 * m + 1)
    have e6 : (2 * m + 1) * h = m * (2 * h) + h := by rw [Nat.add_mul, Nat.one_mul]; congr 1; ac_rfl
    have k3 : (2 * m + 1) * h * ((2 * m + 1) * h) * (q * (2 ^ b * 2 ^ b)) = p * (2 ^ a * 2 ^ a) ↔ (g = h ∧ s = 0) := by
      constructor
      · intro hx
        have hy : (2 * m + 1) * h = r := by
          have z1 := (floor_le h1 h2 (y := (2 * m + 1) * h)).1 (Nat.le_of_eq hx)
          rcases Nat.lt_or_ge ((2 * m + 1) * h) r with z2 | z2
          · have z3 := sq_lt.2 z2
            have z4 := Nat.mul_lt_mul_of_pos_right z3 hqb
            omega
          · omega
        rw [hy] at hx
        refine ⟨by omega, ?_⟩
        rcases hs1 with ⟨z, -⟩ | ⟨-, z⟩
        · exact z
        · exact absurd hx z
      · rintro ⟨z1, z2⟩
        have hy : (2 * m + 1) * h = r := by omega
        rw [hy]
        rcases hs1 with ⟨-, z⟩ | ⟨z, -⟩
        · exact z
        · omega
    rw [k3] at k2
    generalize q * ((2 * m + 1) * 2 ^ t * ((2 * m + 1) * 2 ^ t)) = U at *
    generalize p * (2 ^ K * 2 ^ K) = W at *
    have c1 : decide (4 * h < 2 * (2 * g + s)) = decide (U < 4 * W) := by
      rw [decide_eq_decide]
      have : s ≤ 1 := by omega
      constructor
      · intro z
        have z1 : U ≤ 4 * W := k1.2 (by omega)
        have z2 : ¬ U = 4 * W := fun z3 => by have := k2.1 z3; omega
        omega
      · intro z
        have z1 := k1.1 (by omega)
        have z2 : ¬ (g = h ∧ s = 0) := fun z3 => by have := k2.2 z3; omega
        omega
    have c2 : decide (4 * h = 2 * (2 * g + s)) = decide (U = 4 * W) := by
      rw [decide_eq_decide, k2]
      have : s ≤ 1 := by omega
      omega
    rw [c1, c2]
  rw [e2]
theorem root_near {p q a b r : Nat} {e : Int} (hq : 0 < q) (h1 : r * r * (q * (2 ^ b * 2 ^ b)) ≤ p * (2 ^ a * 2 ^ a)) (h2 : p * (2 ^ a * 2 ^ a) < (r + 1) * (r + 1) * (q * (2 ^ b * 2 ^ b))) (hr : 9007199254740992 ≤ r) (he : e = (b : Int) - (a : Int) - 1) :
    IsRoot (p * (2 ^ K1074 * 2 ^ K1074)) q (nearN (2 * r + (decide (r * r * (q * (2 ^ b * 2 ^ b)) < p * (2 ^ a * 2 ^ a))).toNat) e) := root_near0 rfl rfl hq h1 h2 hr he
end Go.Proofs.YtdbkgpakpadloaaGreatDoor
/- Contracts of package ratio's scaled and sticky. Conditions: numbers below 2^10000; at most 80000 words. -/
namespace Go.Proofs.YtdbkgpakpadloaaGreatDoor
open Go.RowKit Ieee

theorem NatC.row {w : World} {a : Option Addr} {n c : Nat} {z : Int} (h : NatC w a n c z) : ∃ xs, RowK .u32 w a n c xs ∧ Dig 4294967296 xs ∧ V 4294967296 xs = z := by
  obtain ⟨xs, h1, h2, -, h4⟩ := h
  exact ⟨xs, h1, h2, h4⟩
theorem NatC.short {w : World} {a : Option Addr} {n c z K : Nat} (h : NatC w a n c (z : Int)) (hz : z < 2 ^ K) : n ≤ K := by
  apply h.len
  have h1 : 2 ^ K ≤ 4294967296 ^ K := Nat.pow_le_pow_left (by decide) K
  have h2 := Int.ofNat_lt.2 (Nat.lt_of_lt_of_le hz h1)
  rw [Int.natCast_pow] at h2
  exact h2
theorem NatC.tell {w : World} {a : Option Addr} {n c z : Nat} (h : NatC w a n c (z : Int)) : decide (0 < n) = decide (0 < z) := by
  obtain ⟨xs, hr, hd, ht, hv⟩ := h
  have hp := V_pos (B := 4294967296) (by decide) hd ht
  rw [hv] at hp
  rw [decide_eq_decide]
  have hl := hr.1
  constructor
  · intro h
    have : (0 : Int) < (z : Int) := hp.2 (fun e => by rw [e] at hl; simp at hl; omega)
    omega
  · intro h
    have h1 := hp.1 (by omega)
    rcases Nat.eq_zero_or_pos n with h0 | h0
    · exact absurd (List.eq_nil_of_length_eq_zero (by omega)) h1
    · omega
theorem nshl_yes (a : Option Addr) (n c N : Nat) (xs : List Int) (w : World) (ha : RowK .u32 w a n c xs) (hx : Dig 4294967296 xs) (hn0 : n ≤ 80000) (hN : N ≤ 8192) :
    Calls Tryz.prog 44 #[.slice a n c, .int .i64 N] w (RetNatB w (V 4294967296 xs * 2 ^ N)) := shl_any a n c N (N / 32) (N % 32) xs w ha hx hn0 (by omega) (by omega) hN

def RetScaled (Q R : Nat) (w : World) (e : Ending) (w' : World) : Prop := ∃ a n c, e = .returned (.tuple #[.slice a n c, .bool (decide (0 < R))]) ∧ NatC w' a n c (Q : Int) ∧ Below w.heap.size w w'
theorem cast_shl {z : Int} {X N : Nat} (h : z = (X : Int)) : z * 2 ^ N = ((X * 2 ^ N : Nat) : Int) := by rw [h, shl_cast]
theorem shl_lt {X K N M : Nat} (h : X < 2 ^ K) (hN : N ≤ M) : X * 2 ^ N < 2 ^ (K + M) := by
  rw [Nat.pow_add]
  exact Nat.lt_of_lt_of_le (Nat.mul_lt_mul_of_pos_right h (Nat.two_pow_pos N)) (Nat.mul_le_mul_left _ (Nat.pow_le_pow_right (by decide) hN))

end Go.Proofs.YtdbkgpakpadloaaGreatDoor
/- Contract of package ratio's Quot. Conditions: numbers below 2^3000; at most 80000 words. -/
namespace Go.Proofs.YtdbkgpakpadloaaGreatDoor
open Go.RowKit Ieee

/-- the word with a sign -/
def sgnW (neg : Bool) (y : Nat) : Nat := if neg then S63 + y else y
theorem join_sgn (neg : Bool) (X : Nat) (e : Int) : joinN neg X e = sgnW neg (nearN X e) := rfl
theorem sgnW_lt {neg : Bool} {y : Nat} (h : y ≤ INF) : sgnW neg y < 18446744073709551616 := by
  unfold sgnW S63
  unfold INF at h
  split <;> omega
theorem join_lt0 (neg : Bool) (X : Nat) (e : Int) : joinN neg X e < 18446744073709551616 := sgnW_lt (near_le X e)
def IsQuot (neg : Bool) (p q z : Nat) : Prop := z < 18446744073709551616 ∧ ((p = 0 ∧ q = 0 ∧ INF < z % S63) ∨ (p ≠ 0 ∧ q = 0 ∧ z = sgnW neg INF) ∨ (p = 0 ∧ q ≠ 0 ∧ z = sgnW neg 0) ∨ (p ≠ 0 ∧ q ≠ 0 ∧ ∃ y, IsNear (p * 2 ^ K1074) q y ∧ z = sgnW neg y))
theorem IsQuot.one {neg : Bool} {p q z y : Nat} (h : IsQuot neg p q z) (k : IsQuot neg p q y) : keyN z = keyN y := by
  obtain ⟨-, h⟩ := h
  obtain ⟨-, k⟩ := k
  rcases h with ⟨h1, h2, h3⟩ | ⟨h1, h2, h3⟩ | ⟨h1, h2, h3⟩ | ⟨h1, h2, u, h3, h4⟩ <;> rcases k with ⟨k1, k2, k3⟩ | ⟨k1, k2, k3⟩ | ⟨k1, k2, k3⟩ | ⟨k1, k2, v, k3, k4⟩ <;> try omega
  · rw [key_nan h3, key_nan k3]
  · rw [h3, k3]
  · rw [h3, k3]
  · rw [h4, k4, h3.one k3]
/-- how many bits a quotient has -/
theorem quot_bits {p q n m s t G : Nat} (hp1 : 2 ^ (n - 1) ≤ p) (hp2 : p < 2 ^ n) (hq1 : 2 ^ (m - 1) ≤ q) (hq2 : q < 2 ^ m) (hn : 1 ≤ n) (hm : 1 ≤ m) (hG : (s : Int) - (t : Int) = (G : Int) - ((n : Int) - (m : Int))) (hG1 : 1 ≤ G) :
    2 ^ (G - 1) ≤ p * 2 ^ s / (q * 2 ^ t) ∧ p * 2 ^ s / (q * 2 ^ t) < 2 ^ (G + 1) := by
  have hq0 : 0 < q := Nat.lt_of_lt_of_le (Nat.two_pow_pos _) hq1
  have hd : 0 < q * 2 ^ t := Nat.mul_pos hq0 (Nat.two_pow_pos t)
  constructor
  · rw [Nat.le_div_iff_mul_le hd]
    have h1 : q * 2 ^ t ≤ 2 ^ m * 2 ^ t := Nat.mul_le_mul_right _ (Nat.le_of_lt hq2)
    have h2 : 2 ^ (n - 1) * 2 ^ s ≤ p * 2 ^ s := Nat.mul_le_mul_right _ hp1
    refine Nat.le_trans (Nat.mul_le_mul_left _ h1) (Nat.le_trans (Nat.le_of_eq ?_) h2)
    rw [← Nat.pow_add, ← Nat.pow_add, ← Nat.pow_add]
    congr 1
    omega
  · rw [Nat.div_lt_iff_lt_mul hd]
    have h1 : 2 ^ (m - 1) * 2 ^ t ≤ q * 2 ^ t := Nat.mul_le_mul_right _ hq1
    have h2 : p * 2 ^ s < 2 ^ n * 2 ^ s := Nat.mul_lt_mul_of_pos_right hp2 (Nat.two_pow_pos s)
    refine Nat.lt_of_lt_of_le h2 (Nat.le_trans (Nat.le_of_eq ?_) (Nat.mul_le_mul_left _ h1))
    rw [← Nat.pow_add, ← Nat.pow_add, ← Nat.pow_add]
    congr 1
    omega
theorem bits_le {p n K : Nat} (h : 2 ^ (n - 1) ≤ p) (hp : p < 2 ^ K) : n ≤ K := by
  have := two_pow_lt (Nat.lt_of_le_of_lt h hp)
  omega
/-- bits_any, said of a natural number -/
def BitsN (p b : Nat) : Prop := (p = 0 ∧ b = 0) ∨ (1 ≤ b ∧ 2 ^ (b - 1) ≤ p ∧ p < 2 ^ b)
theorem nbits_any (a : Option Addr) (n c p : Nat) (xs : List Int) (w : World) (ha : RowK .u32 w a n c xs) (hx : Dig 4294967296 xs) (hX : V 4294967296 xs = (p : Int)) (hn : n ≤ 80000) :
    Calls Tryz.prog 22 #[.slice a n c] w fun e w' => ∃ b : Nat, e = .returned (.int .i64 b) ∧ w = w' ∧ BitsN p b := by
  refine (bits_any a n c xs w ha hx (by omega)).mono ?_
  rintro e w' ⟨b, he, hw, hb⟩
  refine ⟨b, he, hw, ?_⟩
  rw [hX] at hb
  rcases hb with ⟨h1, h2⟩ | ⟨h1, h2, h3⟩
  · exact .inl ⟨by omega, h2⟩
  · exact .inr ⟨h1, pow_of_int' h2, pow_of_int h3⟩
/-- flo's Join of a natural number -/
theorem njoin_any (neg : Bool) (a : Option Addr) (n c X K : Nat) (e : Int) (w : World) (h : NatC w a n c (X : Int)) (hX : X < 2 ^ K) (hK : K ≤ 150) (he1 : -9223372036854775808 ≤ e) (he2 : e ≤ 9223372036854775807) :
    Calls Tryz.prog 18 #[.bool neg, .slice a n c, .int .i64 e] w (RJoin (joinN neg X e) w) := by
  have hl := h.short hX
  obtain ⟨xs, h1, h2, h3⟩ := h.row
  exact fjoin_any neg a n c xs X e w h1 h2 h3 (by omega) he1 he2

def RQuot (neg : Bool) (p q : Nat) (w : World) (e : Ending) (w' : World) : Prop := ∃ z, e = .returned (.float .f64 z) ∧ IsQuot neg p q z ∧ Below w.heap.size w w'

end Go.Proofs.YtdbkgpakpadloaaGreatDoor
/- Contract of package ratio's Root. Conditions: numbers below 2^3000; at most 80000 words. -/
namespace Go.Proofs.YtdbkgpakpadloaaGreatDoor
open Go.RowKit Ieee

theorem sgnW_no (y : Nat) : sgnW false y = y := by unfold sgnW; rw [if_neg (by decide)]
def IsRootQ (p q z : Nat) : Prop := z < 18446744073709551616 ∧ ((p = 0 ∧ q = 0 ∧ INF < z % S63) ∨ (p ≠ 0 ∧ q = 0 ∧ z = INF) ∨ (p = 0 ∧ q ≠ 0 ∧ z = 0) ∨ (p ≠ 0 ∧ q ≠ 0 ∧ IsRoot (p * (2 ^ K1074 * 2 ^ K1074)) q z))
theorem IsRootQ.one {p q z y : Nat} (h : IsRootQ p q z) (k : IsRootQ p q y) : keyN z = keyN y := by
  obtain ⟨-, h⟩ := h
  obtain ⟨-, k⟩ := k
  rcases h with ⟨h1, h2, h3⟩ | ⟨h1, h2, h3⟩ | ⟨h1, h2, h3⟩ | ⟨h1, h2, h3⟩ <;> rcases k with ⟨k1, k2, k3⟩ | ⟨k1, k2, k3⟩ | ⟨k1, k2, k3⟩ | ⟨k1, k2, k3⟩ <;> try omega
  · rw [key_nan h3, key_nan k3]
  · rw [h3, k3]
  · rw [h3, k3]
  · rw [h3.one k3]
theorem pow_dbl (a : Nat) : 2 ^ (2 * a) = 2 ^ a * 2 ^ a := by rw [← Nat.pow_add]; congr 1; omega
/-- the root of the scaled quotient tells the root of the quotient -/
theorem root_fin {p q a b Q R r : Nat} {e : Int} {s : Bool} (hq : 0 < q) (h : p * 2 ^ (2 * a) = Q * (q * 2 ^ (2 * b)) + R) (hR : R < q * 2 ^ (2 * b)) (hr1 : r * r ≤ Q) (hr2 : Q < (r + 1) * (r + 1)) (hr : 9007199254740992 ≤ r) (he : e = (b : Int) - (a : Int) - 1) (hs : s = (decide (0 < R) || decide (r * r ≠ Q))) :
    IsRoot (p * (2 ^ K1074 * 2 ^ K1074)) q (nearN (2 * r + s.toNat) e) := by
  rw [pow_dbl, pow_dbl] at h
  rw [pow_dbl] at hR
  have hqb : 0 < q * (2 ^ b * 2 ^ b) := Nat.mul_pos hq (pp_pos b)
  have h1 : r * r * (q * (2 ^ b * 2 ^ b)) ≤ p * (2 ^ a * 2 ^ a) := by
    have := Nat.mul_le_mul_right (q * (2 ^ b * 2 ^ b)) hr1
    omega
  have h2 : p * (2 ^ a * 2 ^ a) < (r + 1) * (r + 1) * (q * (2 ^ b * 2 ^ b)) := by
    have h3 := Nat.mul_le_mul_right (q * (2 ^ b * 2 ^ b)) (show Q + 1 ≤ (r + 1) * (r + 1) from hr2)
    rw [Nat.add_mul, Nat.one_mul] at h3
    omega
  have h4 := root_near hq h1 h2 hr he
  have h5 : decide (r * r * (q * (2 ^ b * 2 ^ b)) < p * (2 ^ a * 2 ^ a)) = s := by
    rw [hs]
    rcases Nat.lt_or_ge (r * r) Q with h6 | h6
    · have h7 := Nat.mul_lt_mul_of_pos_right h6 hqb
      rw [decide_eq_true (by omega), decide_eq_true (show r * r ≠ Q by omega), Bool.or_true]
    · have h8 : r * r = Q := by omega
      rw [h8, show decide (Q ≠ Q) = false from by simp, Bool.or_false, decide_eq_decide]
      omega
  rw [h5] at h4
  exact h4

def RRoot (p q : Nat) (w : World) (e : Ending) (w' : World) : Prop := ∃ z, e = .returned (.float .f64 z) ∧ IsRootQ p q z ∧ Below w.heap.size w w'

end Go.Proofs.YtdbkgpakpadloaaGreatDoor
