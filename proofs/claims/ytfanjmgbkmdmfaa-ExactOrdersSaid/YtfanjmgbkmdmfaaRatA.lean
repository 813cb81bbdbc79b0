/- Rounding a quotient by so many bits and one more that tells whether something is left. No conditions. -/
import Derived.Test.YtfanjmgbkmdmfaaFloV
namespace Go.Proofs.Ytfanjmgbkmdmfaa
open Go.RowKit Ieee

/-- what is left tells but one bit more -/
def stickyN (Q R : Nat) : Nat := 2 * Q + (decide (0 < R)).toNat
theorem sticky_rne {V D c Q R : Nat} (hD : 0 < D) (hV : V = Q * D + R) (hR : R < D) (hc : 1 ≤ c) : rne V (D * 2 ^ c) = rne (stickyN Q R) (2 ^ (c + 1)) := by
  obtain ⟨m, f, hm, hf⟩ : ∃ m f, Q = m * 2 ^ c + f ∧ f < 2 ^ c := ⟨Q / 2 ^ c, Q % 2 ^ c, by rw [Nat.mul_comm]; exact (Nat.div_add_mod _ _).symm, Nat.mod_lt _ (Nat.two_pow_pos c)⟩
  obtain ⟨h, hh⟩ : ∃ h, 2 ^ c = 2 * h := ⟨2 ^ (c - 1), by rw [show c = c - 1 + 1 from by omega, Nat.pow_succ]; simp; omega⟩
  have hpc : 2 ^ (c + 1) = 4 * h := by rw [Nat.pow_succ, hh]; omega
  have hpos : 0 < 2 ^ c := Nat.two_pow_pos c
  rw [hh] at hm hf hpos
  rw [hpc, hh]
  have hlow : f * D + R < D * (2 * h) := by
    have h1 : (f + 1) * D ≤ 2 * h * D := Nat.mul_le_mul_right _ (by omega)
    rw [Nat.add_mul, Nat.one_mul] at h1
    rw [Nat.mul_comm D]
    omega
  have hV2 : V = m * (D * (2 * h)) + (f * D + R) := by
    rw [hV, hm, Nat.add_mul]
    have : m * (2 * h) * D = m * (D * (2 * h)) := by ac_rfl
    omega
  obtain ⟨s, hs⟩ : ∃ s, (decide (0 < R)).toNat = s := ⟨_, rfl⟩
  have hs1 : s = 0 ∧ R = 0 ∨ s = 1 ∧ 0 < R := by
    rcases Nat.eq_zero_or_pos R with h0 | h0
    · left; rw [← hs, h0]; exact ⟨rfl, rfl⟩
    · right; rw [← hs, decide_eq_true h0]; exact ⟨rfl, h0⟩
  have hX2 : stickyN Q R = m * (4 * h) + (2 * f + s) := by
    unfold stickyN
    rw [hs, hm]
    have : 2 * (m * (2 * h)) = m * (4 * h) := by rw [show 4 * h = 2 * (2 * h) from by omega]; ac_rfl
    omega
  have hDh : 0 < D * (2 * h) := Nat.mul_pos hD hpos
  have q1 : V / (D * (2 * h)) = m := by
    rw [hV2, Nat.mul_comm m, Nat.mul_add_div hDh, Nat.div_eq_of_lt hlow, Nat.add_zero]
  have r1 : V % (D * (2 * h)) = f * D + R := by
    rw [hV2, Nat.mul_comm m, Nat.mul_add_mod, Nat.mod_eq_of_lt hlow]
  have hlow2 : 2 * f + s < 4 * h := by omega
  have q2 : stickyN Q R / (4 * h) = m := by
    rw [hX2, Nat.mul_comm m, Nat.mul_add_div (by omega), Nat.div_eq_of_lt hlow2, Nat.add_zero]
  have r2 : stickyN Q R % (4 * h) = 2 * f + s := by
    rw [hX2, Nat.mul_comm m, Nat.mul_add_mod, Nat.mod_eq_of_lt hlow2]
  unfold rne
  rw [q1, r1, q2, r2]
  have e1 : 2 * (f * D + R) = 2 * f * D + 2 * R := by rw [Nat.mul_add, Nat.mul_assoc]
  have e2 : D * (2 * h) = 2 * h * D := Nat.mul_comm _ _
  have g1 : decide (D * (2 * h) < 2 * (f * D + R)) = decide (4 * h < 2 * (2 * f + s)) := by
    rw [decide_eq_decide, e1, e2]
    rcases Nat.lt_trichotomy f h with h1 | h1 | h1
    · have h2 : (f + 1) * D ≤ h * D := Nat.mul_le_mul_right _ h1
      rw [Nat.add_mul, Nat.one_mul] at h2
      have h3 : 2 * f * D = 2 * (f * D) := Nat.mul_assoc _ _ _
      have h4 : 2 * h * D = 2 * (h * D) := Nat.mul_assoc _ _ _
      omega
    · subst h1
      omega
    · have h2 : (h + 1) * D ≤ f * D := Nat.mul_le_mul_right _ h1
      rw [Nat.add_mul, Nat.one_mul] at h2
      have h3 : 2 * f * D = 2 * (f * D) := Nat.mul_assoc _ _ _
      have h4 : 2 * h * D = 2 * (h * D) := Nat.mul_assoc _ _ _
      omega
  have g2 : decide (D * (2 * h) = 2 * (f * D + R)) = decide (4 * h = 2 * (2 * f + s)) := by
    rw [decide_eq_decide, e1, e2]
    rcases Nat.lt_trichotomy f h with h1 | h1 | h1
    · have h2 : (f + 1) * D ≤ h * D := Nat.mul_le_mul_right _ h1
      rw [Nat.add_mul, Nat.one_mul] at h2
      have h3 : 2 * f * D = 2 * (f * D) := Nat.mul_assoc _ _ _
      have h4 : 2 * h * D = 2 * (h * D) := Nat.mul_assoc _ _ _
      omega
    · subst h1
      omega
    · have h2 : (h + 1) * D ≤ f * D := Nat.mul_le_mul_right _ h1
      rw [Nat.add_mul, Nat.one_mul] at h2
      have h3 : 2 * f * D = 2 * (f * D) := Nat.mul_assoc _ _ _
      have h4 : 2 * h * D = 2 * (h * D) := Nat.mul_assoc _ _ _
      omega
  rw [g1, g2]

/-- the nearest number to a quotient by the quotient's first bits -/
theorem quot_near0 {p q a b Q R K f : Nat} {e : Int} (hK0 : K = 1074) (hf : f = 53) (hq : 0 < q) (h : p * 2 ^ a = Q * (q * 2 ^ b) + R) (hR : R < q * 2 ^ b) (hQ : 2 ^ f ≤ Q) (he : e = (b : Int) - (a : Int) - 1) :
    IsNear (p * 2 ^ K) q (nearN (stickyN Q R) e) := by
  obtain ⟨t, ht⟩ := unit_exist (p * 2 ^ K) hq
  have hqb : 0 < q * 2 ^ b := Nat.mul_pos hq (Nat.two_pow_pos b)
  have hlow : Q * (q * 2 ^ b) ≤ p * 2 ^ a := by omega
  have hup : p * 2 ^ a < (Q + 1) * (q * 2 ^ b) := by rw [Nat.add_mul, Nat.one_mul]; omega
  -- c: the unit's place in the quotient
  have hc0 : b + K + f < t + 53 + a := by
    apply two_pow_lt
    have h1 : p * 2 ^ K * 2 ^ a < q * 2 ^ (t + 53) * 2 ^ a := Nat.mul_lt_mul_of_pos_right ht.hi (Nat.two_pow_pos a)
    have h2 : Q * (q * 2 ^ b) * 2 ^ K ≤ p * 2 ^ a * 2 ^ K := Nat.mul_le_mul_right _ hlow
    have h3 : 2 ^ f * (q * 2 ^ b) * 2 ^ K ≤ Q * (q * 2 ^ b) * 2 ^ K := Nat.mul_le_mul_right _ (Nat.mul_le_mul_right _ hQ)
    have h4 : q * 2 ^ (b + K + f) < q * 2 ^ (t + 53 + a) := by
      calc q * 2 ^ (b + K + f) = 2 ^ f * (q * 2 ^ b) * 2 ^ K := by rw [Nat.pow_add, Nat.pow_add]; ac_rfl
        _ ≤ p * 2 ^ a * 2 ^ K := Nat.le_trans h3 h2
        _ = p * 2 ^ K * 2 ^ a := by ac_rfl
        _ < q * 2 ^ (t + 53) * 2 ^ a := h1
        _ = q * 2 ^ (t + 53 + a) := by rw [Nat.pow_add 2 (t + 53)]; generalize 2 ^ (t + 53) = T; rw [Nat.mul_assoc]
    exact Nat.lt_of_mul_lt_mul_left h4
  obtain ⟨c, hc⟩ : ∃ c, t + a = b + K + c := ⟨t + a - (b + K), by omega⟩
  have hc1 : 1 ≤ c := by omega
  obtain ⟨A, B, hAB⟩ : ∃ A B : Nat, e + 1074 = (A : Int) - (B : Int) := ⟨(e + 1074).toNat, (-(e + 1074)).toNat, by omega⟩
  have hBt : B + t = A + (c + 1) := by omega
  have hX0 : 0 < stickyN Q R := by
    unfold stickyN
    have : 0 < 2 ^ f := Nat.two_pow_pos f
    omega
  have hX1 : 2 * Q ≤ stickyN Q R ∧ stickyN Q R ≤ 2 * Q + 1 := by
    unfold stickyN
    cases decide (0 < R) <;> simp
  -- the unit of the joined number
  have hu : Unit (stickyN Q R * 2 ^ A) (2 ^ B) t := by
    refine ⟨Nat.two_pow_pos B, ?_, ?_⟩
    · have h1 : Q < 2 ^ (c + 53) := by
        have h2 : Q * (q * 2 ^ b) * 2 ^ K < q * 2 ^ (t + 53) * 2 ^ a := by
          calc Q * (q * 2 ^ b) * 2 ^ K ≤ p * 2 ^ a * 2 ^ K := Nat.mul_le_mul_right _ hlow
            _ = p * 2 ^ K * 2 ^ a := by ac_rfl
            _ < _ := Nat.mul_lt_mul_of_pos_right ht.hi (Nat.two_pow_pos a)
        have e1 : Q * (q * 2 ^ b) * 2 ^ K = q * 2 ^ (b + K) * Q := by rw [Nat.pow_add]; ac_rfl
        have e2 : q * 2 ^ (t + 53) * 2 ^ a = q * 2 ^ (b + K) * 2 ^ (c + 53) := by
          rw [Nat.mul_assoc, Nat.mul_assoc, ← Nat.pow_add, ← Nat.pow_add]
          congr 2
          omega
        rw [e1, e2] at h2
        exact Nat.lt_of_mul_lt_mul_left h2
      have h3 : stickyN Q R < 2 ^ (c + 1 + 53) := by
        have e3 : 2 ^ (c + 1 + 53) = 2 * 2 ^ (c + 53) := by rw [show c + 1 + 53 = c + 53 + 1 from by omega, Nat.pow_succ]; omega
        omega
      rw [← Nat.pow_add, show B + (t + 53) = c + 1 + 53 + A from by omega, Nat.pow_add]
      exact Nat.mul_lt_mul_of_pos_right h3 (Nat.two_pow_pos A)
    · rcases ht.lo with h0 | h0
      · exact .inl h0
      · right
        have h1 : 2 ^ (c + 52) ≤ Q := by
          have h2 : q * 2 ^ (t + 52) * 2 ^ a ≤ p * 2 ^ K * 2 ^ a := Nat.mul_le_mul_right _ h0
          have h3 : p * 2 ^ K * 2 ^ a < (Q + 1) * (q * 2 ^ b) * 2 ^ K := by
            rw [show p * 2 ^ K * 2 ^ a = p * 2 ^ a * 2 ^ K from by ac_rfl]
            exact Nat.mul_lt_mul_of_pos_right hup (Nat.two_pow_pos _)
          have e1 : (Q + 1) * (q * 2 ^ b) * 2 ^ K = q * 2 ^ (b + K) * (Q + 1) := by rw [Nat.pow_add]; ac_rfl
          have e2 : q * 2 ^ (t + 52) * 2 ^ a = q * 2 ^ (b + K) * 2 ^ (c + 52) := by
            rw [Nat.mul_assoc, Nat.mul_assoc, ← Nat.pow_add, ← Nat.pow_add]
            congr 2
            omega
          rw [e1] at h3
          rw [e2] at h2
          have h4 := Nat.lt_of_mul_lt_mul_left (Nat.lt_of_le_of_lt h2 h3)
          omega
        have h3 : 2 ^ (c + 1 + 52) ≤ stickyN Q R := by
          have e3 : 2 ^ (c + 1 + 52) = 2 * 2 ^ (c + 52) := by rw [show c + 1 + 52 = c + 52 + 1 from by omega, Nat.pow_succ]; omega
          omega
        rw [← Nat.pow_add, show B + (t + 52) = c + 1 + 52 + A from by omega, Nat.pow_add]
        exact Nat.mul_le_mul_right _ h3
  refine ⟨t, ht, ?_⟩
  have hn := near_is hX0 hAB
  rw [hn.one ⟨t, hu, rfl⟩]
  -- the two roundings
  have e1 : rne (stickyN Q R * 2 ^ A) (2 ^ B * 2 ^ t) = rne (stickyN Q R) (2 ^ (c + 1)) := by
    rw [← Nat.pow_add, hBt, Nat.pow_add, Nat.mul_comm (2 ^ A), rne_scale (Nat.two_pow_pos A)]
  have e2 : rne (p * 2 ^ K) (q * 2 ^ t) = rne (p * 2 ^ a) (q * 2 ^ b * 2 ^ c) := by
    apply rne_ratio (Nat.mul_pos hq (Nat.two_pow_pos t)) (Nat.mul_pos hqb (Nat.two_pow_pos c))
    calc p * 2 ^ K * (q * 2 ^ b * 2 ^ c) = p * q * 2 ^ (b + K + c) := by rw [Nat.pow_add, Nat.pow_add]; ac_rfl
      _ = p * q * 2 ^ (t + a) := by rw [hc]
      _ = p * 2 ^ a * (q * 2 ^ t) := by rw [Nat.pow_add]; ac_rfl
  rw [e1, e2, sticky_rne hqb h hR hc1]
theorem quot_near {p q a b Q R : Nat} {e : Int} (hq : 0 < q) (h : p * 2 ^ a = Q * (q * 2 ^ b) + R) (hR : R < q * 2 ^ b) (hQ : 9007199254740992 ≤ Q) (he : e = (b : Int) - (a : Int) - 1) :
    IsNear (p * 2 ^ K1074) q (nearN (stickyN Q R) e) := quot_near0 rfl rfl hq h hR (by omega) he
end Go.Proofs.Ytfanjmgbkmdmfaa
