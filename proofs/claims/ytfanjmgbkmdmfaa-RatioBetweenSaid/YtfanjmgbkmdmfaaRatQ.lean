/- A mean and a deviation of some numbers against the least and the greatest, as floats. No conditions. -/
import Derived.Test.YtfanjmgbkmdmfaaRatP
import Derived.Test.YtfanjmgbkmdmfaaRatK
namespace Go.Proofs.Ytfanjmgbkmdmfaa
open Go.RowKit Ieee

theorem sk_sgn {neg : Bool} {y : Nat} (h : y ≤ INF) : sk (sgnW neg y) = sg neg y ∧ sgnW neg y % S63 = y := by
  unfold sk sgnW
  unfold INF at h
  cases neg
  · simp only [Bool.false_eq_true, if_false]
    have h1 : y % S63 = y := Nat.mod_eq_of_lt (by unfold S63; omega)
    rw [h1, show decide (S63 ≤ y) = false from by unfold S63; simp; omega]
    exact ⟨rfl, rfl⟩
  · simp only [if_true]
    have h1 : (S63 + y) % S63 = y := by rw [Nat.add_mod_left]; exact Nat.mod_eq_of_lt (by unfold S63; omega)
    rw [h1, show decide (S63 ≤ S63 + y) = true from by simp]
    exact ⟨rfl, rfl⟩
theorem sg_true (n : Nat) : sg true n = -(n : Int) := rfl
theorem sg_false (n : Nat) : sg false n = (n : Int) := rfl
/-- the mean against one number -/
theorem mean_vs {s k x : Int} {z : Nat} (hk : 1 ≤ k) (hx : x.natAbs ≤ 9007199254740992) (hz : IsMean s k z) :
    z < 18446744073709551616 ∧ z % S63 ≤ INF ∧ floatOfInt .f64 x < 18446744073709551616 ∧ floatOfInt .f64 x % S63 ≤ INF ∧ (k * x ≤ s → sk (floatOfInt .f64 x) ≤ sk z) ∧ (s ≤ k * x → sk z ≤ sk (floatOfInt .f64 x)) := by
  obtain ⟨r, hr0, hr1, hr2⟩ := int_word_any hx
  obtain ⟨q1, q2⟩ := sk_sgn (neg := decide (x < 0)) (Nat.le_of_lt hr1)
  have hlt := sgnW_lt (neg := decide (x < 0)) (Nat.le_of_lt hr1)
  have hxr : x = 0 → r = 0 := fun h => by
    rw [h, show ((0 : Int)).natAbs = 0 from rfl, Nat.zero_mul] at hr2
    exact iv_eq0 hr2
  have hkx : ((k.natAbs : Nat) : Int) = k := by omega
  rw [← hr0] at q1 q2 hlt
  have hmul : ((k.natAbs * x.natAbs : Nat) : Int) = if x < 0 then -(k * x) else k * x := by
    rw [Int.natCast_mul, hkx]
    split
    · rw [show ((x.natAbs : Nat) : Int) = -x from by omega, Int.mul_neg]
    · rw [show ((x.natAbs : Nat) : Int) = x from by omega]
  rcases hz with ⟨h1, h2, h3⟩ | ⟨h1, hq⟩
  · subst h3
    subst h1
    refine ⟨by omega, by decide, hlt, by rw [q2]; omega, ?_, ?_⟩
    · intro h
      have hx0 : x ≤ 0 := by
        rcases Int.lt_or_le 0 x with h4 | h4
        · have := Int.mul_pos (show 0 < k by omega) h4
          omega
        · exact h4
      rw [q1, show sk 0 = 0 from by decide]
      rcases Int.lt_or_le x 0 with h4 | h4
      · rw [decide_eq_true h4, sg_true]; omega
      · rw [show decide (x < 0) = false from by simpa using h4, sg_false, hxr (by omega)]
        exact Int.le_refl _
    · intro h
      have hx0 : 0 ≤ x := by
        rcases Int.lt_or_le x 0 with h4 | h4
        · have := Int.mul_neg_of_pos_of_neg (show 0 < k by omega) h4
          omega
        · exact h4
      rw [q1, show sk 0 = 0 from by decide, show decide (x < 0) = false from by simpa using hx0, sg_false]
      omega
  · have hs0 : s ≠ 0 := fun h => h1 ⟨h, by omega⟩
    rw [show decide (k < 0) = false from by simp; omega, Bool.bne_false] at hq
    obtain ⟨hzl, hq⟩ := hq
    rcases hq with ⟨h2, -, -⟩ | ⟨-, h2, -⟩ | ⟨h2, -, -⟩ | ⟨-, -, y, h3, h4⟩
    · omega
    · omega
    · omega
    · obtain ⟨u1, u2⟩ := sk_sgn (neg := decide (s < 0)) h3.le
      rw [← h4] at u1 u2
      refine ⟨hzl, by rw [u2]; exact h3.le, hlt, by rw [q2]; omega, ?_, ?_⟩
      · intro h
        rw [q1, u1]
        rcases Int.lt_or_le s 0 with hs | hs
        · have hx0 : x < 0 := by
            rcases Int.lt_or_le x 0 with h5 | h5
            · exact h5
            · have := Int.mul_nonneg (show 0 ≤ k by omega) h5
              omega
          rw [decide_eq_true hs, decide_eq_true hx0, sg_true, sg_true]
          rw [if_pos hx0] at hmul
          have : y ≤ r := near_le_of h3 (by
            rw [hr2, ← Nat.mul_assoc]
            exact Nat.mul_le_mul_right _ (by omega))
          omega
        · rw [show decide (s < 0) = false from by simpa using hs, sg_false]
          rcases Int.lt_or_le x 0 with h5 | h5
          · rw [decide_eq_true h5, sg_true]; omega
          · rw [show decide (x < 0) = false from by simpa using h5, sg_false]
            rw [if_neg (by omega)] at hmul
            have : r ≤ y := near_ge_of h3 (by
              rw [hr2, ← Nat.mul_assoc]
              exact Nat.mul_le_mul_right _ (by omega)) (Nat.le_of_lt hr1)
            omega
      · intro h
        rw [q1, u1]
        rcases Int.lt_or_le s 0 with hs | hs
        · rw [decide_eq_true hs, sg_true]
          rcases Int.lt_or_le x 0 with h5 | h5
          · rw [decide_eq_true h5, sg_true]
            rw [if_pos h5] at hmul
            have : r ≤ y := near_ge_of h3 (by
              rw [hr2, ← Nat.mul_assoc]
              exact Nat.mul_le_mul_right _ (by omega)) (Nat.le_of_lt hr1)
            omega
          · rw [show decide (x < 0) = false from by simpa using h5, sg_false]; omega
        · have hx0 : 0 ≤ x := by
            rcases Int.lt_or_le x 0 with h5 | h5
            · have := Int.mul_neg_of_pos_of_neg (show 0 < k by omega) h5
              omega
            · exact h5
          rw [show decide (s < 0) = false from by simpa using hs, show decide (x < 0) = false from by simpa using hx0, sg_false, sg_false]
          rw [if_neg (by omega)] at hmul
          have : y ≤ r := near_le_of h3 (by
            rw [hr2, ← Nat.mul_assoc]
            exact Nat.mul_le_mul_right _ (by omega))
          omega
theorem IsRoot.le {N D z : Nat} (h : IsRoot N D z) : z ≤ INF := by
  obtain ⟨t, mm, -, -, -, rfl⟩ := h
  exact Nat.min_le_right _ _
theorem pp_big {K : Nat} (h : 27 ≤ K) : 18014398509481984 ≤ 2 ^ K * 2 ^ K := by
  have h1 : 2 ^ 27 ≤ 2 ^ K := Nat.pow_le_pow_right (by decide) h
  have h2 := Nat.mul_le_mul h1 h1
  omega
/-- the deviation -/
theorem dev_vs {k s m M S : Int} {T z : Nat} (h : Stat k s m M S) (hS : S = (T : Int)) (hk : k ≤ 10000) (hd : M - m ≤ 9007199254740992) (hz : IsDev k s T z) :
    z ≤ INF ∧ (z = 0 ↔ m = M) ∧ floatOfInt .f64 (M - m) ≤ INF ∧ z ≤ floatOfInt .f64 (M - m) := by
  have hk1 := h.k1
  have hmM := h.mM
  obtain ⟨r, hr0, hr1, hr2⟩ := int_word_any (x := M - m) (by omega)
  rw [show decide (M - m < 0) = false from by simp; omega, sgnW_no] at hr0
  rw [hr0]
  obtain ⟨hzl, hz⟩ := hz
  rw [← hS] at hz
  have hp0 := h.p0
  rcases hz with ⟨h1, -⟩ | ⟨-, -, -, hz⟩
  · rcases h1 with h1 | h1 <;> omega
  · have hkn : k.toNat * k.toNat ≠ 0 := by
      have := Nat.mul_pos (show 0 < k.toNat by omega) (show 0 < k.toNat by omega)
      omega
    obtain ⟨p, hp⟩ : ∃ p : Nat, k * S - s * s = (p : Int) := ⟨(k * S - s * s).toNat, by omega⟩
    rw [hp, Int.toNat_natCast] at hz
    rcases hz with ⟨-, h2, -⟩ | ⟨-, h2, -⟩ | ⟨h2, -, h3⟩ | ⟨h2, -, h3⟩
    · exact absurd h2 hkn
    · exact absurd h2 hkn
    · subst h3
      refine ⟨by decide, ⟨fun _ => ?_, fun _ => rfl⟩, by omega, Nat.zero_le _⟩
      rcases Int.lt_or_le m M with h4 | h4
      · have := h.ne h4
        omega
      · omega
    · have hp1 : 1 ≤ p := by omega
      have hkk : k.toNat * k.toNat ≤ 10000 * 10000 := Nat.mul_le_mul (by omega) (by omega)
      have hzp : 0 < z := root_pos h3 (by
        have e1 : 1 * (2 ^ K1074 * 2 ^ K1074) ≤ p * (2 ^ K1074 * 2 ^ K1074) := Nat.mul_le_mul_right _ hp1
        have e2 := pp_big (K := K1074) (by decide)
        generalize 2 ^ K1074 * 2 ^ K1074 = W at *
        omega)
      have hzI : z ≤ INF := h3.le
      refine ⟨hzI, ⟨fun h4 => by omega, fun h4 => ?_⟩, by omega, ?_⟩
      · have := h.eq h4
        omega
      · refine root_le_of h3 ?_
        have hdv := h.dev
        rw [hp] at hdv
        rw [hr2]
        have e1 : k.toNat * k.toNat * ((M - m).natAbs * 2 ^ K1074 * ((M - m).natAbs * 2 ^ K1074)) = k.toNat * k.toNat * ((M - m).natAbs * (M - m).natAbs) * (2 ^ K1074 * 2 ^ K1074) := by
          generalize 2 ^ K1074 = W
          ac_rfl
        rw [e1]
        refine Nat.mul_le_mul_right _ ?_
        have e2 : ((k.toNat * k.toNat * ((M - m).natAbs * (M - m).natAbs) : Nat) : Int) = k * k * ((M - m) * (M - m)) := by
          rw [Int.natCast_mul, Int.natCast_mul, sq_abs, show ((k.toNat : Nat) : Int) = k from by omega]
        omega
end Go.Proofs.Ytfanjmgbkmdmfaa
