/- The nearest number to a quotient, and to a root of one, keeps the order. No conditions. -/
import Derived.Test.YtgdddpbdcdheeaaMRat1
namespace Go.Proofs.Ytgdddpbdcdheeaa
open Go.RowKit Ieee

theorem iv_dvd {r t : Nat} (h : t = 0 ∨ B52 * 2 ^ t ≤ iv r) : ∃ e, iv r = e * 2 ^ t := by
  rcases h with h | h
  · subst h; exact ⟨iv r, by rw [Nat.pow_zero, Nat.mul_one]⟩
  · have h1 : mg r * 2 ^ sh r < B52 * 2 ^ (sh r + 1) := by
      have h2 := mg_lt r
      have h3 : mg r * 2 ^ sh r < 2 * B52 * 2 ^ sh r := Nat.mul_lt_mul_of_pos_right h2 (Nat.two_pow_pos _)
      rw [Nat.pow_succ]
      have e : B52 * (2 ^ sh r * 2) = 2 * B52 * 2 ^ sh r := by ac_rfl
      omega
    have h2 : B52 * 2 ^ t < B52 * 2 ^ (sh r + 1) := Nat.lt_of_le_of_lt h h1
    have h3 := two_pow_lt (Nat.lt_of_mul_lt_mul_left h2)
    obtain ⟨d, hd⟩ : ∃ d, sh r = d + t := ⟨sh r - t, by omega⟩
    refine ⟨mg r * 2 ^ d, ?_⟩
    unfold iv
    rw [hd, Nat.pow_add, Nat.mul_assoc]
theorem b52_pow (t : Nat) : B52 * 2 ^ t = 2 ^ (t + 52) := by rw [Nat.add_comm, Nat.pow_add]
theorem near_le_of {N D y r : Nat} (h : IsNear N D y) (hr : N ≤ D * iv r) : y ≤ r := by
  obtain ⟨t, ht, rfl⟩ := h
  refine Nat.le_trans (Nat.min_le_left _ _) ?_
  have hdv : t = 0 ∨ B52 * 2 ^ t ≤ iv r := by
    rcases ht.lo with h | h
    · exact .inl h
    · right
      rw [b52_pow]
      exact Nat.le_of_mul_le_mul_left (Nat.le_trans h hr) ht.hD
  obtain ⟨e, he⟩ := iv_dvd hdv
  have hv : rne N (D * 2 ^ t) ≤ e := by
    refine rne_le (Nat.mul_pos ht.hD (Nat.two_pow_pos t)) ?_
    have e1 : e * (D * 2 ^ t) = D * iv r := by rw [he]; ac_rfl
    omega
  refine iv_le_of ?_
  rw [rung_of ht.rne_le (by
    rcases Nat.eq_zero_or_pos t with h | h
    · exact .inl h
    · exact .inr (ht.rne_ge (by omega))), he]
  exact Nat.mul_le_mul_right _ hv
theorem near_ge_of {N D y r : Nat} (h : IsNear N D y) (hr : D * iv r ≤ N) (hI : r ≤ INF) : r ≤ y := by
  obtain ⟨t, ht, rfl⟩ := h
  refine Nat.le_min.2 ⟨?_, hI⟩
  have hv2 : t = 0 ∨ B52 ≤ rne N (D * 2 ^ t) := by
    rcases Nat.eq_zero_or_pos t with h | h
    · exact .inl h
    · exact .inr (ht.rne_ge (by omega))
  refine iv_le_of ?_
  rw [rung_of ht.rne_le hv2]
  rcases Nat.lt_or_ge (iv r) (B52 * 2 ^ t) with h | h
  · rcases hv2 with h1 | h1
    · subst h1
      have : iv r ≤ rne N (D * 2 ^ 0) := by
        refine rne_ge (Nat.mul_pos ht.hD (Nat.two_pow_pos 0)) ?_
        rw [Nat.pow_zero, Nat.mul_one, Nat.mul_comm]
        exact hr
      rw [Nat.pow_zero, Nat.mul_one]
      rw [Nat.pow_zero] at this
      exact this
    · exact Nat.le_trans (Nat.le_of_lt h) (Nat.mul_le_mul_right _ h1)
  · obtain ⟨e, he⟩ := iv_dvd (.inr h)
    rw [he]
    refine Nat.mul_le_mul_right _ (rne_ge (Nat.mul_pos ht.hD (Nat.two_pow_pos t)) ?_)
    have e1 : e * (D * 2 ^ t) = D * iv r := by rw [he]; ac_rfl
    omega
theorem root_le_of {N D z r : Nat} (h : IsRoot N D z) (hr : N ≤ D * (iv r * iv r)) : z ≤ r := by
  obtain ⟨t, m, ht, h1, h2, rfl⟩ := h
  refine Nat.le_trans (Nat.min_le_left _ _) ?_
  have hdv : t = 0 ∨ B52 * 2 ^ t ≤ iv r := by
    rcases ht.lo with h | h
    · exact .inl h
    · right
      rw [b52_pow]
      exact sq_le.1 (Nat.le_of_mul_le_mul_left (Nat.le_trans h hr) ht.hD)
  obtain ⟨e, he⟩ := iv_dvd hdv
  rw [he] at hr
  have hme : m ≤ e := by
    have h3 := sq_le.1 (Nat.le_of_mul_le_mul_left (Nat.le_trans h1 hr) ht.hD)
    exact Nat.le_of_mul_le_mul_right h3 (Nat.two_pow_pos t)
  have hve : m + (upR N D t m).toNat ≤ e := by
    rcases Nat.lt_or_ge m e with h3 | h3
    · have : (upR N D t m).toNat ≤ 1 := by cases upR N D t m <;> decide
      omega
    · obtain rfl : m = e := by omega
      have hup : upR N D t m = false := by
        unfold upR
        have e2 : 4 * (D * (m * 2 ^ t * (m * 2 ^ t))) = D * (2 * m * 2 ^ t * (2 * m * 2 ^ t)) := by
          rw [show (4 : Nat) = 2 * 2 from rfl]; ac_rfl
        have h4 : 2 * m * 2 ^ t * (2 * m * 2 ^ t) < (2 * m + 1) * 2 ^ t * ((2 * m + 1) * 2 ^ t) := sq_lt.2 (Nat.mul_lt_mul_of_pos_right (by omega) (Nat.two_pow_pos t))
        have h5 := Nat.mul_lt_mul_of_pos_left h4 ht.hD
        have h6 : 4 * N ≤ 4 * (D * (m * 2 ^ t * (m * 2 ^ t))) := Nat.mul_le_mul_left _ hr
        rw [e2] at h6
        rw [show decide (D * ((2 * m + 1) * 2 ^ t * ((2 * m + 1) * 2 ^ t)) < 4 * N) = false from by simp only [decide_eq_false_iff_not]; omega,
          show decide (D * ((2 * m + 1) * 2 ^ t * ((2 * m + 1) * 2 ^ t)) = 4 * N) = false from by simp only [decide_eq_false_iff_not]; omega]
        rfl
      rw [hup]
      exact Nat.le_refl _
  have hm53 : m < 2 * B52 := by
    have h3 := Nat.lt_of_le_of_lt h1 ht.hi
    have h4 := sq_lt.1 (Nat.lt_of_mul_lt_mul_left h3)
    rw [Nat.add_comm, Nat.pow_add 2 53] at h4
    exact Nat.lt_of_mul_lt_mul_right h4
  have hlo : t = 0 ∨ B52 ≤ m := by
    rcases ht.lo with h | h
    · exact .inl h
    · right
      rw [← b52_pow] at h
      exact root_floor_le h h2
  have hu1 : (upR N D t m).toNat ≤ 1 := by cases upR N D t m <;> decide
  refine iv_le_of ?_
  rw [rung_of (by omega) (by
    rcases hlo with h | h
    · exact .inl h
    · right; omega), he]
  exact Nat.mul_le_mul_right _ hve
theorem root_pos {N D z : Nat} (h : IsRoot N D z) (hN : D ≤ N) : 0 < z := by
  obtain ⟨t, m, ht, h1, h2, rfl⟩ := h
  have hI : 0 < INF := by decide
  refine Nat.lt_min.2 ⟨?_, hI⟩
  rcases Nat.eq_zero_or_pos t with h0 | h0
  · subst h0
    have : 1 ≤ m := by
      refine root_floor_le (t := 0) (m := 1) ?_ h2
      rw [Nat.pow_zero, Nat.mul_one]
      exact hN
    omega
  · have : 1 * B52 ≤ t * B52 := Nat.mul_le_mul_right _ h0
    unfold B52 at *
    omega
/-- the word of a whole number -/
theorem int_word_any {x : Int} (h : x.natAbs ≤ 9007199254740992) : ∃ r, floatOfInt .f64 x = sgnW (decide (x < 0)) r ∧ r < INF ∧ iv r = x.natAbs * 2 ^ K1074 := by
  rcases Nat.eq_zero_or_pos x.natAbs with h0 | h0
  · obtain rfl : x = 0 := by omega
    exact ⟨0, int_float0, by decide, by rw [iv_zero, show ((0 : Int)).natAbs = 0 from rfl, Nat.zero_mul]⟩
  · obtain ⟨E, F, e1, e2, e3, e4, e5⟩ := int_word h0 h
    have hrI : E * 4503599627370496 + F < INF := by unfold INF; omega
    refine ⟨E * 4503599627370496 + F, ?_, hrI, e5⟩
    rcases Int.lt_or_le x 0 with hx | hx
    · rw [decide_eq_true hx]
      show double.nearest (decide (x < 0)) x.natAbs 0 = _
      rw [decide_eq_true hx, nearest_iv (q := E * 4503599627370496 + F) (a := K1074) (b := 0) true h0 (by unfold K1074; omega) (by rw [e5, Nat.pow_zero, Nat.mul_one]), Nat.min_eq_left (by omega), word_neg]
      rfl
    · rw [show decide (x < 0) = false from by simpa using hx, sgnW_no, ← e1]
      congr 1
      omega

/-- what is known of some numbers: how many, their sum, the least, the greatest, the sum of their squares -/
structure Stat (k s m M S : Int) : Prop where
  k1 : 1 ≤ k
  lo : k * m ≤ s
  hi : s ≤ k * M
  mM : m ≤ M
  bd : 0 ≤ (m + M) * s - k * (m * M) - S
  gm : ∀ c : Int, (m - c) * (m - c) ≤ S - 2 * s * c + k * (c * c)
  gM : ∀ c : Int, (M - c) * (M - c) ≤ S - 2 * s * c + k * (c * c)
  p0 : 0 ≤ k * S - s * s
  eq : m = M → k * S - s * s = 0
  ne : m < M → 0 < k * S - s * s
theorem sq_nn (x : Int) : 0 ≤ x * x := by
  rcases Int.le_total 0 x with h | h
  · exact Int.mul_nonneg h h
  · exact Int.mul_nonneg_of_nonpos_of_nonpos h h
theorem Stat.one (x : Int) : Stat 1 x x x (x * x) := by
  refine ⟨by omega, by omega, by omega, by omega, ?_, ?_, ?_, by omega, fun _ => by omega, fun h => by omega⟩
  · rw [Int.add_mul]; omega
  · intro c
    have e : (x - c) * (x - c) = x * x - 2 * x * c + 1 * (c * c) := by rw [Int.sub_mul, Int.mul_sub, Int.mul_sub, Int.mul_comm c x, Int.mul_assoc 2 x c]; omega
    omega
  · intro c
    have e : (x - c) * (x - c) = x * x - 2 * x * c + 1 * (c * c) := by rw [Int.sub_mul, Int.mul_sub, Int.mul_sub, Int.mul_comm c x, Int.mul_assoc 2 x c]; omega
    omega
theorem stat_sq (x c : Int) : (x - c) * (x - c) = x * x - 2 * x * c + c * c := by
  rw [Int.sub_mul, Int.mul_sub, Int.mul_sub, Int.mul_comm c x, Int.mul_assoc 2 x c]; omega
theorem Stat.next {k s m M S : Int} (h : Stat k s m M S) (x : Int) : Stat (k + 1) (s + x) (min m x) (max M x) (S + x * x) := by
  obtain ⟨k1, lo, hi, mM, bd, gm, gM, p0, heq, hne⟩ := h
  have kx : (k + 1) * x = k * x + x := by rw [Int.add_mul]; omega
  have km : (k + 1) * m = k * m + m := by rw [Int.add_mul]; omega
  have kM : (k + 1) * M = k * M + M := by rw [Int.add_mul]; omega
  have hp : (k + 1) * (S + x * x) - (s + x) * (s + x) = k * S - s * s + (S - 2 * s * x + k * (x * x)) := by
    have e1 : (k + 1) * (S + x * x) = k * S + k * (x * x) + S + x * x := by rw [Int.add_mul, Int.mul_add]; omega
    have e2 : (s + x) * (s + x) = s * s + 2 * s * x + x * x := by rw [Int.add_mul, Int.mul_add, Int.mul_add, Int.mul_comm x s, Int.mul_assoc 2 s x]; omega
    omega
  have hg0 := Int.le_trans (sq_nn (m - x)) (gm x)
  have step : ∀ c : Int, S + x * x - 2 * (s + x) * c + (k + 1) * (c * c) = S - 2 * s * c + k * (c * c) + (x - c) * (x - c) := fun c => by
    have e1 : 2 * (s + x) * c = 2 * s * c + 2 * x * c := by rw [Int.mul_add, Int.add_mul]
    have e2 : (k + 1) * (c * c) = k * (c * c) + c * c := by rw [Int.add_mul]; omega
    have e3 := stat_sq x c
    omega
  refine ⟨by omega, ?_, ?_, by omega, ?_, ?_, ?_, by omega, ?_, ?_⟩
  · -- the least
    rcases Int.le_total m x with h | h
    · rw [Int.min_eq_left h]; omega
    · rw [Int.min_eq_right h]
      have : k * x ≤ k * m := Int.mul_le_mul_of_nonneg_left h (by omega)
      omega
  · rcases Int.le_total M x with h | h
    · rw [Int.max_eq_right h]
      have : k * M ≤ k * x := Int.mul_le_mul_of_nonneg_left h (by omega)
      omega
    · rw [Int.max_eq_left h]; omega
  · -- the sum of (x - m)(M - x)
    rcases Int.le_total m x with h | h <;> rcases Int.le_total M x with h' | h'
    · rw [Int.min_eq_left h, Int.max_eq_right h']
      have e1 : (m + x) * (s + x) - (k + 1) * (m * x) - (S + x * x) = (m + M) * s - k * (m * M) - S + (x - M) * (s - k * m) := by
        have a1 : (m + x) * (s + x) = m * s + m * x + x * s + x * x := by rw [Int.add_mul, Int.mul_add, Int.mul_add]; omega
        have a2 : (k + 1) * (m * x) = k * (m * x) + m * x := by rw [Int.add_mul]; omega
        have a3 : (m + M) * s = m * s + M * s := Int.add_mul _ _ _
        have a4 : (x - M) * (s - k * m) = x * s - k * (m * x) - M * s + k * (m * M) := by
          rw [Int.sub_mul, Int.mul_sub, Int.mul_sub, show x * (k * m) = k * (m * x) from by rw [Int.mul_left_comm, Int.mul_comm x m], show M * (k * m) = k * (m * M) from by rw [Int.mul_left_comm, Int.mul_comm M m]]
          omega
        omega
      have := Int.mul_nonneg (show 0 ≤ x - M by omega) (show 0 ≤ s - k * m by omega)
      omega
    · rw [Int.min_eq_left h, Int.max_eq_left h']
      have e1 : (m + M) * (s + x) - (k + 1) * (m * M) - (S + x * x) = (m + M) * s - k * (m * M) - S + (x - m) * (M - x) := by
        have a1 : (m + M) * (s + x) = (m + M) * s + m * x + M * x := by rw [Int.mul_add, Int.add_mul m M x]; omega
        have a2 : (k + 1) * (m * M) = k * (m * M) + m * M := by rw [Int.add_mul]; omega
        have a4 : (x - m) * (M - x) = M * x - x * x - m * M + m * x := by
          rw [Int.sub_mul, Int.mul_sub, Int.mul_sub, Int.mul_comm x M]
          omega
        omega
      have := Int.mul_nonneg (show 0 ≤ x - m by omega) (show 0 ≤ M - x by omega)
      omega
    · have hxm : x = m := by omega
      have hxM : x = M := by omega
      rw [Int.min_eq_right h, Int.max_eq_right h']
      subst hxm
      subst hxM
      have a1 : (x + x) * (s + x) = (x + x) * s + x * x + x * x := by rw [Int.mul_add, Int.add_mul x x x]; omega
      have a2 : (k + 1) * (x * x) = k * (x * x) + x * x := by rw [Int.add_mul]; omega
      omega
    · rw [Int.min_eq_right h, Int.max_eq_left h']
      have e1 : (x + M) * (s + x) - (k + 1) * (x * M) - (S + x * x) = (m + M) * s - k * (m * M) - S + (m - x) * (k * M - s) := by
        have a1 : (x + M) * (s + x) = x * s + x * x + M * s + x * M := by rw [Int.add_mul, Int.mul_add, Int.mul_add, Int.mul_comm M x]; omega
        have a2 : (k + 1) * (x * M) = k * (x * M) + x * M := by rw [Int.add_mul]; omega
        have a3 : (m + M) * s = m * s + M * s := Int.add_mul _ _ _
        have a4 : (m - x) * (k * M - s) = k * (m * M) - m * s - k * (x * M) + x * s := by
          rw [Int.sub_mul, Int.mul_sub, Int.mul_sub, show m * (k * M) = k * (m * M) from Int.mul_left_comm _ _ _, show x * (k * M) = k * (x * M) from Int.mul_left_comm _ _ _]
          omega
        omega
      have := Int.mul_nonneg (show 0 ≤ m - x by omega) (show 0 ≤ k * M - s by omega)
      omega
  · intro c
    rw [step c]
    have h1 := gm c
    have h2 := sq_nn (x - c)
    have h3 := Int.le_trans (sq_nn (m - c)) h1
    rcases Int.le_total m x with h | h
    · rw [Int.min_eq_left h]; omega
    · rw [Int.min_eq_right h]; omega
  · intro c
    rw [step c]
    have h1 := gM c
    have h2 := sq_nn (x - c)
    have h3 := Int.le_trans (sq_nn (M - c)) h1
    rcases Int.le_total M x with h | h
    · rw [Int.max_eq_right h]; omega
    · rw [Int.max_eq_left h]; omega
  · intro h
    have hxm : m = M := by omega
    have hx : x = m := by omega
    have h0 := heq hxm
    rw [hp]
    subst hx
    subst hxm
    -- all are the same: S = k x x, s = k x
    have hs : s = k * x := by omega
    have h1 : (x + x) * s - k * (x * x) - S = k * (x * x) - S := by
      rw [Int.add_mul, hs, show x * (k * x) = k * (x * x) from Int.mul_left_comm _ _ _]
      omega
    have h2 : 2 * s * x = 2 * (k * (x * x)) := by rw [hs, Int.mul_assoc, Int.mul_assoc]
    have h3 := gm x
    have h4 : (x - x) * (x - x) = 0 := by rw [Int.sub_self]; rfl
    omega
  · intro h
    rw [hp]
    rcases Int.lt_or_le m M with h1 | h1
    · have := hne h1
      omega
    · have hmM : m = M := by omega
      have h0 := heq hmM
      have hmx : m ≠ x := by omega
      have h2 := gm x
      have h3 : 0 < (m - x) * (m - x) := by
        rcases Int.lt_or_le m x with h4 | h4
        · exact Int.mul_pos_of_neg_of_neg (by omega) (by omega)
        · exact Int.mul_pos (by omega) (by omega)
      omega
theorem Stat.dev {k s m M S : Int} (h : Stat k s m M S) : k * S - s * s ≤ k * k * ((M - m) * (M - m)) := by
  obtain ⟨k1, lo, hi, mM, bd, -, -, -, -, -⟩ := h
  have h1 : k * S ≤ k * ((m + M) * s - k * (m * M)) := Int.mul_le_mul_of_nonneg_left (by omega) (by omega)
  have e1 : k * ((m + M) * s - k * (m * M)) - s * s = (s - k * m) * (k * M - s) := by
    rw [Int.sub_mul, Int.mul_sub, Int.mul_sub, Int.mul_sub, Int.add_mul, Int.mul_add]
    rw [show k * (m * s) = k * m * s from (Int.mul_assoc _ _ _).symm, show k * (M * s) = s * (k * M) from by rw [← Int.mul_assoc, Int.mul_comm], show k * (k * (m * M)) = k * m * (k * M) from by rw [show k * m * (k * M) = k * (m * (k * M)) from Int.mul_assoc _ _ _, show m * (k * M) = k * (m * M) from Int.mul_left_comm _ _ _]]
    omega
  have e2 : k * k * ((M - m) * (M - m)) = (k * (M - m)) * (k * (M - m)) := by
    rw [show k * (M - m) * (k * (M - m)) = k * ((M - m) * (k * (M - m))) from Int.mul_assoc _ _ _, show (M - m) * (k * (M - m)) = k * ((M - m) * (M - m)) from Int.mul_left_comm _ _ _, Int.mul_assoc]
  have e3 : k * (M - m) = (k * M - s) + (s - k * m) := by rw [Int.mul_sub]; omega
  rw [e2, e3]
  have a := show 0 ≤ k * M - s by omega
  have b := show 0 ≤ s - k * m by omega
  have h2 : (s - k * m) * (k * M - s) ≤ (k * M - s + (s - k * m)) * (k * M - s + (s - k * m)) := Int.mul_le_mul (by omega) (by omega) a (by omega)
  omega
end Go.Proofs.Ytgdddpbdcdheeaa
