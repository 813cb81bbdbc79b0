/- The chapter's examples of ratio: bushellaw04.awake. No conditions. -/
import Derived.Test.YtfanjmgbkmdmfaaRatK
import Derived.Test.YtfanjmgbkmdmfaaRatG
namespace Go.Proofs.Ytfanjmgbkmdmfaa
open Go.RowKit Ieee

theorem near_ex {p q t k K : Nat} (hK : K = t + k) (hq : 0 < q) (h1 : p * 2 ^ k < q * 9007199254740992) (h2 : t = 0 ∨ q * 4503599627370496 ≤ p * 2 ^ k) : IsNear (p * 2 ^ K) q (min (t * B52 + rne (p * 2 ^ k) q) INF) := by
  have e1 : p * 2 ^ K = p * 2 ^ k * 2 ^ t := by rw [hK, Nat.pow_add]; ac_rfl
  refine ⟨t, ⟨hq, ?_, ?_⟩, ?_⟩
  · rw [e1, Nat.add_comm t, Nat.pow_add 2 53, ← Nat.mul_assoc]
    exact Nat.mul_lt_mul_of_pos_right h1 (Nat.two_pow_pos t)
  · rcases h2 with h2 | h2
    · exact .inl h2
    · right
      rw [e1, Nat.add_comm t, Nat.pow_add 2 52, ← Nat.mul_assoc]
      exact Nat.mul_le_mul_right _ h2
  · rw [e1, rne_scale (Nat.two_pow_pos t)]
/-- a root that comes out -/
theorem root_ex {r q t k K : Nat} (hK : K = t + k) (hq : 0 < q) (h1 : r * 2 ^ k < 9007199254740992) (h2 : t = 0 ∨ 4503599627370496 ≤ r * 2 ^ k) : IsRoot (r * r * q * (2 ^ K * 2 ^ K)) q (min (t * B52 + r * 2 ^ k) INF) := by
  have e1 : r * r * q * (2 ^ K * 2 ^ K) = q * (r * 2 ^ k * 2 ^ t * (r * 2 ^ k * 2 ^ t)) := by rw [hK, Nat.pow_add]; ac_rfl
  have hpt := Nat.two_pow_pos t
  rw [e1]
  generalize r * 2 ^ k = m at *
  have hup : upR (q * (m * 2 ^ t * (m * 2 ^ t))) q t m = false := by
    unfold upR
    have e2 : 4 * (q * (m * 2 ^ t * (m * 2 ^ t))) = q * (2 * m * 2 ^ t * (2 * m * 2 ^ t)) := by
      rw [show (4 : Nat) = 2 * 2 from rfl]; ac_rfl
    have h3 : 2 * m * 2 ^ t * (2 * m * 2 ^ t) < (2 * m + 1) * 2 ^ t * ((2 * m + 1) * 2 ^ t) := sq_lt.2 (Nat.mul_lt_mul_of_pos_right (by omega) hpt)
    have h4 := Nat.mul_lt_mul_of_pos_left h3 hq
    rw [e2, show decide (q * ((2 * m + 1) * 2 ^ t * ((2 * m + 1) * 2 ^ t)) < q * (2 * m * 2 ^ t * (2 * m * 2 ^ t))) = false from by simp only [decide_eq_false_iff_not]; omega,
      show decide (q * ((2 * m + 1) * 2 ^ t * ((2 * m + 1) * 2 ^ t)) = q * (2 * m * 2 ^ t * (2 * m * 2 ^ t))) = false from by simp only [decide_eq_false_iff_not]; omega]
    rfl
  refine ⟨t, m, ⟨hq, ?_, ?_⟩, Nat.le_refl _, ?_, ?_⟩
  · refine Nat.mul_lt_mul_of_pos_left (sq_lt.2 ?_) hq
    rw [Nat.add_comm t, Nat.pow_add 2 53]
    exact Nat.mul_lt_mul_of_pos_right h1 hpt
  · rcases h2 with h2 | h2
    · exact .inl h2
    · right
      refine Nat.mul_le_mul_left _ (sq_le.2 ?_)
      rw [Nat.add_comm t, Nat.pow_add 2 52]
      exact Nat.mul_le_mul_right _ h2
  · exact Nat.mul_lt_mul_of_pos_left (sq_lt.2 (Nat.mul_lt_mul_of_pos_right (by omega) hpt)) hq
  · rw [hup]; rfl
theorem third {z : Nat} (h : IsQuot false 1 3 z) : z = 4599676419421066581 := by
  obtain ⟨-, h⟩ := h
  rcases h with ⟨h1, -, -⟩ | ⟨-, h1, -⟩ | ⟨h1, -, -⟩ | ⟨-, -, y, h3, h4⟩
  · omega
  · omega
  · omega
  · rw [sgnW_no] at h4
    rw [h4, h3.one (near_ex (t := 1020) (k := 54) (by decide) (by decide) (by decide) (.inr (by decide)))]
    decide
theorem half3 {z : Nat} (h : IsMean (-3) 2 z) : z = 13832806255468478464 := by
  rcases h with ⟨h1, -, -⟩ | ⟨-, -, h⟩
  · omega
  · rcases h with ⟨h1, -, -⟩ | ⟨-, h1, -⟩ | ⟨h1, -, -⟩ | ⟨-, -, y, h3, h4⟩
    · exact absurd h1 (by decide)
    · exact absurd h1 (by decide)
    · exact absurd h1 (by decide)
    · rw [show ((-3 : Int)).natAbs = 3 from rfl, show ((2 : Int)).natAbs = 2 from rfl] at h3
      rw [h4, IsNear.one (D := 2) (N := 3 * 2 ^ K1074) h3 (near_ex (t := 1022) (k := 52) (by decide) (by decide) (by decide) (.inr (by decide)))]
      decide
theorem mean00 {z : Nat} (h : IsMean 0 0 z) : kindZ z = 3 := by
  rcases h with ⟨-, h1, -⟩ | ⟨-, -, h⟩
  · exact absurd rfl h1
  · rcases h with ⟨-, -, h1⟩ | ⟨h1, -, -⟩ | ⟨-, h1, -⟩ | ⟨h1, -, -⟩
    · exact kind3.2 h1
    · exact absurd rfl h1
    · exact absurd rfl h1
    · exact absurd rfl h1
theorem dev1 {z : Nat} (h : IsDev 2 4 10 z) : z = 4607182418800017408 := by
  obtain ⟨-, h⟩ := h
  rcases h with ⟨h1, -⟩ | ⟨-, -, -, h⟩
  · rcases h1 with h1 | h1 <;> exact absurd h1 (by decide)
  · rcases h with ⟨h1, -, -⟩ | ⟨-, h1, -⟩ | ⟨h1, -, -⟩ | ⟨-, -, h3⟩
    · exact absurd h1 (by decide)
    · exact absurd h1 (by decide)
    · exact absurd h1 (by decide)
    · rw [show ((2 : Int) * ((10 : Nat) : Int) - 4 * 4).toNat = 1 * 1 * 4 from by decide, show ((2 : Int)).toNat * ((2 : Int)).toNat = 4 from by decide] at h3
      rw [IsRoot.one (D := 4) (N := 1 * 1 * 4 * (2 ^ K1074 * 2 ^ K1074)) h3 (root_ex (t := 1022) (k := 52) (by decide) (by decide) (by decide) (.inr (by decide)))]
      decide
theorem dig_1 {x : Int} (h0 : 0 ≤ x) (h1 : x < 4294967296) : Dig 4294967296 [x] := by
  intro d hd
  simp at hd
  omega

set_option maxHeartbeats 4000000 in
theorem awake_rat (w : World) : Calls Try.prog 12 #[] w fun e w' => e = .returned (.bool true) ∧ Below w.heap.size w w' := by
  have hq0 : floatBits .quo .f64 4607182418800017408 4613937818241073152 = some 4599676419421066581 := by decide
  have hq := fun w => run_float_arith (P := Try.prog) w .quo 25 .f64 _ _ _ hq0
  have ho1 : FloatKind.f64.format.order 4599676419421066581 4599676419421066581 = some .eq := by decide
  have ho2 : FloatKind.f64.format.order 4607182418800017408 4607182418800017408 = some .eq := by decide
  have ho3 : FloatKind.f64.format.order 13832806255468478464 13832806255468478464 = some .eq := by decide
  have HM1 := Lib.hid (fun w => fmean_any (-3) 2 w (by decide) (by decide) (by decide) (by decide))
  have HM0 := Lib.hid (fun w => fmean_any 0 0 w (by decide) (by decide) (by decide) (by decide))
  clear hq0
  go_enter Try.func12, Try.ntmps12
  go_wp2_with fail
  have a1 : Arr .u32 74 (w.alloc (.cells #[.int .u32 1] 74)) w.heap.size [1] := Arr.new [1] rfl rfl
  have hb1 : Below w.heap.size w (w.alloc (.cells #[.int .u32 1] 74)) := (Below.refl _ _).alloc (Nat.le_refl _) _
  have a2 : Arr .u32 74 ((w.alloc (.cells #[.int .u32 1] 74)).alloc (.cells #[.int .u32 3] 74)) (w.heap.size + 1) [3] := Arr.new [3] rfl (by simp)
  have hb2 : Below w.heap.size w ((w.alloc (.cells #[.int .u32 1] 74)).alloc (.cells #[.int .u32 3] 74)) := hb1.alloc (by simp) _
  have a1' : Arr .u32 74 ((w.alloc (.cells #[.int .u32 1] 74)).alloc (.cells #[.int .u32 3] 74)) w.heap.size [1] := a1.below ((Below.refl _ _).alloc (Nat.le_refl _) _) (by simp)
  have HQ := Lib.hid (fquot_any false _ _ 1 1 1 1 1 3 2 [1] [3] _ (a1'.full (by decide)) (a2.full (by decide)) (dig_1 (by decide) (by decide)) (dig_1 (by decide) (by decide)) (by decide) (by decide) (by decide) (by decide) (by decide) (by decide) (by decide))
  have HB2 := Lib.hid hb2
  clear a1 a2 a1' hb1 hb2
  generalize ((w.alloc (.cells #[.int .u32 1] 74)).alloc (.cells #[.int .u32 3] 74)) = w2 at *
  refine HQ.out.mono ?_; rintro x w3 ⟨z, rfl, hz, hb3⟩
  obtain rfl := third hz
  have HB3 := Lib.hid (HB2.out.trans (hb3.mono HB2.out.size))
  clear hz hb3
  go_wp2_with fail
  have a1 : Arr .u32 74 (w3.alloc (.cells #[.int .u32 10] 74)) w3.heap.size [10] := Arr.new [10] rfl rfl
  have hb4 : Below w3.heap.size w3 (w3.alloc (.cells #[.int .u32 10] 74)) := (Below.refl _ _).alloc (Nat.le_refl _) _
  have HD := Lib.hid (fdev_any 2 4 _ 1 1 10 4 [10] _ (a1.full (by decide)) (dig_1 (by decide) (by decide)) (by decide) (by decide) (by decide) (by decide) (by decide) (by decide) (by decide) (by decide))
  have HB4 := Lib.hid (HB3.out.trans (hb4.mono HB3.out.size))
  clear a1 hb4
  generalize w3.alloc (.cells #[.int .u32 10] 74) = w4 at *
  refine HD.out.mono ?_; rintro x w5 ⟨z, rfl, hz, hb5⟩
  obtain rfl := dev1 hz
  have HB5 := Lib.hid (HB4.out.trans (hb5.mono HB4.out.size))
  clear hz hb5
  go_wp2_with fail
  refine (HM1.out _).mono ?_; rintro x w6 ⟨z, rfl, hz, hb6⟩
  obtain rfl := half3 hz
  have HB6 := Lib.hid (HB5.out.trans (hb6.mono HB5.out.size))
  clear hz hb6
  go_wp2_with fail
  refine (HM0.out _).mono ?_; rintro x w7 ⟨z, rfl, hz, hb7⟩
  have HK := Lib.hid (fun w => rkind_any z w hz.lt)
  rw [mean00 hz] at HK
  have HB7 := Lib.hid (HB6.out.trans (hb7.mono HB6.out.size))
  clear hz hb7
  go_wp2_with fail
  refine (HK.out _).mono ?_; rintro x w8 ⟨rfl, hb8⟩
  have HB8 := Lib.hid (HB7.out.trans (hb8.mono HB7.out.size))
  clear hb8
  go_wp2_with fail
  go_ret
  exact ⟨rfl, HB8.out⟩
end Go.Proofs.Ytfanjmgbkmdmfaa
