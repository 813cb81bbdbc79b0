/- The chapter's examples of exact: bushellaw05.awake; the walk of the law ExactNobody. No conditions. -/
import Derived.Test.YtgdddpbdcdheeaaMEx3
namespace Go.Proofs.Ytgdddpbdcdheeaa
open Go.RowKit Ieee

theorem bytes0 {bs : List Int} (h : IsBytes 0 0 bs) : bs = [0, 0, 0] := by
  obtain ⟨xs, l, h1, h2, h3, h4, h5⟩ := h
  have hx : xs = [] := Decidable.byContradiction fun hne => by
    have := (V_pos (B := 4294967296) (by decide) h1 h2).2 hne
    rw [h3] at this
    simp at this
  subst hx
  obtain ⟨k1, -, -⟩ := h4
  have : l = 0 := by simpa using k1
  subst this
  rw [h5]
  rfl
theorem units_one : unitsOf 4607182418800017408 = ((2 ^ K1074 : Nat) : Int) := by
  obtain ⟨t, ht⟩ : ∃ t, t = 1022 := ⟨_, rfl⟩
  have h := rung_of (m := B52) (t := t) (by decide) (.inr (Nat.le_refl _))
  rw [show t * B52 + B52 = 4607182418800017408 from by rw [ht]; decide] at h
  unfold unitsOf
  rw [show decide (S63 ≤ 4607182418800017408) = false from by decide, show 4607182418800017408 % S63 = 4607182418800017408 from by decide, h]
  unfold signU
  rw [if_neg (by decide), show B52 = 2 ^ 52 from by decide, ← Nat.pow_add, show 52 + t = K1074 from by rw [ht]; rfl]
theorem units_53 : unitsOf 4845873199050653696 = ((9007199254740992 * 2 ^ K1074 : Nat) : Int) := by
  unfold unitsOf
  rw [show decide (S63 ≤ 4845873199050653696) = false from by decide, show 4845873199050653696 % S63 = R53 from by decide, iv_r53, show 2 * B52 = 9007199254740992 from by decide]
  unfold signU
  rw [if_neg (by decide)]
theorem units_m53 : unitsOf 14069245235905429504 = -((9007199254740992 * 2 ^ K1074 : Nat) : Int) := by
  unfold unitsOf
  rw [show decide (S63 ≤ 14069245235905429504) = true from by decide, show 14069245235905429504 % S63 = R53 from by decide, iv_r53, show 2 * B52 = 9007199254740992 from by decide]
  unfold signU
  rw [if_pos rfl]
theorem room_54 {p : Nat} (h : p ≤ 18014398509481984) : p * 2 ^ K1074 < ROOM := by
  obtain ⟨k, hk⟩ : ∃ k, k = K1074 := ⟨_, rfl⟩
  rw [room_eq, ← hk]
  have h1 : p * 2 ^ k ≤ 2 ^ 54 * 2 ^ k := Nat.mul_le_mul_right _ h
  rw [← Nat.pow_add] at h1
  refine Nat.lt_of_le_of_lt h1 (Nat.pow_lt_pow_right (by decide) ?_)
  rw [hk]; decide
theorem stepS_1 {b x : Nat} {z : Int} (hk : kindZ x = 1) (h : (z + unitsOf x).natAbs < ROOM) : stepS (b, z) x = (b ||| 16, z + unitsOf x) := by
  unfold stepS addF addZ addOk putZ
  simp only [hk]
  rw [if_pos h, decide_eq_true h]
  rfl
theorem fold_ex : foldS [4845873199050653696, 4607182418800017408, 14069245235905429504] = (16, ((2 ^ K1074 : Nat) : Int)) := by
  have k1 : kindZ 4845873199050653696 = 1 := by decide
  have k2 : kindZ 4607182418800017408 = 1 := by decide
  have k3 : kindZ 14069245235905429504 = 1 := by decide
  have u1 := units_one
  have u2 := units_53
  have u3 := units_m53
  have r1 := room_54 (p := 9007199254740992) (by decide)
  have r2 := room_54 (p := 9007199254740993) (by decide)
  have r3 := room_54 (p := 1) (by decide)
  have e2 : 9007199254740993 * 2 ^ K1074 = 9007199254740992 * 2 ^ K1074 + 1 * 2 ^ K1074 := by rw [← Nat.add_mul]
  rw [Nat.one_mul] at r3 e2
  have s1 : stepS (0, 0) 4845873199050653696 = (16, ((9007199254740992 * 2 ^ K1074 : Nat) : Int)) := by
    rw [stepS_1 k1 (by rw [u2]; generalize 2 ^ K1074 = W at *; omega), u2, Int.zero_add]; rfl
  have s2 : stepS (16, ((9007199254740992 * 2 ^ K1074 : Nat) : Int)) 4607182418800017408 = (16, ((9007199254740993 * 2 ^ K1074 : Nat) : Int)) := by
    rw [stepS_1 k2 (by rw [u1]; generalize 2 ^ K1074 = W at *; omega), u1, ← Int.natCast_add, ← e2]; rfl
  have s3 : stepS (16, ((9007199254740993 * 2 ^ K1074 : Nat) : Int)) 14069245235905429504 = (16, ((2 ^ K1074 : Nat) : Int)) := by
    have e3 : ((9007199254740993 * 2 ^ K1074 : Nat) : Int) + unitsOf 14069245235905429504 = ((2 ^ K1074 : Nat) : Int) := by
      rw [u3]; generalize 2 ^ K1074 = W at *; omega
    rw [stepS_1 k3 (by rw [e3]; generalize 2 ^ K1074 = W at *; omega), e3]; rfl
  show stepS (stepS (stepS (0, 0) _) _) _ = _
  rw [s1, s2, s3]
theorem val_ex {v : Nat} (h : IsVal 16 ((2 ^ K1074 : Nat) : Int) v) : v = 4607182418800017408 := by
  obtain ⟨-, h⟩ := h
  rcases h with ⟨h1, -⟩ | ⟨-, h1, -⟩ | ⟨-, -, h1, -⟩ | ⟨-, -, -, h1⟩
  · rcases h1 with h1 | ⟨h1, -⟩ <;> exact absurd h1 (by decide)
  · exact absurd h1 (by decide)
  · exact absurd h1 (by decide)
  · have hneg : decide (((2 ^ K1074 : Nat) : Int) < 0) = false := by
      have := Int.natCast_nonneg (2 ^ K1074)
      simp only [decide_eq_false_iff_not]
      omega
    rw [hneg, show decide (16 = 8) = false from by decide, Bool.or_false, Int.natAbs_natCast, join_sgn, sgnW_no] at h1
    have h2 := near_is (X := 2 ^ K1074) (A := 0) (B := 0) (e := -1074) (Nat.two_pow_pos _) (by decide)
    rw [Nat.pow_zero, Nat.mul_one] at h2
    have h3 := near_ex (p := 1) (q := 1) (t := 1022) (k := 52) (K := K1074) (by decide) (by decide) (by decide) (.inr (by decide))
    rw [Nat.one_mul] at h3
    rw [h1, h2.one h3]
    decide

set_option maxRecDepth 100000 in
set_option maxHeartbeats 4000000 in
theorem awake_ex (w : World) : Calls Try.prog 12 #[] w fun e w' => e = .returned (.bool true) ∧ Below w.heap.size w w' := by
  have ho : FloatKind.f64.format.order 4607182418800017408 4607182418800017408 = some .eq := by decide
  go_enter Try.func12, Try.ntmps12
  go_wp2_with fail
  refine (sumnew_any w).mono ?_; rintro e w1 ⟨rfl, hs, hb1⟩
  have HBY := Lib.hid (sumbytes_any w1 w.heap.size 0 0 hs room_pos (by decide))
  have HB1 := Lib.hid hb1
  clear hs hb1
  go_wp2_with fail
  refine HBY.out.mono ?_; rintro e w2 ⟨a, n, c, bs, rfl, hr, hbs, hb2, -⟩
  obtain rfl := bytes0 hbs
  obtain ⟨hl, hcap, hmax, hcell⟩ := hr
  obtain rfl : n = 3 := hl.symm
  rcases hcell with h0 | ⟨ba, oa, rfl, hba, hcell⟩
  · omega
  have b0 := hcell 0 (by decide)
  have b1 := hcell 1 (by decide)
  have b2 := hcell 2 (by decide)
  have HB2 := Lib.hid (HB1.out.trans (hb2.mono HB1.out.size))
  clear hbs hb2 hl hcell
  go_wp2_with fail
  have hk := Blk.new w2 33 #[.float .f64 4845873199050653696, .float .f64 4607182418800017408, .float .f64 14069245235905429504]
  have hb3 : Below w2.heap.size w2 (w2.alloc (.cells #[.float .f64 4845873199050653696, .float .f64 4607182418800017408, .float .f64 14069245235905429504] 33)) := (Below.refl _ _).alloc (Nat.le_refl _) _
  have hfr : FRow (w2.alloc (.cells #[.float .f64 4845873199050653696, .float .f64 4607182418800017408, .float .f64 14069245235905429504] 33)) (some ⟨w2.heap.size, 0, none⟩) 3 3 [4845873199050653696, 4607182418800017408, 14069245235905429504] := by
    refine ⟨rfl, Nat.le_refl _, by unfold maxLen; omega, .inr ⟨_, 0, rfl, hk.lt, fun i hi => ?_⟩⟩
    have h6 : i = 0 ∨ i = 1 ∨ i = 2 := by omega
    rcases h6 with rfl | rfl | rfl
    · exact hk.cell 0
    · exact hk.cell 1
    · exact hk.cell 2
  have HTT := Lib.hid (total_any _ _ _ _ _ hfr (by decide))
  rw [fold_ex] at HTT
  have HB3 := Lib.hid (HB2.out.trans (hb3.mono HB2.out.size))
  have hb3' := bcell hb3
  have b0' : (w2.alloc (.cells #[.float .f64 4845873199050653696, .float .f64 4607182418800017408, .float .f64 14069245235905429504] 33)).cell? ⟨ba, oa + 0, none⟩ = some (.int .u8 0) := by rw [hb3'.1 _ _ hba]; exact b0
  have b1' : (w2.alloc (.cells #[.float .f64 4845873199050653696, .float .f64 4607182418800017408, .float .f64 14069245235905429504] 33)).cell? ⟨ba, oa + 1, none⟩ = some (.int .u8 0) := by rw [hb3'.1 _ _ hba]; exact b1
  have b2' : (w2.alloc (.cells #[.float .f64 4845873199050653696, .float .f64 4607182418800017408, .float .f64 14069245235905429504] 33)).cell? ⟨ba, oa + 2, none⟩ = some (.int .u8 0) := by rw [hb3'.1 _ _ hba]; exact b2
  have hba3 : ba < (w2.alloc (.cells #[.float .f64 4845873199050653696, .float .f64 4607182418800017408, .float .f64 14069245235905429504] 33)).heap.size := Nat.lt_of_lt_of_le hba hb3.size
  clear hk hb3 hfr hb3' b0 b1 b2 hba
  generalize (w2.alloc (.cells #[.float .f64 4845873199050653696, .float .f64 4607182418800017408, .float .f64 14069245235905429504] 33)) = w3 at *
  refine HTT.out.mono ?_; rintro e w4 ⟨v, rfl, hv, hb4⟩
  obtain rfl := val_ex hv
  have HB4 := Lib.hid (HB3.out.trans (hb4.mono HB3.out.size))
  have d0 : w4.cell? ⟨ba, oa, none⟩ = some (.int .u8 0) := by rw [(bcell hb4).1 _ _ hba3]; exact b0'
  have d1 : w4.cell? ⟨ba, oa + 1, none⟩ = some (.int .u8 0) := by rw [(bcell hb4).1 _ _ hba3]; exact b1'
  have d2 : w4.cell? ⟨ba, oa + 2, none⟩ = some (.int .u8 0) := by rw [(bcell hb4).1 _ _ hba3]; exact b2'
  clear hv hb4 b0' b1' b2'
  go_wp2_with fail
  go_ret
  exact ⟨rfl, HB4.out⟩
end Go.Proofs.Ytgdddpbdcdheeaa
