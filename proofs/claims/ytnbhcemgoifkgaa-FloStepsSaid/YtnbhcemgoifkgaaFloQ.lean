/- Contracts of package bushelref03's Rank and Key. Conditions: words below 2^64. -/
import Derived.Test.YtnbhcemgoifkgaaFloP
namespace Go.Proofs.Ytnbhcemgoifkgaa
open Go.RowKit Ieee

theorem rank_low {r m : Nat} (h : iv r = m * 2 ^ 0) (hm : m < 4503599627370496) : m = r := by
  rw [Nat.pow_zero, Nat.mul_one] at h
  apply iv_inj
  rw [h]
  unfold iv mg sh B52
  rw [if_pos hm, if_pos hm, Nat.pow_zero, Nat.mul_one]
theorem rank_high {r m k : Nat} (h : iv r = m * 2 ^ k) (h1 : 4503599627370496 ≤ m) (h2 : m < 9007199254740992) : k * 4503599627370496 + m = r := by
  apply iv_inj
  rw [h]
  exact rung_of (m := m) (t := k) (by unfold B52; omega) (.inr h1)

set_option maxRecDepth 100000 in
set_option maxHeartbeats 2000000 in
theorem rrank_any (r : Nat) (w : World) (hr : r ≤ INF) : Calls Try.prog 87 #[.float .f64 r] w fun e w' => e = .returned (.int .u64 (r : Int)) ∧ Below w.heap.size w w' := by
  have hri : r ≤ 9218868437227405312 := hr
  have hrm : r % S63 = r := Nat.mod_eq_of_lt (by unfold S63; omega)
  have hr64 : r < 18446744073709551616 := by omega
  have HK := Lib.hid (rkind_any r w hr64)
  by_cases hI : r = INF
  · have hk : kindZ r = 2 := by rw [hI]; decide
    rw [hk] at HK
    have HI : Hid (r = 9218868437227405312) := Lib.hid hI
    clear hr hri hrm hr64 hI hk
    go_enter Try.func87, Try.ntmps87
    go_wp2_with fail
    refine HK.out.mono ?_; rintro x w1 ⟨rfl, hb1⟩
    have HB1 := Lib.hid hb1
    clear hb1
    go_wp2_with fail
    go_ret
    exact ⟨ret_int (by have := HI.out; omega), HB1.out⟩
  · have hk2 : (kindZ r == 2) = false := by
      have : kindZ r ≠ 2 := by
        unfold kindZ
        rw [hrm, if_neg (by omega), if_neg hI]
        split <;> omega
      simpa using this
    have hz := order_zero hr64 (by rw [hrm]; omega)
    rw [hrm] at hz
    by_cases h0 : r = 0
    · rw [if_pos h0] at hz
      subst h0
      generalize kindZ 0 = kb at *
      clear hr hri hrm hr64 hI
      go_enter Try.func87, Try.ntmps87
      go_wp2_with fail
      refine HK.out.mono ?_; rintro x w1 ⟨rfl, hb1⟩
      have HB1 := Lib.hid hb1
      clear hb1
      go_wp2_with fail
      go_ret
      exact ⟨rfl, HB1.out⟩
    · rw [if_neg h0] at hz
      have hz2 : (FloatKind.f64.format.order r 0 == some .eq) = false := by rw [hz]; split <;> rfl
      have hk1 : kindZ r = 1 := kind1.2 (by rw [hrm]; omega)
      have HSP := Lib.hid (fun w1 => rsplit_any r w1 hr64)
      have HK1 := Lib.hid hk1
      have HRM := Lib.hid hrm
      have HRI : Hid (r < INF) := Lib.hid (by omega)
      rw [hk1] at HK hk2
      clear hr hri hrm hr64 hI hz h0 hk1
      go_enter Try.func87, Try.ntmps87
      go_wp2_with fail
      refine HK.out.mono ?_; rintro x w1 ⟨rfl, hb1⟩
      have HB1 := Lib.hid hb1
      clear hb1
      go_wp2_with fail
      refine (HSP.out w1).mono ?_; rintro x w2 ⟨neg, m, e, rfl, hs, hb2⟩
      have HB2 := Lib.hid (HB1.out.trans (hb2.mono HB1.out.size))
      rcases hs with ⟨h, _⟩ | ⟨_, _, M, k, rfl, rfl, ho⟩
      · exact absurd HK1.out h
      rw [HRM.out] at ho
      have hML := odd_le ho
      have hM0 : 0 < M := by have := ho.2; omega
      have hk3 : k ≤ 3000 := by
        have h2 : iv r < iv INF := iv_lt HRI.out
        rw [ho.1, iv_inf] at h2
        have h3 : 2 ^ k ≤ M * 2 ^ k := Nat.le_mul_of_pos_left _ hM0
        have h4 : B52 * 2 ^ K2046 = 2 ^ (52 + K2046) := by rw [Nat.pow_add]
        rw [h4] at h2
        have h5 := two_pow_lt (Nat.lt_of_le_of_lt h3 h2)
        unfold K2046 at h5
        omega
      have HV := Lib.hid ho.1
      clear ho hb2
      go_wp2_with fail
      go_loop [4, 5] (fun mm x => ∃ m j : Nat, mm = .int .u64 m ∧ x = .int .i64 ((j : Int) - 1074) ∧ iv r = m * 2 ^ j ∧ 0 < m ∧ m < 9007199254740992 ∧ j ≤ 3000) (fun _ x => (intOf x + 1074).toNat)
      case atStart => exact ⟨M, k, rfl, rfl, HV.out, hM0, hML, hk3⟩
      case round =>
        obtain ⟨m, j, rfl, rfl, hv, hm0, hm1, hj⟩ := hrel
        have HV2 := Lib.hid hv
        have hm2 : (m : Int) ≤ 9007199254740991 := by omega
        have hj2 : (j : Int) ≤ 3000 := by omega
        clear hv
        by_cases hlow : m < 4503599627370496
        · have hlow2 : (m : Int) < 4503599627370496 := by omega
          have hd1 : decide ((m : Int) < 4503599627370496) = true := by simpa using hlow2
          by_cases hj0 : j = 0
          · subst hj0
            have HE := Lib.hid (rank_low HV2.out hlow)
            clear hlow hlow2
            go_wp2_with fail
            go_ret
            exact ⟨ret_int (by have := HE.out; omega), HB2.out⟩
          · have hjp : (-1074 : Int) < (j : Int) - 1074 := by omega
            have HN : Hid (iv r = m * 2 * 2 ^ (j - 1)) := Lib.hid (by
              obtain ⟨i, rfl⟩ : ∃ i, j = i + 1 := ⟨j - 1, by omega⟩
              rw [HV2.out, Nat.pow_succ, Nat.add_sub_cancel, Nat.mul_comm (2 ^ i), Nat.mul_assoc])
            have hm3 : m * 2 < 9007199254740992 := by omega
            clear hlow hlow2 hj0
            go_wp2_with fail
            go_round
            case rel => exact ⟨m * 2, j - 1, congrArg (Value.int .u64) (by omega), congrArg (Value.int .i64) (by omega), HN.out, by omega, hm3, by omega⟩
            case measure => simp [intOf]; omega
        · have hd1 : decide ((m : Int) < 4503599627370496) = false := by simp; omega
          have HE := Lib.hid (rank_high HV2.out (by omega) hm1)
          clear hlow
          go_wp2_with fail
          go_ret
          exact ⟨ret_int (by have := HE.out; omega), HB2.out⟩

set_option maxHeartbeats 1000000 in
theorem rkey_any (b : Nat) (w : World) (hb : b < 18446744073709551616) : Calls Try.prog 56 #[.float .f64 b] w fun e w' => e = .returned (.int .u64 (keyN b)) ∧ Below w.heap.size w w' := by
  have HK := Lib.hid (rkind_any b w hb)
  have HL := Lib.hid (fun w => rbelow_any b w hb)
  unfold keyN
  by_cases h1 : INF < b % S63
  · rw [if_pos h1]
    have hk := kind3.2 h1
    rw [hk] at HK
    clear h1 hk hb
    go_enter Try.func56, Try.ntmps56
    go_wp2_with fail
    refine HK.out.mono ?_; rintro x w1 ⟨rfl, hb1⟩
    have HB1 := Lib.hid hb1
    clear hb1
    go_wp2_with fail
    go_ret
    exact ⟨rfl, HB1.out⟩
  · rw [if_neg h1]
    have hk : (kindZ b == 3) = false := by
      have : kindZ b ≠ 3 := fun h => h1 (kind3.1 h)
      simpa using this
    rw [below_num h1] at HL
    generalize kindZ b = kb at *
    by_cases h2 : S63 ≤ b
    · rw [if_pos h2]
      rw [show decide (S63 ≤ b) = true from by simpa using h2] at HL
      have hu := unary_flip hb
      have hfl : flipS b = b % S63 := by unfold flipS; rw [if_neg (by omega)]; unfold S63 at *; omega
      rw [hfl] at hu
      have HR := Lib.hid (fun w => rrank_any (b % S63) w (by omega))
      have hle : b % S63 ≤ 9218868437227405312 := by unfold INF at h1; omega
      generalize b % S63 = r at *
      have hr2 : (r : Int) ≤ 9218868437227405312 := by omega
      clear h1 h2 hb hfl
      go_enter Try.func56, Try.ntmps56
      go_wp2_with fail
      refine HK.out.mono ?_; rintro x w1 ⟨rfl, hb1⟩
      have HB1 := Lib.hid hb1
      clear hb1
      go_wp2_with fail
      refine (HL.out w1).mono ?_; rintro x w2 ⟨rfl, rfl⟩
      go_wp2_with fail
      refine (HR.out w1).mono ?_; rintro x w2 ⟨rfl, hb2⟩
      have HB2 := Lib.hid (HB1.out.trans (hb2.mono HB1.out.size))
      clear hb2
      go_wp2_with fail
      go_ret
      exact ⟨ret_int (by omega), HB2.out⟩
    · rw [if_neg h2]
      rw [show decide (S63 ≤ b) = false from by simpa using h2] at HL
      have hbr : b ≤ INF := by unfold S63 at *; omega
      have HR := Lib.hid (fun w => rrank_any b w hbr)
      have hr2 : (b : Int) ≤ 9218868437227405312 := by unfold INF at hbr; omega
      show Calls _ _ _ _ fun e w' => e = .returned (.int .u64 ((9223372036854775808 + b : Nat) : Int)) ∧ Below w.heap.size w w'
      clear h1 h2 hb hbr
      go_enter Try.func56, Try.ntmps56
      go_wp2_with fail
      refine HK.out.mono ?_; rintro x w1 ⟨rfl, hb1⟩
      have HB1 := Lib.hid hb1
      clear hb1
      go_wp2_with fail
      refine (HL.out w1).mono ?_; rintro x w2 ⟨rfl, rfl⟩
      go_wp2_with fail
      refine (HR.out w1).mono ?_; rintro x w2 ⟨rfl, hb2⟩
      have HB2 := Lib.hid (HB1.out.trans (hb2.mono HB1.out.size))
      clear hb2
      go_wp2_with fail
      go_ret
      exact ⟨ret_int (by omega), HB2.out⟩
end Go.Proofs.Ytnbhcemgoifkgaa
