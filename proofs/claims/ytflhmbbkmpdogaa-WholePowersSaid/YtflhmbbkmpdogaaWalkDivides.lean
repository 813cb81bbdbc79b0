/- The walk of the law WholeDivides: it answers true for every input. -/
import Derived.Test.YtflhmbbkmpdogaaWholeAwake
import Derived.Test.YtflhmbbkmpdogaaRef01f
namespace Go.Proofs.Ytflhmbbkmpdogaa
open Go.RowKit

theorem wf_i64b {n : Int} (h : (Lit.int .i64 n).wf = true) : -9223372036854775808 ≤ n ∧ n ≤ 9223372036854775807 := by
  simp [Lit.wf, IntKind.min, IntKind.max, IntKind.signed, IntKind.bits] at h; omega
theorem wf_u64b {n : Int} (h : (Lit.int .u64 n).wf = true) : 0 ≤ n ∧ n ≤ 18446744073709551615 := by
  simp [Lit.wf, IntKind.min, IntKind.max, IntKind.signed, IntKind.bits] at h; omega

theorem walk_divides (a b d : Int) (w0 : (Lit.int .i64 a).wf = true) (w1 : (Lit.int .i64 b).wf = true) (w2 : (Lit.int .u64 d).wf = true) (w : World) :
    Calls Try.prog 4 #[.int .i64 a, .int .i64 b, .int .u64 d] w fun e w' => e = .returned (.bool true) ∧ Below w.heap.size w w' := by
  obtain ⟨a1, a2⟩ := wf_i64b w0
  obtain ⟨b1, b2⟩ := wf_i64b w1
  obtain ⟨d1, d2⟩ := wf_u64b w2
  clear w0 w1 w2
  obtain ⟨D, rfl⟩ := Int.eq_ofNat_of_zero_le d1
  have hG := whole_gcd a b w a1 a2 b1 b2
  have hA := fun w => whole_abs a w a1 a2
  have hB := fun w => whole_abs b w b1 b2
  have hx : a.natAbs ≤ 9223372036854775808 := by omega
  have hy : b.natAbs ≤ 9223372036854775808 := by omega
  clear a1 a2 b1 b2 d1
  generalize a.natAbs = x at *
  generalize b.natAbs = y at *
  have gx := Nat.gcd_dvd_left x y
  have gy := Nat.gcd_dvd_right x y
  have gd : D ∣ x → D ∣ y → D ∣ Nat.gcd x y := fun h k => Nat.dvd_gcd h k
  by_cases h0 : x = 0 ∧ y = 0
  · obtain ⟨rfl, rfl⟩ := h0
    rw [show Nat.gcd 0 0 = 0 from rfl] at hG
    have HG := Lib.hid hG
    have HA := Lib.hid hA
    have HB := Lib.hid hB
    clear hG hA hB gx gy gd
    go_enter Try.func4, Try.ntmps4
    go_wp2_with fail
    refine HG.out.mono ?_; rintro e w1 ⟨rfl, hb1⟩
    go_wp2_with fail
    refine (HA.out _).mono ?_; rintro e w1 ⟨rfl, rfl⟩
    go_wp2_with fail
    refine (HB.out _).mono ?_; rintro e w1 ⟨rfl, rfl⟩
    go_wp2_with fail
    refine (awake_any _).mono ?_; rintro e w2 ⟨rfl, hb2⟩
    have HB2 := Lib.hid (hb1.trans (hb2.mono hb1.size))
    go_wp2_with fail
    go_ret
    exact ⟨rfl, HB2.out⟩
  · have hg0 : 0 < Nat.gcd x y := by
      rcases Nat.eq_zero_or_pos (Nat.gcd x y) with h | h
      · exact absurd (Nat.gcd_eq_zero_iff.1 h) h0
      · exact h
    have hgl : Nat.gcd x y ≤ 9223372036854775808 := by
      rcases Nat.eq_zero_or_pos x with h | h
      · rw [h, Nat.gcd_zero_left]; exact hy
      · exact Nat.le_trans (Nat.le_of_dvd h gx) hx
    generalize Nat.gcd x y = g at *
    have m1 : x % g = 0 := Nat.mod_eq_zero_of_dvd gx
    have m2 : y % g = 0 := Nat.mod_eq_zero_of_dvd gy
    have n1 : ((x : Int) % (g : Int) != 0) = false := by simp; omega
    have n2 : ((y : Int) % (g : Int) != 0) = false := by simp; omega
    have n3 : ((g : Int) == 0) = false := by simp; omega
    have n4 : ¬ ((g : Int) = 0) := by omega
    have HG := Lib.hid hG
    have HA := Lib.hid hA
    have HB := Lib.hid hB
    have M1 := Lib.hid m1
    have M2 := Lib.hid m2
    have GD := Lib.hid gd
    clear hG hA hB gx gy gd m1 m2
    have key : ((D : Int) == 0) = true ∨ (((D : Int) == 0) = false ∧ ¬ ((D : Int) = 0) ∧ (((x : Int) % (D : Int) != 0) = true ∨ (((x : Int) % (D : Int) != 0) = false ∧ (((y : Int) % (D : Int) != 0) = true ∨ (((y : Int) % (D : Int) != 0) = false ∧ ((g : Int) % (D : Int) == 0) = true))))) := by
      by_cases hD : D = 0
      · left; simp [hD]
      · right
        refine ⟨by simpa using hD, by omega, ?_⟩
        by_cases k1 : x % D = 0
        · right
          refine ⟨by simp; omega, ?_⟩
          by_cases k2 : y % D = 0
          · right
            refine ⟨by simp; omega, ?_⟩
            have := Nat.mod_eq_zero_of_dvd (GD.out (Nat.dvd_of_mod_eq_zero k1) (Nat.dvd_of_mod_eq_zero k2))
            simp; omega
          · left; simp; omega
        · left; simp; omega
    by_cases hx0 : x = 0
    · have hy0 : ((y : Int) == 0) = false := by simp; omega
      have hx0' : ((x : Int) == 0) = true := by simpa using hx0
      have HX0 := Lib.hid hx0
      clear h0 hx0
      rcases key with e1 | ⟨e1, e1', e2 | ⟨e2, e3 | ⟨e3, e4⟩⟩⟩
      all_goals
        go_enter Try.func4, Try.ntmps4
        go_wp2_with fail
        refine HG.out.mono ?_; rintro e w1 ⟨rfl, hb1⟩
        go_wp2_with fail
        refine (HA.out _).mono ?_; rintro e w1 ⟨rfl, rfl⟩
        go_wp2_with fail
        refine (HB.out _).mono ?_; rintro e w1 ⟨rfl, rfl⟩
        go_wp2_with fail
        refine (awake_any _).mono ?_; rintro e w2 ⟨rfl, hb2⟩
        have HB2 := Lib.hid (hb1.trans (hb2.mono hb1.size))
        go_wp2_with fail
        go_ret
        exact ⟨rfl, HB2.out⟩
    · have hx0' : ((x : Int) == 0) = false := by simpa using hx0
      clear h0
      rcases key with e1 | ⟨e1, e1', e2 | ⟨e2, e3 | ⟨e3, e4⟩⟩⟩
      all_goals
        go_enter Try.func4, Try.ntmps4
        go_wp2_with fail
        refine HG.out.mono ?_; rintro e w1 ⟨rfl, hb1⟩
        go_wp2_with fail
        refine (HA.out _).mono ?_; rintro e w1 ⟨rfl, rfl⟩
        go_wp2_with fail
        refine (HB.out _).mono ?_; rintro e w1 ⟨rfl, rfl⟩
        go_wp2_with fail
        refine (awake_any _).mono ?_; rintro e w2 ⟨rfl, hb2⟩
        have HB2 := Lib.hid (hb1.trans (hb2.mono hb1.size))
        go_wp2_with fail
        go_ret
        exact ⟨rfl, HB2.out⟩
end Go.Proofs.Ytflhmbbkmpdogaa
