/- The walk of the law RatioRoots. No conditions. -/
import Derived.Test.YtgdddpbdcdheeaaMEx3
import Derived.Test.YtgdddpbdcdheeaaRatJ
namespace Go.Proofs.Ytgdddpbdcdheeaa
open Go.RowKit Ieee

theorem row_nat {n m : Nat} {xs : List Int} (hx : Dig 4294967296 xs) (hl : xs.length = n) (hn : n ≤ m) : ∃ X : Nat, V 4294967296 xs = (X : Int) ∧ X < 2 ^ (32 * m) := by
  have VX := V_bd (B := 4294967296) (by decide) hx
  rw [hl] at VX
  obtain ⟨X, hX⟩ : ∃ X : Nat, V 4294967296 xs = (X : Int) := ⟨(V 4294967296 xs).toNat, by omega⟩
  refine ⟨X, hX, ?_⟩
  have h1 : (X : Int) < 4294967296 ^ m := by
    rw [← hX]
    exact Int.lt_of_lt_of_le VX.2 (ipow_le (by decide) hn)
  have h2 : (2 : Nat) ^ (32 * m) = 4294967296 ^ m := by rw [Nat.pow_mul]
  rw [h2]
  exact Int.ofNat_lt.1 (by rw [Int.natCast_pow]; exact h1)
theorem rsame_key {z y : Nat} (hz : z < 18446744073709551616) (hy : y < 18446744073709551616) (h : keyN z = keyN y) (w : World) :
    Calls Try.prog 17 #[.float .f64 z, .float .f64 y] w fun e w' => e = .returned (.bool true) ∧ Below w.heap.size w w' := by
  have := rsame_any z y w hz hy
  rw [decide_eq_true h] at this
  exact this

set_option maxHeartbeats 4000000 in
theorem walk_roots (a : Option Addr) (n c : Nat) (xs : List Int) (b : Option Addr) (m d : Nat) (ys : List Int) (w : World) (hA : IsRow .u32 w a n c xs) (hB : IsRow .u32 w b m d ys) :
    Calls Try.prog 7 #[.slice a n c, .slice b m d] w fun e w' => e = .returned (.bool true) ∧ Below w.heap.size w w' := by
  have ha := hA.row
  have hb := hB.row
  have hx := hA.dig
  have hy := hB.dig
  clear hA hB
  generalize xs.take n = xs at *
  generalize ys.take m = ys at *
  have hn : n ≤ 9223372036854775807 := by have := ha.2.1; have := ha.2.2.1; unfold maxLen at this; omega
  have hm : m ≤ 9223372036854775807 := by have := hb.2.1; have := hb.2.2.1; unfold maxLen at this; omega
  by_cases hl : n ≤ 8 ∧ m ≤ 8
  · obtain ⟨hl1, hl2⟩ := hl
    have t1 : decide ((8 : Int) < (n : Int)) = false := by simp; omega
    have t2 : decide ((8 : Int) < (m : Int)) = false := by simp; omega
    obtain ⟨k, hk⟩ : ∃ k, k = 8 := ⟨_, rfl⟩
    obtain ⟨X, hX, hX2⟩ := row_nat (m := k) hx ha.1 (by omega)
    obtain ⟨Y, hY, hY2⟩ := row_nat (m := k) hy hb.1 (by omega)
    have HF := Lib.hid (froot_any a b n c m d X Y (32 * k) xs ys w ha hb hx hy hX hY (by omega) (by omega) hX2 hY2 (by omega))
    have HX2 := Lib.hid hX2
    have HY2 := Lib.hid hY2
    have HA := Lib.hid ha
    have HB := Lib.hid hb
    have HNA := Lib.hid (fun w (h : RowK .u32 w a n c xs) => rnum_any a n c xs w h hx (by omega))
    have HNB := Lib.hid (fun w (h : RowK .u32 w b m d ys) => rnum_any b m d ys w h hy (by omega))
    rw [hX] at HNA
    rw [hY] at HNB
    have HK := Lib.hid hk
    clear ha hb hx hy hX hY hX2 hY2 hk
    go_enter Try.func7, Try.ntmps7
    go_wp2_with fail
    refine HF.out.mono ?_; rintro e w1 ⟨z, rfl, hz, hb1⟩
    have HB1 := Lib.hid hb1
    have HZ := Lib.hid hz
    clear hb1 hz
    go_wp2_with fail
    refine (HNA.out w1 (HA.out.below HB1.out (Nat.le_refl _))).mono ?_; rintro e w2 ⟨n2, p2, l2, c2, rfl, hM2, hb2, -⟩
    have HB2 := Lib.hid (HB1.out.trans (hb2.mono HB1.out.size))
    have HM2 := Lib.hid hM2
    clear hb2 hM2
    go_wp2_with fail
    refine (HNB.out w2 (HB.out.below HB2.out (Nat.le_refl _))).mono ?_; rintro e w3 ⟨n3, p3, l3, c3, rfl, hM3, hb3, -⟩
    have HB3 := Lib.hid (HB2.out.trans (hb3.mono HB2.out.size))
    have HR := Lib.hid (rroot_any n2 n3 p2 p3 l2 c2 l3 c3 X Y (32 * k) w3 (HM2.out.below hb3 (Nat.le_refl _)) hM3 HX2.out HY2.out (by have := HK.out; omega))
    clear hb3 hM3
    go_wp2_with fail
    refine HR.out.mono ?_; rintro e w4 ⟨y, rfl, hy, hb4⟩
    have HB4 := Lib.hid (HB3.out.trans (hb4.mono HB3.out.size))
    have HS := Lib.hid (fun w => rsame_key HZ.out.1 hy.1 (HZ.out.one hy) w)
    clear hb4 hy
    go_wp2_with fail
    refine (HS.out _).mono ?_; rintro e w5 ⟨rfl, hb5⟩
    have HB5 := Lib.hid (HB4.out.trans (hb5.mono HB4.out.size))
    clear hb5
    go_wp2_with fail
    refine (awake_rat _).mono ?_; rintro e w6 ⟨rfl, hb6⟩
    have HB6 := Lib.hid (HB5.out.trans (hb6.mono HB5.out.size))
    clear hb6
    go_wp2_with fail
    go_ret
    exact ⟨rfl, HB6.out⟩
  · have ht : decide ((8 : Int) < (n : Int)) = true ∨ (decide ((8 : Int) < (n : Int)) = false ∧ decide ((8 : Int) < (m : Int)) = true) := by
      rcases Nat.lt_or_ge 8 n with h | h
      · left; simp; omega
      · right; exact ⟨by simp; omega, by simp; omega⟩
    clear ha hb hx hy hl
    rcases ht with t1 | ⟨t1, t2⟩
    all_goals
      go_enter Try.func7, Try.ntmps7
      go_wp2_with fail
      refine (awake_rat _).mono ?_; rintro e w6 ⟨rfl, hb6⟩
      have HB6 := Lib.hid hb6
      clear hb6
      go_wp2_with fail
      go_ret
      exact ⟨rfl, HB6.out⟩
end Go.Proofs.Ytgdddpbdcdheeaa
