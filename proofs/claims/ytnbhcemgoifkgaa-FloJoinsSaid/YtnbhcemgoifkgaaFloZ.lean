/- The walk of the law FloJoins. No conditions. -/
import Derived.Test.YtnbhcemgoifkgaaFloY
import Derived.Test.YtnbhcemgoifkgaaFloN
namespace Go.Proofs.Ytnbhcemgoifkgaa
open Go.RowKit Ieee

theorem wf_i64j {n : Int} (h : (Lit.int .i64 n).wf = true) : -9223372036854775808 ≤ n ∧ n ≤ 9223372036854775807 := by
  simpa [Lit.wf, IntKind.min, IntKind.max, IntKind.bits, IntKind.signed] using h

set_option maxHeartbeats 2000000 in
theorem walk_joins (neg : Bool) (a : Option Addr) (n c : Nat) (xs : List Int) (e : Int) (w : World) (hA : IsRow .u32 w a n c xs) (w2 : (Lit.int .i64 e).wf = true) :
    Calls Try.prog 11 #[.bool neg, .slice a n c, .int .i64 e] w fun e w' => e = .returned (.bool true) ∧ Below w.heap.size w w' := by
  obtain ⟨he1, he2⟩ := wf_i64j w2
  have ha := hA.row
  have hx := hA.dig
  clear hA w2
  generalize xs.take n = xs at *
  have hn : n ≤ 9223372036854775807 := by have := ha.2.1; have := ha.2.2.1; unfold maxLen at this; omega
  by_cases hl : n ≤ 12
  · have hd : decide ((12 : Int) < (n : Int)) = false := by simp; omega
    have VX := V_bd (B := 4294967296) (by decide) hx
    rw [ha.1] at VX
    obtain ⟨X, hX⟩ : ∃ X : Nat, V 4294967296 xs = (X : Int) := ⟨(V 4294967296 xs).toNat, by omega⟩
    have HN := Lib.hid (fun w (h : RowK .u32 w a n c xs) => (rnum_any a n c xs w h hx (by omega)))
    have HJ := Lib.hid (fun w (h : RowK .u32 w a n c xs) => fjoin_any neg a n c xs X e w h hx hX (by omega) he1 he2)
    obtain ⟨m, hm⟩ : ∃ m, m = 12 := ⟨_, rfl⟩
    obtain ⟨K, hK⟩ : ∃ K, K = 32 * m := ⟨_, rfl⟩
    have hX2 : X < 2 ^ K := by
      have h1 : (X : Int) < 4294967296 ^ m := by
        rw [← hX]
        exact Int.lt_of_lt_of_le VX.2 (ipow_le (by decide) (by omega))
      have h2 : (2 : Nat) ^ K = 4294967296 ^ m := by rw [hK, Nat.pow_mul]
      rw [h2]
      exact Int.ofNat_lt.1 (by rw [Int.natCast_pow]; exact h1)
    have HX2 := Lib.hid hX2
    have HA := Lib.hid ha
    have HSM := Lib.hid (fun w => rsame_any (joinN neg X e) (joinN neg X e) w (join_lt neg X e) (join_lt neg X e))
    rw [decide_eq_true (rfl : keyN (joinN neg X e) = keyN (joinN neg X e))] at HSM
    rw [hX] at HN
    have HK := Lib.hid (show K = 384 from by omega)
    clear VX hX hX2 ha hx hl hK hm
    go_enter Try.func11, Try.ntmps11
    go_wp2_with fail
    refine (HJ.out w HA.out).mono ?_; rintro z w1 ⟨rfl, hb1⟩
    have HB1 := Lib.hid hb1
    have HA1 := Lib.hid (HA.out.below hb1 (Nat.le_refl _))
    clear hb1
    go_wp2_with fail
    refine (HN.out w1 HA1.out).mono ?_; rintro z w2 ⟨n2, p2, l2, c2, rfl, hM2, hb2, -⟩
    have HB2 := Lib.hid (HB1.out.trans (hb2.mono HB1.out.size))
    have HM2 := Lib.hid hM2
    clear hb2 hM2
    go_wp2_with fail
    refine (rjoin_any neg _ _ _ _ X K e w2 HM2.out HX2.out (by have := HK.out; omega)).mono ?_; rintro z w3 ⟨rfl, hb3⟩
    have HB3 := Lib.hid (HB2.out.trans (hb3.mono HB2.out.size))
    clear hb3
    go_wp2_with fail
    refine (HSM.out w3).mono ?_; rintro z w6 ⟨rfl, hb6⟩
    have HB6 := Lib.hid (HB3.out.trans (hb6.mono HB3.out.size))
    clear hb6
    go_wp2_with fail
    refine (awake_flo w6).mono ?_; rintro z w7 ⟨rfl, hb7⟩
    have HB7 := Lib.hid (HB6.out.trans (hb7.mono HB6.out.size))
    clear hb7
    go_wp2_with fail
    go_ret
    exact ⟨rfl, HB7.out⟩
  · have hd : decide ((12 : Int) < (n : Int)) = true := by simp; omega
    clear ha hx hl
    go_enter Try.func11, Try.ntmps11
    go_wp2_with fail
    refine (awake_flo _).mono ?_; rintro z w7 ⟨rfl, hb7⟩
    have HB7 := Lib.hid hb7
    clear hb7
    go_wp2_with fail
    go_ret
    exact ⟨rfl, HB7.out⟩
end Go.Proofs.Ytnbhcemgoifkgaa
