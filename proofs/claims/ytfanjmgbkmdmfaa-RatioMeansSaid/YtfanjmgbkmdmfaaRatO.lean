/- The walk of the law RatioMeans. No conditions. -/
import Derived.Test.YtfanjmgbkmdmfaaRatM
import Derived.Test.YtfanjmgbkmdmfaaRatN
namespace Go.Proofs.Ytfanjmgbkmdmfaa
open Go.RowKit Ieee

set_option maxHeartbeats 4000000 in
theorem walk_means (n s : Int) (a : Option Addr) (l c : Nat) (xs : List Int) (w : World) (w0 : (Lit.int .i64 n).wf = true) (w1 : (Lit.int .i64 s).wf = true) (hA : IsRow .u32 w a l c xs) :
    Calls Try.prog 4 #[.int .i64 n, .int .i64 s, .slice a l c] w fun e w' => e = .returned (.bool true) ∧ Below w.heap.size w w' := by
  obtain ⟨h2, h3⟩ := wf_i64r w0
  obtain ⟨h0, h1⟩ := wf_i64r w1
  have ha := hA.row
  have hx := hA.dig
  clear hA w0 w1
  generalize xs.take l = xs at *
  have hn : l ≤ 9223372036854775807 := by have := ha.2.1; have := ha.2.2.1; unfold maxLen at this; omega
  by_cases hl : l ≤ 8
  · have t1 : decide ((8 : Int) < (l : Int)) = false := by simp; omega
    obtain ⟨k, hk⟩ : ∃ k, k = 8 := ⟨_, rfl⟩
    obtain ⟨X, hX, hX2⟩ := row_nat (m := k) hx ha.1 (by omega)
    have HMF := Lib.hid (fun w => fmean_any s n w h0 h1 h2 h3)
    have HMR := Lib.hid (fun w => rmean_any s n w h0 h1 h2 h3)
    have HDF := Lib.hid (fun w (h : RowK .u32 w a l c xs) => fdev_any n s a l c X (32 * k) xs w h hx hX (by omega) hX2 (by omega) h0 h1 h2 h3)
    have HDR := Lib.hid (fun w (h : RowK .u32 w a l c xs) => rdev_any n s a l c X (32 * k) xs w h hx hX (by omega) hX2 (by omega) h0 h1 h2 h3)
    have HA := Lib.hid ha
    clear ha hx hX hX2 hk
    go_enter Try.func4, Try.ntmps4
    go_wp2_with fail
    refine (HMF.out _).mono ?_; rintro e w1 ⟨z, rfl, hz, hb1⟩
    have HB1 := Lib.hid hb1
    have HZ := Lib.hid hz
    clear hb1 hz
    go_wp2_with fail
    refine (HMR.out _).mono ?_; rintro e w2 ⟨y, rfl, hy, hb2⟩
    have HB2 := Lib.hid (HB1.out.trans (hb2.mono HB1.out.size))
    have HS := Lib.hid (fun w => rsame_key HZ.out.lt hy.lt (HZ.out.one hy) w)
    clear hb2 hy HZ
    go_wp2_with fail
    refine (HS.out _).mono ?_; rintro e w3 ⟨rfl, hb3⟩
    have HB3 := Lib.hid (HB2.out.trans (hb3.mono HB2.out.size))
    clear hb3
    go_wp2_with fail
    refine (HDF.out _ (HA.out.below HB3.out (Nat.le_refl _))).mono ?_; rintro e w4 ⟨u, rfl, hu, hb4⟩
    have HB4 := Lib.hid (HB3.out.trans (hb4.mono HB3.out.size))
    have HU := Lib.hid hu
    clear hb4 hu
    go_wp2_with fail
    refine (HDR.out _ (HA.out.below HB4.out (Nat.le_refl _))).mono ?_; rintro e w5 ⟨v, rfl, hv, hb5⟩
    have HB5 := Lib.hid (HB4.out.trans (hb5.mono HB4.out.size))
    have HS2 := Lib.hid (fun w => rsame_key HU.out.1 hv.1 (HU.out.one hv) w)
    clear hb5 hv HU
    go_wp2_with fail
    refine (HS2.out _).mono ?_; rintro e w6 ⟨rfl, hb6⟩
    have HB6 := Lib.hid (HB5.out.trans (hb6.mono HB5.out.size))
    clear hb6
    go_wp2_with fail
    refine (awake_rat _).mono ?_; rintro e w7 ⟨rfl, hb7⟩
    have HB7 := Lib.hid (HB6.out.trans (hb7.mono HB6.out.size))
    clear hb7
    go_wp2_with fail
    go_ret
    exact ⟨rfl, HB7.out⟩
  · have t1 : decide ((8 : Int) < (l : Int)) = true := by simp; omega
    clear ha hx hl
    go_enter Try.func4, Try.ntmps4
    go_wp2_with fail
    refine (awake_rat _).mono ?_; rintro e w6 ⟨rfl, hb6⟩
    have HB6 := Lib.hid hb6
    clear hb6
    go_wp2_with fail
    go_ret
    exact ⟨rfl, HB6.out⟩
end Go.Proofs.Ytfanjmgbkmdmfaa
