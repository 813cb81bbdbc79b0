/- The awake of package bushellaw03 and the walk of the law FloOrders. No conditions. -/
import Derived.Test.YtnbhcemgoifkgaaMFloB
namespace Go.Proofs.Ytnbhcemgoifkgaa
open Go.RowKit Ieee

theorem split_m6 : SplitOut 13841813454723219456 true 3 1 := by
  have h : ∀ s, 3 * 2251799813685248 * 2 ^ s = 3 * 2 ^ (51 + s) := fun s => by rw [Nat.pow_add, Nat.mul_assoc]
  refine .inr ⟨by decide, by decide, 3, 51 + sh 4618441417868443648, rfl, by decide, ?_, by decide⟩
  rw [show 13841813454723219456 % S63 = 4618441417868443648 from by decide, ← h]
  unfold iv
  rw [show mg 4618441417868443648 = 3 * 2251799813685248 from by decide]
theorem join_53 : joinN false 9007199254740993 0 = 4845873199050653696 := by decide
theorem up_m0 : upN 9223372036854775808 = 0 := by decide
theorem flip_0 : flipS 0 = 9223372036854775808 := by decide
theorem key_0 : ((keyN 0 : Nat) : Int) = 9223372036854775808 := by decide
theorem dig_53 : Dig 4294967296 [1, 2097152] := by unfold Dig; decide

set_option maxHeartbeats 2000000 in
theorem awake_flo (w : World) : Calls Try.prog 50 #[] w fun e w' => e = .returned (.bool true) ∧ Below w.heap.size w w' := by
  have h1 := Lib.hid (fsplit_any 13841813454723219456 w (by decide))
  have hu := Lib.hid (fun w => fup_any 9223372036854775808 w (by decide))
  have hs := Lib.hid (fun w => rsign_any true 0 w (by decide))
  rw [if_pos rfl, flip_0] at hs
  rw [up_m0] at hu
  have hk := Lib.hid (fun w => fkey_any 0 w (by decide))
  rw [key_0] at hk
  have hsm := Lib.hid (fun w => rsame_any 0 0 w (by decide) (by decide))
  rw [show decide (keyN 0 = keyN 0) = true from by simp] at hsm
  have ho : FloatKind.f64.format.order 4845873199050653696 4845873199050653696 = some .eq := by decide
  go_enter Try.func50, Try.ntmps50
  go_wp2_with fail
  refine h1.out.mono ?_; rintro x w1 ⟨neg, m, e, rfl, hsp, rfl⟩
  obtain ⟨rfl, rfl, rfl⟩ := hsp.one split_m6
  clear hsp
  go_wp2_with fail
  have a1 : Arr .u32 55 (w.alloc (.cells #[.int .u32 1, .int .u32 2097152] 55)) w.heap.size [1, 2097152] := Arr.new [1, 2097152] rfl rfl
  have hb1 : Below w.heap.size w (w.alloc (.cells #[.int .u32 1, .int .u32 2097152] 55)) := (Below.refl _ _).alloc (Nat.le_refl _) _
  have hj := Lib.hid (fjoin_any false _ 2 2 [1, 2097152] 9007199254740993 0 _ (a1.full (by decide)) dig_53 (by decide) (by decide) (by decide) (by decide))
  rw [join_53] at hj
  have HB1 := Lib.hid hb1
  clear a1 hb1
  generalize w.alloc (.cells #[.int .u32 1, .int .u32 2097152] 55) = w1 at *
  refine hj.out.mono ?_; rintro x w2 ⟨rfl, hb2⟩
  have HB2 := Lib.hid (HB1.out.trans (hb2.mono HB1.out.size))
  clear hb2
  go_wp2_with fail
  refine (hk.out w2).mono ?_; rintro x w3 ⟨rfl, rfl⟩
  go_wp2_with fail
  refine (hs.out w2).mono ?_; rintro x w3 ⟨rfl, rfl⟩
  go_wp2_with fail
  refine (hu.out w2).mono ?_; rintro x w3 ⟨rfl, rfl⟩
  go_wp2_with fail
  refine (hsm.out w2).mono ?_; rintro x w3 ⟨rfl, hb3⟩
  have HB3 := Lib.hid (HB2.out.trans (hb3.mono HB2.out.size))
  clear hb3
  go_wp2_with fail
  go_ret
  exact ⟨rfl, HB3.out⟩
theorem wf_f64 {b : Nat} (h : (Lit.float .f64 b).wf = true) : b < 18446744073709551616 := by
  have h2 : b < 2 ^ 64 := by simpa [Lit.wf] using h
  exact h2

set_option maxHeartbeats 2000000 in
theorem walk_orders (a b : Nat) (w : World) (w0 : (Lit.float .f64 a).wf = true) (w1 : (Lit.float .f64 b).wf = true) :
    Calls Try.prog 14 #[.float .f64 a, .float .f64 b] w fun e w' => e = .returned (.bool true) ∧ Below w.heap.size w w' := by
  have ha := wf_f64 w0
  have hb := wf_f64 w1
  clear w0 w1
  have HRL := Lib.hid (fun w => rless_any a b w ha hb)
  have HRS := Lib.hid (fun w => rsame_any a b w ha hb)
  have HFL := Lib.hid (fun w => fless_any a b w ha hb)
  have HFG := Lib.hid (fun w => fless_any b a w hb ha)
  have HFS := Lib.hid (fun w => fsame_any a b w ha hb)
  have HL1 := Lib.hid (fun w => fleast_any a b w ha hb)
  have HL2 := Lib.hid (fun w => rleast_any a b w ha hb)
  have HM1 := Lib.hid (fun w => fmost_any a b w ha hb)
  have HM2 := Lib.hid (fun w => rmost_any a b w ha hb)
  have hq : (if keyN b < keyN a then b else a) < 18446744073709551616 := by split <;> assumption
  have hr : (if keyN a < keyN b then b else a) < 18446744073709551616 := by split <;> assumption
  generalize (if keyN b < keyN a then b else a) = q at *
  generalize (if keyN a < keyN b then b else a) = r at *
  have HS1 := Lib.hid (fun w => rsame_any q q w hq hq)
  have HS2 := Lib.hid (fun w => rsame_any r r w hr hr)
  rw [show decide (keyN q = keyN q) = true from by simp] at HS1
  rw [show decide (keyN r = keyN r) = true from by simp] at HS2
  clear hq hr ha hb
  rcases Nat.lt_trichotomy (keyN a) (keyN b) with h | h | h
  · rw [show decide (keyN a < keyN b) = true from by simp; omega] at HRL HFL
    rw [show decide (keyN a = keyN b) = false from by simp; omega] at HRS HFS
    rw [show decide (keyN b < keyN a) = false from by simp; omega] at HFG
    clear h
    go_enter Try.func14, Try.ntmps14
    go_wp2_with fail
    refine (HRL.out _).mono ?_; rintro x w1 ⟨rfl, hb1⟩
    have HB1 := Lib.hid hb1
    clear hb1
    go_wp2_with fail
    refine (HRS.out _).mono ?_; rintro x w2 ⟨rfl, hb2⟩
    have HB2 := Lib.hid (HB1.out.trans (hb2.mono HB1.out.size))
    clear hb2
    go_wp2_with fail
    refine (HFL.out _).mono ?_; rintro x w3 ⟨rfl, rfl⟩
    go_wp2_with fail
    refine (HFS.out _).mono ?_; rintro x w3 ⟨rfl, rfl⟩
    go_wp2_with fail
    refine (HL1.out _).mono ?_; rintro x w3 ⟨rfl, rfl⟩
    go_wp2_with fail
    refine (HL2.out _).mono ?_; rintro x w3 ⟨rfl, hb3⟩
    have HB3 := Lib.hid (HB2.out.trans (hb3.mono HB2.out.size))
    clear hb3
    go_wp2_with fail
    refine (HS1.out _).mono ?_; rintro x w4 ⟨rfl, hb4⟩
    have HB4 := Lib.hid (HB3.out.trans (hb4.mono HB3.out.size))
    clear hb4
    go_wp2_with fail
    refine (HM1.out _).mono ?_; rintro x w5 ⟨rfl, rfl⟩
    go_wp2_with fail
    refine (HM2.out _).mono ?_; rintro x w5 ⟨rfl, hb5⟩
    have HB5 := Lib.hid (HB4.out.trans (hb5.mono HB4.out.size))
    clear hb5
    go_wp2_with fail
    refine (HS2.out _).mono ?_; rintro x w6 ⟨rfl, hb6⟩
    have HB6 := Lib.hid (HB5.out.trans (hb6.mono HB5.out.size))
    clear hb6
    go_wp2_with fail
    refine (awake_flo _).mono ?_; rintro x w7 ⟨rfl, hb7⟩
    have HB7 := Lib.hid (HB6.out.trans (hb7.mono HB6.out.size))
    clear hb7
    go_wp2_with fail
    go_ret
    exact ⟨rfl, HB7.out⟩
  · rw [show decide (keyN a < keyN b) = false from by simp; omega] at HRL HFL
    rw [show decide (keyN a = keyN b) = true from by simp; omega] at HRS HFS
    rw [show decide (keyN b < keyN a) = false from by simp; omega] at HFG
    clear h
    go_enter Try.func14, Try.ntmps14
    go_wp2_with fail
    refine (HRL.out _).mono ?_; rintro x w1 ⟨rfl, hb1⟩
    have HB1 := Lib.hid hb1
    clear hb1
    go_wp2_with fail
    refine (HRS.out _).mono ?_; rintro x w2 ⟨rfl, hb2⟩
    have HB2 := Lib.hid (HB1.out.trans (hb2.mono HB1.out.size))
    clear hb2
    go_wp2_with fail
    refine (HFL.out _).mono ?_; rintro x w3 ⟨rfl, rfl⟩
    go_wp2_with fail
    refine (HFS.out _).mono ?_; rintro x w3 ⟨rfl, rfl⟩
    go_wp2_with fail
    refine (HL1.out _).mono ?_; rintro x w3 ⟨rfl, rfl⟩
    go_wp2_with fail
    refine (HL2.out _).mono ?_; rintro x w3 ⟨rfl, hb3⟩
    have HB3 := Lib.hid (HB2.out.trans (hb3.mono HB2.out.size))
    clear hb3
    go_wp2_with fail
    refine (HS1.out _).mono ?_; rintro x w4 ⟨rfl, hb4⟩
    have HB4 := Lib.hid (HB3.out.trans (hb4.mono HB3.out.size))
    clear hb4
    go_wp2_with fail
    refine (HM1.out _).mono ?_; rintro x w5 ⟨rfl, rfl⟩
    go_wp2_with fail
    refine (HM2.out _).mono ?_; rintro x w5 ⟨rfl, hb5⟩
    have HB5 := Lib.hid (HB4.out.trans (hb5.mono HB4.out.size))
    clear hb5
    go_wp2_with fail
    refine (HS2.out _).mono ?_; rintro x w6 ⟨rfl, hb6⟩
    have HB6 := Lib.hid (HB5.out.trans (hb6.mono HB5.out.size))
    clear hb6
    go_wp2_with fail
    refine (awake_flo _).mono ?_; rintro x w7 ⟨rfl, hb7⟩
    have HB7 := Lib.hid (HB6.out.trans (hb7.mono HB6.out.size))
    clear hb7
    go_wp2_with fail
    go_ret
    exact ⟨rfl, HB7.out⟩
  · rw [show decide (keyN a < keyN b) = false from by simp; omega] at HRL HFL
    rw [show decide (keyN a = keyN b) = false from by simp; omega] at HRS HFS
    rw [show decide (keyN b < keyN a) = true from by simp; omega] at HFG
    clear h
    go_enter Try.func14, Try.ntmps14
    go_wp2_with fail
    refine (HRL.out _).mono ?_; rintro x w1 ⟨rfl, hb1⟩
    have HB1 := Lib.hid hb1
    clear hb1
    go_wp2_with fail
    refine (HRS.out _).mono ?_; rintro x w2 ⟨rfl, hb2⟩
    have HB2 := Lib.hid (HB1.out.trans (hb2.mono HB1.out.size))
    clear hb2
    go_wp2_with fail
    refine (HFL.out _).mono ?_; rintro x w3 ⟨rfl, rfl⟩
    go_wp2_with fail
    refine (HFS.out _).mono ?_; rintro x w3 ⟨rfl, rfl⟩
    go_wp2_with fail
    refine (HFG.out _).mono ?_; rintro x w3 ⟨rfl, rfl⟩
    go_wp2_with fail
    refine (HL1.out _).mono ?_; rintro x w3 ⟨rfl, rfl⟩
    go_wp2_with fail
    refine (HL2.out _).mono ?_; rintro x w3 ⟨rfl, hb3⟩
    have HB3 := Lib.hid (HB2.out.trans (hb3.mono HB2.out.size))
    clear hb3
    go_wp2_with fail
    refine (HS1.out _).mono ?_; rintro x w4 ⟨rfl, hb4⟩
    have HB4 := Lib.hid (HB3.out.trans (hb4.mono HB3.out.size))
    clear hb4
    go_wp2_with fail
    refine (HM1.out _).mono ?_; rintro x w5 ⟨rfl, rfl⟩
    go_wp2_with fail
    refine (HM2.out _).mono ?_; rintro x w5 ⟨rfl, hb5⟩
    have HB5 := Lib.hid (HB4.out.trans (hb5.mono HB4.out.size))
    clear hb5
    go_wp2_with fail
    refine (HS2.out _).mono ?_; rintro x w6 ⟨rfl, hb6⟩
    have HB6 := Lib.hid (HB5.out.trans (hb6.mono HB5.out.size))
    clear hb6
    go_wp2_with fail
    refine (awake_flo _).mono ?_; rintro x w7 ⟨rfl, hb7⟩
    have HB7 := Lib.hid (HB6.out.trans (hb7.mono HB6.out.size))
    clear hb7
    go_wp2_with fail
    go_ret
    exact ⟨rfl, HB7.out⟩
end Go.Proofs.Ytnbhcemgoifkgaa
