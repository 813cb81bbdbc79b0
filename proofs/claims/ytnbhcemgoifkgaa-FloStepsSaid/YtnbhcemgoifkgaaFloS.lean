/- The walk of the law FloSteps. No conditions. -/
import Derived.Test.YtnbhcemgoifkgaaFloR
namespace Go.Proofs.Ytnbhcemgoifkgaa
open Go.RowKit Ieee

/-- the number above a number that is not the greatest -/
theorem up_key {a : Nat} (ha : a < 18446744073709551616) (h1 : ¬ INF < a % S63) (h2 : a ≠ INF) : upN a = fromN (keyN a + 1) ∧ keyN (upN a) = keyN a + 1 ∧ keyN a + 1 ≤ 18446744073709551614 ∧ upN a < 18446744073709551616 := by
  have hup : upN a = fromN (keyN a + 1) := by
    unfold upN
    rw [if_neg (fun h => by rcases h with h | h; exact h1 h; exact h2 h)]
  have hle : keyN a + 1 ≤ 18442240474082181120 ∧ 4503599627370495 ≤ keyN a + 1 := by
    unfold keyN
    rw [if_neg h1]
    unfold S63 INF at *
    split <;> omega
  refine ⟨hup, ?_, by omega, by rw [hup]; exact fromN_lt⟩
  rw [hup]
  refine key_from (by omega) ?_
  unfold fromB
  exact decide_eq_true (.inr ⟨hle.2, hle.1⟩)

set_option maxHeartbeats 2000000 in
theorem walk_steps (a b : Nat) (w : World) (w0 : (Lit.float .f64 a).wf = true) (w1 : (Lit.float .f64 b).wf = true) :
    Calls Try.prog 13 #[.float .f64 a, .float .f64 b] w fun e w' => e = .returned (.bool true) ∧ Below w.heap.size w w' := by
  have ha := wf_f64 w0
  have hb := wf_f64 w1
  clear w0 w1
  have HUP := Lib.hid (fup_any a w ha)
  have HKA := Lib.hid (fun w => rkind_any a w ha)
  by_cases h1 : INF < a % S63
  · rw [kind3.2 h1] at HKA
    rw [show upN a = 9221120237041090561 from by unfold upN; rw [if_pos (.inl h1)]] at HUP
    have HKU := Lib.hid (fun w => rkind_any 9221120237041090561 w (by decide))
    rw [show kindZ 9221120237041090561 = 3 from by decide] at HKU
    generalize (9221120237041090561 : Nat) = u at *
    clear ha hb h1
    go_enter Try.func13, Try.ntmps13
    go_wp2_with fail
    refine HUP.out.mono ?_; rintro z w1 ⟨rfl, rfl⟩
    go_wp2_with fail
    refine (HKA.out _).mono ?_; rintro z w2 ⟨rfl, hb2⟩
    have HB2 := Lib.hid hb2
    clear hb2
    go_wp2_with fail
    refine (HKU.out _).mono ?_; rintro z w3 ⟨rfl, hb3⟩
    have HB3 := Lib.hid (HB2.out.trans (hb3.mono HB2.out.size))
    clear hb3
    go_wp2_with fail
    refine (awake_flo _).mono ?_; rintro z w4 ⟨rfl, hb4⟩
    have HB4 := Lib.hid (HB3.out.trans (hb4.mono HB3.out.size))
    clear hb4
    go_wp2_with fail
    go_ret
    exact ⟨rfl, HB4.out⟩
  · have hs : FloatKind.f64.format.order a 0 = _ := order_zero ha h1
    have hnz : a % S63 = INF → ¬ a % S63 = 0 := by intro h; unfold S63 INF at *; omega
    by_cases h2 : a = INF
    · have h3 : a % S63 = INF := by rw [h2]; decide
      rw [if_neg (hnz h3), if_neg (show ¬ S63 ≤ a by rw [h2]; decide)] at hs
      rw [show kindZ a = 2 from by unfold kindZ; rw [if_neg h1, if_pos h3]] at HKA
      rw [show upN a = 9221120237041090561 from by unfold upN; rw [if_pos (.inr h2)]] at HUP
      have HKU := Lib.hid (fun w => rkind_any 9221120237041090561 w (by decide))
      rw [show kindZ 9221120237041090561 = 3 from by decide] at HKU
      generalize (9221120237041090561 : Nat) = u at *
      clear ha hb h1 h2 h3 hnz
      go_enter Try.func13, Try.ntmps13
      go_wp2_with fail
      refine HUP.out.mono ?_; rintro z w1 ⟨rfl, rfl⟩
      go_wp2_with fail
      refine (HKA.out _).mono ?_; rintro z w2 ⟨rfl, hb2⟩
      have HB2 := Lib.hid hb2
      clear hb2
      go_wp2_with fail
      refine (HKA.out _).mono ?_; rintro z w3 ⟨rfl, hb3⟩
      have HB3 := Lib.hid (HB2.out.trans (hb3.mono HB2.out.size))
      clear hb3
      go_wp2_with fail
      refine (HKU.out _).mono ?_; rintro z w4 ⟨rfl, hb4⟩
      have HB4 := Lib.hid (HB3.out.trans (hb4.mono HB3.out.size))
      clear hb4
      go_wp2_with fail
      refine (awake_flo _).mono ?_; rintro z w5 ⟨rfl, hb5⟩
      have HB5 := Lib.hid (HB4.out.trans (hb5.mono HB4.out.size))
      clear hb5
      go_wp2_with fail
      go_ret
      exact ⟨rfl, HB5.out⟩
    · obtain ⟨-, hku, hkl, hul⟩ := up_key ha h1 h2
      have hkn : (kindZ (upN a) != 3) = true := by
        have : kindZ (upN a) ≠ 3 := fun h => by
          have := key_nan (kind3.1 h)
          omega
        simpa using this
      have HKU := Lib.hid (fun w => rkind_any (upN a) w hul)
      have HLU := Lib.hid (fun w => rless_any a (upN a) w ha hul)
      rw [hku, show decide (keyN a < keyN a + 1) = true from by simp] at HLU
      have HRU := Lib.hid (fun w => rkey_any (upN a) w hul)
      rw [hku, show ((keyN a + 1 : Nat) : Int) = (keyN a : Int) + 1 from by omega] at HRU
      have HRA := Lib.hid (fun w => rkey_any a w ha)
      have HLB := Lib.hid (fun w => rless_any a b w ha hb)
      have HLC := Lib.hid (fun w => rless_any b (upN a) w hb hul)
      rw [hku] at HLC
      have hk1 : (keyN a : Int) + 1 ≤ 18446744073709551615 := by omega
      have hs2 : kindZ a = 2 → (FloatKind.f64.format.order a 0 == some .gt) = false := by
        intro hk
        have h3 : a % S63 = INF := by
          unfold kindZ at hk
          rw [if_neg h1] at hk
          by_cases h3 : a % S63 = INF
          · exact h3
          · rw [if_neg h3] at hk
            by_cases h4 : a % S63 = 0
            · rw [if_pos h4] at hk; omega
            · rw [if_neg h4] at hk; omega
        rw [hs, if_neg (hnz h3), if_pos (show S63 ≤ a by unfold S63 INF at *; omega)]
        rfl
      have hk3 : (kindZ a == 3) = false := by
        have : kindZ a ≠ 3 := fun h => h1 (kind3.1 h)
        simpa using this
      generalize kindZ (upN a) = ku at *
      generalize kindZ a = kz at *
      generalize upN a = u at *
      generalize keyN b = kb at *
      generalize keyN a = ka at *
      clear hs h1 h2 hku hkl hul ha hb hnz
      by_cases hc : kz = 2
      · have hk2 : (kz == 2) = true := by simpa using hc
        have hs3 := hs2 hc
        clear hc hs2
        by_cases hd : ka < kb
        · rw [show decide (ka < kb) = true from by simpa using hd] at HLB
          rw [show decide (kb < ka + 1) = false from by simp; omega] at HLC
          clear hd
          go_enter Try.func13, Try.ntmps13
          go_wp2_with fail
          refine HUP.out.mono ?_; rintro z w1 ⟨rfl, rfl⟩
          go_wp2_with fail
          refine (HKA.out _).mono ?_; rintro z w2 ⟨rfl, hb2⟩
          have HB2 := Lib.hid hb2
          clear hb2
          go_wp2_with fail
          refine (HKA.out _).mono ?_; rintro z w3 ⟨rfl, hb3⟩
          have HB3 := Lib.hid (HB2.out.trans (hb3.mono HB2.out.size))
          clear hb3
          go_wp2_with fail
          refine (HKU.out _).mono ?_; rintro z w4 ⟨rfl, hb4⟩
          have HB4 := Lib.hid (HB3.out.trans (hb4.mono HB3.out.size))
          clear hb4
          go_wp2_with fail
          refine (HLU.out _).mono ?_; rintro z w5 ⟨rfl, hb5⟩
          have HB5 := Lib.hid (HB4.out.trans (hb5.mono HB4.out.size))
          clear hb5
          go_wp2_with fail
          refine (HRU.out _).mono ?_; rintro z w6 ⟨rfl, hb6⟩
          have HB6 := Lib.hid (HB5.out.trans (hb6.mono HB5.out.size))
          clear hb6
          go_wp2_with fail
          refine (HRA.out _).mono ?_; rintro z w7 ⟨rfl, hb7⟩
          have HB7 := Lib.hid (HB6.out.trans (hb7.mono HB6.out.size))
          clear hb7
          go_wp2_with fail
          refine (HLB.out _).mono ?_; rintro z w8 ⟨rfl, hb8⟩
          have HB8 := Lib.hid (HB7.out.trans (hb8.mono HB7.out.size))
          clear hb8
          go_wp2_with fail
          refine (HLC.out _).mono ?_; rintro z w9 ⟨rfl, hb9⟩
          have HB9 := Lib.hid (HB8.out.trans (hb9.mono HB8.out.size))
          clear hb9
          go_wp2_with fail
          refine (awake_flo _).mono ?_; rintro z w10 ⟨rfl, hb10⟩
          have HB10 := Lib.hid (HB9.out.trans (hb10.mono HB9.out.size))
          clear hb10
          go_wp2_with fail
          go_ret
          exact ⟨rfl, HB10.out⟩
        · rw [show decide (ka < kb) = false from by simpa using hd] at HLB
          clear hd HLC
          go_enter Try.func13, Try.ntmps13
          go_wp2_with fail
          refine HUP.out.mono ?_; rintro z w1 ⟨rfl, rfl⟩
          go_wp2_with fail
          refine (HKA.out _).mono ?_; rintro z w2 ⟨rfl, hb2⟩
          have HB2 := Lib.hid hb2
          clear hb2
          go_wp2_with fail
          refine (HKA.out _).mono ?_; rintro z w3 ⟨rfl, hb3⟩
          have HB3 := Lib.hid (HB2.out.trans (hb3.mono HB2.out.size))
          clear hb3
          go_wp2_with fail
          refine (HKU.out _).mono ?_; rintro z w4 ⟨rfl, hb4⟩
          have HB4 := Lib.hid (HB3.out.trans (hb4.mono HB3.out.size))
          clear hb4
          go_wp2_with fail
          refine (HLU.out _).mono ?_; rintro z w5 ⟨rfl, hb5⟩
          have HB5 := Lib.hid (HB4.out.trans (hb5.mono HB4.out.size))
          clear hb5
          go_wp2_with fail
          refine (HRU.out _).mono ?_; rintro z w6 ⟨rfl, hb6⟩
          have HB6 := Lib.hid (HB5.out.trans (hb6.mono HB5.out.size))
          clear hb6
          go_wp2_with fail
          refine (HRA.out _).mono ?_; rintro z w7 ⟨rfl, hb7⟩
          have HB7 := Lib.hid (HB6.out.trans (hb7.mono HB6.out.size))
          clear hb7
          go_wp2_with fail
          refine (HLB.out _).mono ?_; rintro z w8 ⟨rfl, hb8⟩
          have HB8 := Lib.hid (HB7.out.trans (hb8.mono HB7.out.size))
          clear hb8
          go_wp2_with fail
          refine (awake_flo _).mono ?_; rintro z w9 ⟨rfl, hb9⟩
          have HB9 := Lib.hid (HB8.out.trans (hb9.mono HB8.out.size))
          clear hb9
          go_wp2_with fail
          go_ret
          exact ⟨rfl, HB9.out⟩
      · have hk2 : (kz == 2) = false := by simpa using hc
        clear hc hs2
        by_cases hd : ka < kb
        · rw [show decide (ka < kb) = true from by simpa using hd] at HLB
          rw [show decide (kb < ka + 1) = false from by simp; omega] at HLC
          clear hd
          go_enter Try.func13, Try.ntmps13
          go_wp2_with fail
          refine HUP.out.mono ?_; rintro z w1 ⟨rfl, rfl⟩
          go_wp2_with fail
          refine (HKA.out _).mono ?_; rintro z w2 ⟨rfl, hb2⟩
          have HB2 := Lib.hid hb2
          clear hb2
          go_wp2_with fail
          refine (HKA.out _).mono ?_; rintro z w3 ⟨rfl, hb3⟩
          have HB3 := Lib.hid (HB2.out.trans (hb3.mono HB2.out.size))
          clear hb3
          go_wp2_with fail
          refine (HKU.out _).mono ?_; rintro z w4 ⟨rfl, hb4⟩
          have HB4 := Lib.hid (HB3.out.trans (hb4.mono HB3.out.size))
          clear hb4
          go_wp2_with fail
          refine (HLU.out _).mono ?_; rintro z w5 ⟨rfl, hb5⟩
          have HB5 := Lib.hid (HB4.out.trans (hb5.mono HB4.out.size))
          clear hb5
          go_wp2_with fail
          refine (HRU.out _).mono ?_; rintro z w6 ⟨rfl, hb6⟩
          have HB6 := Lib.hid (HB5.out.trans (hb6.mono HB5.out.size))
          clear hb6
          go_wp2_with fail
          refine (HRA.out _).mono ?_; rintro z w7 ⟨rfl, hb7⟩
          have HB7 := Lib.hid (HB6.out.trans (hb7.mono HB6.out.size))
          clear hb7
          go_wp2_with fail
          refine (HLB.out _).mono ?_; rintro z w8 ⟨rfl, hb8⟩
          have HB8 := Lib.hid (HB7.out.trans (hb8.mono HB7.out.size))
          clear hb8
          go_wp2_with fail
          refine (HLC.out _).mono ?_; rintro z w9 ⟨rfl, hb9⟩
          have HB9 := Lib.hid (HB8.out.trans (hb9.mono HB8.out.size))
          clear hb9
          go_wp2_with fail
          refine (awake_flo _).mono ?_; rintro z w10 ⟨rfl, hb10⟩
          have HB10 := Lib.hid (HB9.out.trans (hb10.mono HB9.out.size))
          clear hb10
          go_wp2_with fail
          go_ret
          exact ⟨rfl, HB10.out⟩
        · rw [show decide (ka < kb) = false from by simpa using hd] at HLB
          clear hd HLC
          go_enter Try.func13, Try.ntmps13
          go_wp2_with fail
          refine HUP.out.mono ?_; rintro z w1 ⟨rfl, rfl⟩
          go_wp2_with fail
          refine (HKA.out _).mono ?_; rintro z w2 ⟨rfl, hb2⟩
          have HB2 := Lib.hid hb2
          clear hb2
          go_wp2_with fail
          refine (HKA.out _).mono ?_; rintro z w3 ⟨rfl, hb3⟩
          have HB3 := Lib.hid (HB2.out.trans (hb3.mono HB2.out.size))
          clear hb3
          go_wp2_with fail
          refine (HKU.out _).mono ?_; rintro z w4 ⟨rfl, hb4⟩
          have HB4 := Lib.hid (HB3.out.trans (hb4.mono HB3.out.size))
          clear hb4
          go_wp2_with fail
          refine (HLU.out _).mono ?_; rintro z w5 ⟨rfl, hb5⟩
          have HB5 := Lib.hid (HB4.out.trans (hb5.mono HB4.out.size))
          clear hb5
          go_wp2_with fail
          refine (HRU.out _).mono ?_; rintro z w6 ⟨rfl, hb6⟩
          have HB6 := Lib.hid (HB5.out.trans (hb6.mono HB5.out.size))
          clear hb6
          go_wp2_with fail
          refine (HRA.out _).mono ?_; rintro z w7 ⟨rfl, hb7⟩
          have HB7 := Lib.hid (HB6.out.trans (hb7.mono HB6.out.size))
          clear hb7
          go_wp2_with fail
          refine (HLB.out _).mono ?_; rintro z w8 ⟨rfl, hb8⟩
          have HB8 := Lib.hid (HB7.out.trans (hb8.mono HB7.out.size))
          clear hb8
          go_wp2_with fail
          refine (awake_flo _).mono ?_; rintro z w9 ⟨rfl, hb9⟩
          have HB9 := Lib.hid (HB8.out.trans (hb9.mono HB8.out.size))
          clear hb9
          go_wp2_with fail
          go_ret
          exact ⟨rfl, HB9.out⟩
end Go.Proofs.Ytnbhcemgoifkgaa
