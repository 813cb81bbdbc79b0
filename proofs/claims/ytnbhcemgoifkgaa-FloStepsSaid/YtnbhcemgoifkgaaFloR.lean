/- The walks of the laws FloKeys and FloSteps. No conditions. -/
import Derived.Test.YtnbhcemgoifkgaaFloQ
namespace Go.Proofs.Ytnbhcemgoifkgaa
open Go.RowKit Ieee

theorem wf_u64f {n : Int} (h : (Lit.int .u64 n).wf = true) : 0 ≤ n ∧ n ≤ 18446744073709551615 := by
  simp [Lit.wf, IntKind.min, IntKind.max, IntKind.signed, IntKind.bits] at h; omega
theorem fromN_lt {k : Nat} : fromN k < 18446744073709551616 := by
  unfold fromN
  split
  · decide
  · split
    · split <;> omega
    · split <;> omega
/-- the key of a key's word -/
theorem key_from {k : Nat} (hk : k < 18446744073709551616) (h : fromB k = true) : keyN (fromN k) = k := by
  unfold fromB at h
  have h2 := of_decide_eq_true h
  unfold fromN
  by_cases h1 : k = 18446744073709551615
  · rw [if_pos h1, h1]; decide
  · rw [if_neg h1]
    by_cases h3 : 9223372036854775808 ≤ k
    · rw [if_pos h3, if_pos (by omega)]
      unfold keyN S63 INF
      rw [if_neg (by omega), if_neg (by omega)]
      omega
    · rw [if_neg h3, if_pos (by omega)]
      unfold keyN S63 INF
      rw [if_neg (by omega), if_pos (by omega)]
      omega
theorem fromB_key {a : Nat} (ha : a < 18446744073709551616) : fromB (keyN a) = true := by
  unfold fromB keyN
  apply decide_eq_true
  unfold S63 INF
  split
  · exact .inl rfl
  · right
    split <;> omega
theorem from_none {k : Nat} (h : fromB k = false) : fromN k = 0 ∧ (k < 4503599627370495 ∨ 18442240474082181120 < k) ∧ k ≠ 18446744073709551615 := by
  unfold fromB at h
  have h2 := of_decide_eq_false h
  refine ⟨?_, by omega, by omega⟩
  unfold fromN
  rw [if_neg (by omega)]
  by_cases h3 : 9223372036854775808 ≤ k
  · rw [if_pos h3, if_neg (by omega)]
  · rw [if_neg h3, if_neg (by omega)]

set_option maxHeartbeats 2000000 in
theorem walk_keys (a b : Nat) (k : Int) (w : World) (w0 : (Lit.float .f64 a).wf = true) (w1 : (Lit.float .f64 b).wf = true) (w2 : (Lit.int .u64 k).wf = true) :
    Calls Try.prog 12 #[.float .f64 a, .float .f64 b, .int .u64 k] w fun e w' => e = .returned (.bool true) ∧ Below w.heap.size w w' := by
  have ha := wf_f64 w0
  have hb := wf_f64 w1
  obtain ⟨hk0, hk1⟩ := wf_u64f w2
  clear w0 w1 w2
  obtain ⟨K, rfl⟩ : ∃ K : Nat, k = K := ⟨k.toNat, by omega⟩
  have hK : K < 18446744073709551616 := by omega
  have HFR := Lib.hid (ffrom_any K w hK)
  have HKA := Lib.hid (fun w => fkey_any a w ha)
  have HKB := Lib.hid (fun w => fkey_any b w hb)
  have HRA := Lib.hid (fun w => rkey_any a w ha)
  have HRL := Lib.hid (fun w => rless_any a b w ha hb)
  have hkal := keyN_lt ha
  have hkbl := keyN_lt hb
  have HF2 := Lib.hid (fun w => ffrom_any (keyN a) w hkal)
  rw [fromB_key ha] at HF2
  have HS2 := Lib.hid (fun w => rsame_any (fromN (keyN a)) a w fromN_lt ha)
  rw [show decide (keyN (fromN (keyN a)) = keyN a) = true from by simpa using key_from hkal (fromB_key ha)] at HS2
  generalize fromN (keyN a) = fa at *
  generalize keyN a = ka at *
  generalize keyN b = kb at *
  by_cases hB : fromB K = true
  · have HRK := Lib.hid (fun w => rkey_any (fromN K) w fromN_lt)
    rw [key_from hK hB] at HRK
    rw [hB] at HFR
    generalize fromN K = fk at *
    have hcmp : ((ka : Int) < (kb : Int)) = (ka < kb) := by simp
    clear ha hb hB hK hkal hkbl
    go_enter Try.func12, Try.ntmps12
    go_wp2_with fail
    refine HFR.out.mono ?_; rintro z w1 ⟨rfl, rfl⟩
    go_wp2_with fail
    refine (HKA.out _).mono ?_; rintro z w1 ⟨rfl, rfl⟩
    go_wp2_with fail
    refine (HRA.out _).mono ?_; rintro z w1 ⟨rfl, hb1⟩
    have HB1 := Lib.hid hb1
    clear hb1
    go_wp2_with fail
    refine (HKA.out _).mono ?_; rintro z w2 ⟨rfl, rfl⟩
    go_wp2_with fail
    refine (HKB.out _).mono ?_; rintro z w2 ⟨rfl, rfl⟩
    go_wp2_with fail
    refine (HRL.out _).mono ?_; rintro z w2 ⟨rfl, hb2⟩
    have HB2 := Lib.hid (HB1.out.trans (hb2.mono HB1.out.size))
    clear hb2
    go_wp2_with fail
    refine (HKA.out _).mono ?_; rintro z w3 ⟨rfl, rfl⟩
    go_wp2_with fail
    refine (HF2.out _).mono ?_; rintro z w3 ⟨rfl, rfl⟩
    go_wp2_with fail
    refine (HRK.out _).mono ?_; rintro z w3 ⟨rfl, hb3⟩
    have HB3 := Lib.hid (HB2.out.trans (hb3.mono HB2.out.size))
    clear hb3
    go_wp2_with fail
    refine (HS2.out _).mono ?_; rintro z w4 ⟨rfl, hb4⟩
    have HB4 := Lib.hid (HB3.out.trans (hb4.mono HB3.out.size))
    clear hb4
    go_wp2_with fail
    refine (awake_flo _).mono ?_; rintro z w5 ⟨rfl, hb5⟩
    have HB5 := Lib.hid (HB4.out.trans (hb5.mono HB4.out.size))
    clear hb5
    go_wp2_with fail
    go_ret
    exact ⟨rfl, HB5.out⟩
  · have hB2 : fromB K = false := by simpa using hB
    obtain ⟨hz, hr, hne⟩ := from_none hB2
    rw [hB2, hz] at HFR
    have HS0 := Lib.hid (fun w => rsame_any 0 0 w (by decide) (by decide))
    rw [show decide (keyN 0 = keyN 0) = true from by simp] at HS0
    have hne2 : ((K : Int) != 18446744073709551615) = true := by simp; omega
    have hcmp : ((ka : Int) < (kb : Int)) = (ka < kb) := by simp
    clear ha hb hB hB2 hz hkal hkbl hne hK
    rcases hr with hr | hr
    · have hr2 : decide ((K : Int) < 4503599627370495) = true := by simp; omega
      clear hr
      go_enter Try.func12, Try.ntmps12
      go_wp2_with fail
      refine HFR.out.mono ?_; rintro z w1 ⟨rfl, rfl⟩
      go_wp2_with fail
      refine (HKA.out _).mono ?_; rintro z w1 ⟨rfl, rfl⟩
      go_wp2_with fail
      refine (HRA.out _).mono ?_; rintro z w1 ⟨rfl, hb1⟩
      have HB1 := Lib.hid hb1
      clear hb1
      go_wp2_with fail
      refine (HKA.out _).mono ?_; rintro z w2 ⟨rfl, rfl⟩
      go_wp2_with fail
      refine (HKB.out _).mono ?_; rintro z w2 ⟨rfl, rfl⟩
      go_wp2_with fail
      refine (HRL.out _).mono ?_; rintro z w2 ⟨rfl, hb2⟩
      have HB2 := Lib.hid (HB1.out.trans (hb2.mono HB1.out.size))
      clear hb2
      go_wp2_with fail
      refine (HS0.out _).mono ?_; rintro z w3 ⟨rfl, hb3⟩
      have HB3 := Lib.hid (HB2.out.trans (hb3.mono HB2.out.size))
      clear hb3
      go_wp2_with fail
      refine (awake_flo _).mono ?_; rintro z w5 ⟨rfl, hb5⟩
      have HB5 := Lib.hid (HB3.out.trans (hb5.mono HB3.out.size))
      clear hb5
      go_wp2_with fail
      go_ret
      exact ⟨rfl, HB5.out⟩
    · have hr2 : decide ((K : Int) < 4503599627370495) = false := by simp; omega
      have hr3 : decide ((18442240474082181120 : Int) < (K : Int)) = true := by simp; omega
      clear hr
      go_enter Try.func12, Try.ntmps12
      go_wp2_with fail
      refine HFR.out.mono ?_; rintro z w1 ⟨rfl, rfl⟩
      go_wp2_with fail
      refine (HKA.out _).mono ?_; rintro z w1 ⟨rfl, rfl⟩
      go_wp2_with fail
      refine (HRA.out _).mono ?_; rintro z w1 ⟨rfl, hb1⟩
      have HB1 := Lib.hid hb1
      clear hb1
      go_wp2_with fail
      refine (HKA.out _).mono ?_; rintro z w2 ⟨rfl, rfl⟩
      go_wp2_with fail
      refine (HKB.out _).mono ?_; rintro z w2 ⟨rfl, rfl⟩
      go_wp2_with fail
      refine (HRL.out _).mono ?_; rintro z w2 ⟨rfl, hb2⟩
      have HB2 := Lib.hid (HB1.out.trans (hb2.mono HB1.out.size))
      clear hb2
      go_wp2_with fail
      refine (HS0.out _).mono ?_; rintro z w3 ⟨rfl, hb3⟩
      have HB3 := Lib.hid (HB2.out.trans (hb3.mono HB2.out.size))
      clear hb3
      go_wp2_with fail
      refine (awake_flo _).mono ?_; rintro z w5 ⟨rfl, hb5⟩
      have HB5 := Lib.hid (HB3.out.trans (hb5.mono HB3.out.size))
      clear hb5
      go_wp2_with fail
      go_ret
      exact ⟨rfl, HB5.out⟩
end Go.Proofs.Ytnbhcemgoifkgaa
