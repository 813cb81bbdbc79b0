/- Contracts of package flo's Key, Less, Same, Least, Most, From, Up. Conditions: words below 2^64. -/
import Derived.Test.YtnbhcemgoifkgaaFloD
namespace Go.Proofs.Ytnbhcemgoifkgaa
open Go.RowKit Ieee

/-- a word's key -/
def keyN (b : Nat) : Nat := if INF < b % S63 then 18446744073709551615 else if S63 ≤ b then 9223372036854775807 - b % S63 else S63 + b
theorem keyN_lt {b : Nat} (hb : b < 18446744073709551616) : keyN b < 18446744073709551616 := by
  unfold keyN S63 INF
  split
  · omega
  · split <;> omega

set_option maxHeartbeats 400000 in
theorem fkey_any (b : Nat) (w : World) (hb : b < 18446744073709551616) : Calls Try.prog 55 #[.float .f64 b] w fun e w' => e = .returned (.int .u64 (keyN b)) ∧ w = w' := by
  have hs := order_self hb
  have h1 := f64bits b
  unfold keyN
  by_cases hn : INF < b % S63
  · rw [if_pos hn] at hs ⊢
    clear hn hb
    go_enter Try.func55, Try.ntmps55
    go_wp2_with fail
    go_ret
    exact ⟨rfl, rfl⟩
  · rw [if_neg hn] at hs ⊢
    have hb' : (b : Int) ≤ 18446744073709551615 := by omega
    by_cases h2 : S63 ≤ b
    · rw [if_pos h2]
      have hm := and_mask (n := 63) hb (by decide)
      rw [show ((2 ^ 63 - 1 : Nat) : Int) = 9223372036854775807 from rfl, show (2 : Nat) ^ 63 = 9223372036854775808 from rfl] at hm
      have hq : (b : Int) / 9223372036854775808 = 1 := by unfold S63 at h2; omega
      have hr : b % 9223372036854775808 < 9223372036854775808 := Nat.mod_lt _ (by decide)
      show Calls _ _ _ _ fun e w' => e = .returned (.int .u64 ((9223372036854775807 - b % 9223372036854775808 : Nat) : Int)) ∧ w = w'
      generalize b % 9223372036854775808 = m at *
      have hm0 : (m : Int) ≤ 9223372036854775807 := by omega
      clear hn h2 hr hb
      go_enter Try.func55, Try.ntmps55
      go_wp2_with fail
      go_ret
      exact ⟨ret_int (by omega), rfl⟩
    · rw [if_neg h2]
      have hq : (b : Int) / 9223372036854775808 = 0 := by unfold S63 at h2; omega
      have hb2 : (b : Int) ≤ 9223372036854775807 := by unfold S63 at h2; omega
      show Calls _ _ _ _ fun e w' => e = .returned (.int .u64 ((9223372036854775808 + b : Nat) : Int)) ∧ w = w'
      clear hn h2 hb
      go_enter Try.func55, Try.ntmps55
      go_wp2_with fail
      go_ret
      exact ⟨ret_int (by omega), rfl⟩
theorem fless_any (a b : Nat) (w : World) (ha : a < 18446744073709551616) (hb : b < 18446744073709551616) : Calls Try.prog 59 #[.float .f64 a, .float .f64 b] w fun e w' => e = .returned (.bool (decide (keyN a < keyN b))) ∧ w = w' := by
  have hka := Lib.hid (fkey_any a w ha)
  have hkb := Lib.hid (fkey_any b w hb)
  clear ha hb
  generalize keyN a = x at *
  generalize keyN b = y at *
  go_enter Try.func59, Try.ntmps59
  go_wp2_with fail
  refine hka.out.mono ?_; rintro e w1 ⟨rfl, rfl⟩
  go_wp2_with fail
  refine hkb.out.mono ?_; rintro e w1 ⟨rfl, rfl⟩
  go_wp2_with fail
  go_ret
  exact ⟨ret_bool (by simp), rfl⟩
theorem fsame_any (a b : Nat) (w : World) (ha : a < 18446744073709551616) (hb : b < 18446744073709551616) : Calls Try.prog 60 #[.float .f64 a, .float .f64 b] w fun e w' => e = .returned (.bool (decide (keyN a = keyN b))) ∧ w = w' := by
  have hka := Lib.hid (fkey_any a w ha)
  have hkb := Lib.hid (fkey_any b w hb)
  clear ha hb
  generalize keyN a = x at *
  generalize keyN b = y at *
  go_enter Try.func60, Try.ntmps60
  go_wp2_with fail
  refine hka.out.mono ?_; rintro e w1 ⟨rfl, rfl⟩
  go_wp2_with fail
  refine hkb.out.mono ?_; rintro e w1 ⟨rfl, rfl⟩
  go_wp2_with fail
  go_ret
  exact ⟨ret_bool (by rw [Bool.eq_iff_iff]; simp; omega), rfl⟩
theorem fleast_any (a b : Nat) (w : World) (ha : a < 18446744073709551616) (hb : b < 18446744073709551616) : Calls Try.prog 61 #[.float .f64 a, .float .f64 b] w fun e w' => e = .returned (.float .f64 (if keyN b < keyN a then b else a)) ∧ w = w' := by
  have hl := fless_any b a w hb ha
  clear ha hb
  by_cases h : keyN b < keyN a
  · rw [if_pos h]
    rw [show decide (keyN b < keyN a) = true from by simpa using h] at hl
    have HL := Lib.hid hl
    clear hl h
    go_enter Try.func61, Try.ntmps61
    go_wp2_with fail
    refine HL.out.mono ?_; rintro e w1 ⟨rfl, rfl⟩
    go_wp2_with fail
    go_ret
    exact ⟨rfl, rfl⟩
  · rw [if_neg h]
    rw [show decide (keyN b < keyN a) = false from by simpa using h] at hl
    have HL := Lib.hid hl
    clear hl h
    go_enter Try.func61, Try.ntmps61
    go_wp2_with fail
    refine HL.out.mono ?_; rintro e w1 ⟨rfl, rfl⟩
    go_wp2_with fail
    go_ret
    exact ⟨rfl, rfl⟩
theorem fmost_any (a b : Nat) (w : World) (ha : a < 18446744073709551616) (hb : b < 18446744073709551616) : Calls Try.prog 63 #[.float .f64 a, .float .f64 b] w fun e w' => e = .returned (.float .f64 (if keyN a < keyN b then b else a)) ∧ w = w' := by
  have hl := fless_any a b w ha hb
  clear ha hb
  by_cases h : keyN a < keyN b
  · rw [if_pos h]
    rw [show decide (keyN a < keyN b) = true from by simpa using h] at hl
    have HL := Lib.hid hl
    clear hl h
    go_enter Try.func63, Try.ntmps63
    go_wp2_with fail
    refine HL.out.mono ?_; rintro e w1 ⟨rfl, rfl⟩
    go_wp2_with fail
    go_ret
    exact ⟨rfl, rfl⟩
  · rw [if_neg h]
    rw [show decide (keyN a < keyN b) = false from by simpa using h] at hl
    have HL := Lib.hid hl
    clear hl h
    go_enter Try.func63, Try.ntmps63
    go_wp2_with fail
    refine HL.out.mono ?_; rintro e w1 ⟨rfl, rfl⟩
    go_wp2_with fail
    go_ret
    exact ⟨rfl, rfl⟩

/-- the word of a key -/
def fromN (k : Nat) : Nat := if k = 18446744073709551615 then 9221120237041090561 else if 9223372036854775808 ≤ k then (if k ≤ 18442240474082181120 then k - 9223372036854775808 else 0) else if 4503599627370495 ≤ k then 9223372036854775808 + (9223372036854775807 - k) else 0
/-- is there one? -/
def fromB (k : Nat) : Bool := decide (k = 18446744073709551615 ∨ (4503599627370495 ≤ k ∧ k ≤ 18442240474082181120))

set_option maxHeartbeats 400000 in
theorem ffrom_any (k : Nat) (w : World) (hk : k < 18446744073709551616) : Calls Try.prog 54 #[.int .u64 k] w fun e w' => e = .returned (.tuple #[.float .f64 (fromN k), .bool (fromB k)]) ∧ w = w' := by
  unfold fromN fromB
  have hk1 : (k : Int) ≤ 18446744073709551615 := by omega
  by_cases h1 : k = 18446744073709551615
  · rw [if_pos h1, show decide (k = 18446744073709551615 ∨ (4503599627370495 ≤ k ∧ k ≤ 18442240474082181120)) = true from by simp [h1]]
    have hi : ((k : Int) == 18446744073709551615) = true := by simp; omega
    have hn := Lib.hid (nan_any w)
    clear h1 hk hk1
    go_enter Try.func54, Try.ntmps54
    go_wp2_with fail
    refine hn.out.mono ?_; rintro e w1 ⟨rfl, rfl⟩
    go_wp2_with fail
    go_ret2
    exact ⟨rfl, rfl⟩
  · rw [if_neg h1]
    have hi : ((k : Int) == 18446744073709551615) = false := by simp; omega
    by_cases h2 : 9223372036854775808 ≤ k
    · have h2' : (9223372036854775808 : Int) ≤ k := by omega
      rw [if_pos h2]
      by_cases h3 : k ≤ 18442240474082181120
      · rw [if_pos h3, show decide (k = 18446744073709551615 ∨ (4503599627370495 ≤ k ∧ k ≤ 18442240474082181120)) = true from by simp; omega]
        have h3' : (k : Int) - 9223372036854775808 ≤ 9218868437227405312 := by omega
        have hf := fun w => f64from ((k : Int) - 9223372036854775808) w
        rw [show ((k : Int) - 9223372036854775808).toNat = k - 9223372036854775808 from by omega] at hf
        generalize k - 9223372036854775808 = q at *
        clear h1 h2 h3 hk
        go_enter Try.func54, Try.ntmps54
        go_wp2_with fail
        go_ret2
        exact ⟨rfl, rfl⟩
      · rw [if_neg h3, show decide (k = 18446744073709551615 ∨ (4503599627370495 ≤ k ∧ k ≤ 18442240474082181120)) = false from by simp; omega]
        have h3' : ¬ ((k : Int) - 9223372036854775808 ≤ 9218868437227405312) := by omega
        have h3'' : ¬ ((k : Int) < 9223372036854775808) := by omega
        clear h1 h2 h3 hk
        go_enter Try.func54, Try.ntmps54
        go_wp2_with fail
        go_ret2
        exact ⟨rfl, rfl⟩
    · have h2' : ¬ ((9223372036854775808 : Int) ≤ k) := by omega
      have h2'' : (k : Int) < 9223372036854775808 := by omega
      rw [if_neg h2]
      by_cases h3 : 4503599627370495 ≤ k
      · rw [if_pos h3, show decide (k = 18446744073709551615 ∨ (4503599627370495 ≤ k ∧ k ≤ 18442240474082181120)) = true from by simp; omega]
        have h3' : 9223372036854775807 - (k : Int) ≤ 9218868437227405312 := by omega
        have ho := or_split (a := 9223372036854775808) (b := 9223372036854775807 - k) (n := 63) (by decide) (by decide) (by omega) (by omega)
        rw [show ((9223372036854775808 : Nat) : Int) = 9223372036854775808 from rfl, show ((9223372036854775807 - k : Nat) : Int) = 9223372036854775807 - (k : Int) from by omega] at ho
        have hf := fun w => f64from ((9223372036854775808 + (9223372036854775807 - k) : Nat) : Int) w
        rw [Int.toNat_natCast] at hf
        generalize 9223372036854775808 + (9223372036854775807 - k) = q at *
        clear h1 h2 h3 hk
        go_enter Try.func54, Try.ntmps54
        go_wp2_with fail
        go_ret2
        exact ⟨rfl, rfl⟩
      · rw [if_neg h3, show decide (k = 18446744073709551615 ∨ (4503599627370495 ≤ k ∧ k ≤ 18442240474082181120)) = false from by simp; omega]
        have h3' : ¬ (9223372036854775807 - (k : Int) ≤ 9218868437227405312) := by omega
        clear h1 h2 h3 hk
        go_enter Try.func54, Try.ntmps54
        go_wp2_with fail
        go_ret2
        exact ⟨rfl, rfl⟩
theorem isinf1_any (b : Nat) (w : World) (hb : b < 18446744073709551616) : Calls Try.prog 78 #[.float .f64 b, .int .i64 1] w fun e w' => e = .returned (.bool (decide (b = INF))) ∧ w = w' := by
  have ho : (FloatKind.f64.format.order b 9218868437227405311 == some .gt) = decide (b = INF) := by
    show (double.order b 9218868437227405311 == some .gt) = _
    by_cases h : INF < b % S63
    · rw [order_nan (.inl h)]
      have : ¬ b = INF := by intro e; rw [e] at h; exact absurd h (by decide)
      simp [this]
    · rw [order_num hb (by decide) (by omega) (by decide)]
      have h0 : sk 9218868437227405311 = 9218868437227405311 := by decide
      rw [h0]
      by_cases h1 : b = INF
      · rw [h1]; rfl
      · have h2 : sk b ≤ 9218868437227405311 := by
          unfold sk sg
          by_cases h3 : S63 ≤ b
          · rw [if_pos (by simpa using h3)]; omega
          · rw [if_neg (by simpa using h3)]
            unfold S63 INF at *
            omega
        have h4 : decide (b = INF) = false := by simpa using h1
        rw [h4]
        rcases Int.lt_or_eq_of_le h2 with h5 | h5
        · rw [cmp_lt h5]; rfl
        · rw [cmp_same h5]; rfl
  have HO := Lib.hid ho
  clear ho hb
  go_enter Try.func78, Try.ntmps78
  go_wp2_with fail
  go_ret
  exact ⟨ret_bool HO.out, rfl⟩
/-- the word that follows -/
def upN (b : Nat) : Nat := if INF < b % S63 ∨ b = INF then 9221120237041090561 else fromN (keyN b + 1)
theorem fup_any (b : Nat) (w : World) (hb : b < 18446744073709551616) : Calls Try.prog 58 #[.float .f64 b] w fun e w' => e = .returned (.float .f64 (upN b)) ∧ w = w' := by
  have hs := order_self hb
  have hn := Lib.hid (nan_any w)
  have hi := isinf1_any b w hb
  have hk := Lib.hid (fkey_any b w hb)
  unfold upN
  by_cases h1 : INF < b % S63
  · rw [if_pos h1] at hs
    rw [if_pos (.inl h1)]
    clear hi h1 hb
    go_enter Try.func58, Try.ntmps58
    go_wp2_with fail
    refine hn.out.mono ?_; rintro e w1 ⟨rfl, rfl⟩
    go_wp2_with fail
    go_ret
    exact ⟨rfl, rfl⟩
  · rw [if_neg h1] at hs
    by_cases h2 : b = INF
    · rw [if_pos (.inr h2)]
      rw [show decide (b = INF) = true from by simpa using h2] at hi
      have HI := Lib.hid hi
      clear hi h1 h2 hb
      go_enter Try.func58, Try.ntmps58
      go_wp2_with fail
      refine HI.out.mono ?_; rintro e w1 ⟨rfl, rfl⟩
      go_wp2_with fail
      refine hn.out.mono ?_; rintro e w1 ⟨rfl, rfl⟩
      go_wp2_with fail
      go_ret
      exact ⟨rfl, rfl⟩
    · rw [if_neg (fun h => by rcases h with h | h; exact h1 h; exact h2 h)]
      rw [show decide (b = INF) = false from by simpa using h2] at hi
      have HI := Lib.hid hi
      have hkl : keyN b + 1 < 18446744073709551616 := by
        unfold keyN
        rw [if_neg h1]
        unfold S63 INF at *
        split <;> omega
      have hf := Lib.hid (ffrom_any (keyN b + 1) w hkl)
      generalize hkk : keyN b = k at *
      have hk1 : (k : Int) + 1 ≤ 18446744073709551615 := by omega
      have hw : ((k + 1 : Nat) : Int) = (k : Int) + 1 := by omega
      rw [hw] at hf
      clear hi h1 h2 hb hkk hkl hw
      go_enter Try.func58, Try.ntmps58
      go_wp2_with fail
      refine HI.out.mono ?_; rintro e w1 ⟨rfl, rfl⟩
      go_wp2_with fail
      refine hk.out.mono ?_; rintro e w1 ⟨rfl, rfl⟩
      go_wp2_with fail
      refine hf.out.mono ?_; rintro e w1 ⟨rfl, rfl⟩
      go_wp2_with fail
      go_ret
      exact ⟨rfl, rfl⟩
end Go.Proofs.Ytnbhcemgoifkgaa
