/- Contracts of package nat's Bits, Of, Uint. Conditions: the words are below 2^32; at most 100000 of them. -/
import Derived.Test.YtnbhcemgoifkgaaNatK
namespace Go.Proofs.Ytnbhcemgoifkgaa
open Go.RowKit

/-- b is how many bits X has -/
def IsBits (X : Int) (b : Nat) : Prop := (X = 0 ∧ b = 0) ∨ (1 ≤ b ∧ 2 ^ (b - 1) ≤ X ∧ X < 2 ^ b)
theorem IsBits.unique {X : Int} {b c : Nat} (h : IsBits X b) (k : IsBits X c) : b = c := by
  rcases h with ⟨h1, h2⟩ | ⟨h1, h2, h3⟩ <;> rcases k with ⟨k1, k2⟩ | ⟨k1, k2, k3⟩
  · omega
  · have : (0 : Int) < 2 ^ (c - 1) := Int.pow_pos (by decide)
    omega
  · have : (0 : Int) < 2 ^ (b - 1) := Int.pow_pos (by decide)
    omega
  · rcases Nat.lt_trichotomy b c with h | h | h
    · have : (2 : Int) ^ b ≤ 2 ^ (c - 1) := ipow_le (by decide) (by omega)
      omega
    · exact h
    · have : (2 : Int) ^ c ≤ 2 ^ (b - 1) := ipow_le (by decide) (by omega)
      omega
theorem bits_of {X t : Int} {m j : Nat} (h0 : t * 4294967296 ^ m ≤ X) (h1 : X < (t + 1) * 4294967296 ^ m) (hj : 1 ≤ j) (h2 : 2 ^ (j - 1) ≤ t) (h3 : t < 2 ^ j) : IsBits X (32 * m + j) := by
  have e : (4294967296 : Int) ^ m = 2 ^ (32 * m) := by rw [Int.pow_mul]; rfl
  have hp : (0 : Int) < 4294967296 ^ m := Int.pow_pos (by decide)
  refine .inr ⟨by omega, ?_, ?_⟩
  · have h4 : (2 : Int) ^ (j - 1) * 4294967296 ^ m ≤ t * 4294967296 ^ m := Int.mul_le_mul_of_nonneg_right h2 (by omega)
    rw [e, ← Int.pow_add, show j - 1 + 32 * m = 32 * m + j - 1 from by omega, ← e] at h4
    omega
  · have h4 : (t + 1) * 4294967296 ^ m ≤ (2 : Int) ^ j * 4294967296 ^ m := Int.mul_le_mul_of_nonneg_right (by omega) (by omega)
    rw [e, ← Int.pow_add, show j + 32 * m = 32 * m + j from by omega, ← e] at h4
    omega
/-- the highest word, and what lies below it -/
theorem tl_word {xs : List Int} (hx : Dig 4294967296 xs) {m : Nat} (h : tl xs = m + 1) : xs.getD m 0 * 4294967296 ^ m ≤ V 4294967296 xs ∧ V 4294967296 xs < (xs.getD m 0 + 1) * 4294967296 ^ m ∧ 1 ≤ xs.getD m 0 := by
  have h1 := vf_tl (B := 4294967296) xs
  rw [h] at h1
  have h2 : vf 4294967296 (fun j => xs.getD j 0) (m + 1) = vf 4294967296 (fun j => xs.getD j 0) m + xs.getD m 0 * 4294967296 ^ m := rfl
  have h3 := vf_bd (B := 4294967296) (by decide) (f := fun j => xs.getD j 0) m fun i _ => hx.at (by decide) i
  have h4 := tl_top xs
  rw [h] at h4
  have h5 := (hx.at (by decide) m).1
  rw [Int.add_mul, Int.one_mul]
  simp at h4
  simp at h5
  refine ⟨by omega, by omega, ?_⟩
  simp
  omega

set_option maxHeartbeats 1000000 in
theorem bits_any (a : Option Addr) (n0 c : Nat) (xs : List Int) (w : World) (ha : RowK .u32 w a n0 c xs) (hx : Dig 4294967296 xs) (hn0 : n0 ≤ 100000) :
    Calls Try.prog 37 #[.slice a n0 c] w fun e w' => ∃ b : Nat, e = .returned (.int .i64 b) ∧ w = w' ∧ IsBits (V 4294967296 xs) b := by
  have HA := Lib.hid ha
  have HX := Lib.hid hx
  have SA := Lib.hid (size_any a n0 c xs w ha)
  have hn : tl xs ≤ n0 := by have := tl_le xs; rw [ha.1] at this; exact this
  have H0 := Lib.hid (tl_pos (B := 4294967296) (by decide) hx)
  have HW := Lib.hid (fun m (h : tl xs = m + 1) => tl_word hx h)
  clear ha hx
  generalize tl xs = n at *
  generalize V 4294967296 xs = X at *
  by_cases hz : n = 0
  · have HXZ := Lib.hid (H0.out.2 hz)
    subst hz
    go_enter Try.func37, Try.ntmps37
    go_wp2_with fail
    refine SA.out.mono ?_; rintro e w1 ⟨rfl, rfl⟩
    go_wp2_with fail
    go_ret
    exact ⟨0, rfl, rfl, .inl ⟨HXZ.out, rfl⟩⟩
  · obtain ⟨m, rfl⟩ : ∃ m, n = m + 1 := ⟨n - 1, by omega⟩
    obtain ⟨t0, t1, t2⟩ := HW.out m rfl
    have ht := HX.out.at (by decide) m
    obtain ⟨-, -, -, h4⟩ := HA.out
    rcases h4 with hcap0 | ⟨ba, oa, rfl, -, hc⟩
    · have := HA.out.2.1; omega
    have hc1 := hc m (by omega)
    generalize xs.getD m 0 = t at *
    have T0 := Lib.hid t0
    have T1 := Lib.hid t1
    obtain ⟨ht0, ht1⟩ := ht
    clear hc t0 t1
    go_enter Try.func37, Try.ntmps37
    go_wp2_with fail
    refine SA.out.mono ?_; rintro e w1 ⟨rfl, rfl⟩
    go_wp2_with fail
    go_loopg [4, 5] 32 (fun k bu tu wr => ∃ (j : Nat), bu = .int .i64 ((32 * m + j : Nat) : Int) ∧ tu = .int .u32 (t / 2 ^ j) ∧ j + k = 32 ∧ (j = 0 ∨ 2 ^ (j - 1) ≤ t) ∧ w = wr)
    case atStart => exact ⟨0, by go_num, by simp, rfl, .inl rfl, rfl⟩
    case round =>
      obtain ⟨j, rfl, rfl, hk, hjt, rfl⟩ := hrel
      have HK := Lib.hid hk
      have HJ := Lib.hid hjt
      clear hk hjt
      have hp : (0 : Int) < 2 ^ j := Int.pow_pos (by decide)
      have q0 : 0 ≤ t / 2 ^ j := Int.ediv_nonneg ht0 (by omega)
      by_cases hq : 0 < t / 2 ^ j
      · have hj2 : Hid ((2 : Int) ^ j ≤ t) := Lib.hid (by
          have := (Int.le_ediv_iff_mul_le hp).1 (show 1 ≤ t / 2 ^ j by omega)
          omega)
        have hlt : j < 32 := by
          rcases Nat.lt_or_ge j 32 with h | h
          · exact h
          · have h5 : (2 : Int) ^ 32 ≤ 2 ^ j := ipow_le (by decide) h
            have := hj2.out
            omega
        have HD2 : Hid (t / 2 ^ j / 2 = t / 2 ^ (j + 1)) := Lib.hid (by rw [Int.pow_succ, Int.ediv_ediv_of_nonneg (Int.le_of_lt hp)])
        obtain ⟨q, hqq⟩ : ∃ q, t / 2 ^ j = q := ⟨_, rfl⟩
        rw [hqq] at hq q0 HD2 ⊢
        clear hqq hp
        go_wp2_with fail
        go_roundg (gk - 1)
        case measure => have := HK.out; omega
        case rel => exact ⟨j + 1, by go_num, congrArg (Value.int .u32) HD2.out, by have := HK.out; omega, .inr hj2.out, rfl⟩
      · have HB : Hid (IsBits X (32 * m + j)) := Lib.hid (by
          have h5 : t < 2 ^ j := by
            have h6 : t / 2 ^ j < 1 := by omega
            have h7 := (Int.ediv_lt_iff_lt_mul hp).1 h6
            omega
          rcases HJ.out with h6 | h6
          · rw [h6] at h5; simp at h5; omega
          · have : 1 ≤ j := by
              rcases Nat.eq_zero_or_pos j with h7 | h7
              · rw [h7] at h5; simp at h5; omega
              · exact h7
            exact bits_of T0.out T1.out this h6 h5)
        have hjb : j ≤ 32 := by have := HK.out; omega
        obtain ⟨q, hqq⟩ : ∃ q, t / 2 ^ j = q := ⟨_, rfl⟩
        rw [hqq] at hq q0 ⊢
        clear hqq hp
        go_wp2_with fail
        go_ret
        exact ⟨_, rfl, rfl, HB.out⟩

/-- one word's number, trim -/
def ws (v : Int) : List Int := [v % 4294967296, v / 4294967296]
theorem ws_dig {v : Int} (h0 : 0 ≤ v) (h1 : v < 18446744073709551616) : Dig 4294967296 (ws v) := by
  intro d hd
  simp [ws] at hd
  omega
theorem ws_V {v : Int} : V 4294967296 (ws v) = v := by
  simp [ws, V, vf]
  omega
theorem RetNat.from {w w1 w2 : World} {z : Int} {e : Ending} (h : RetNat w1 z e w2) (hb : Below w.heap.size w w1) : RetNat w z e w2 := by
  obtain ⟨a, n, c, rfl, h1, h2, h3⟩ := h
  exact ⟨a, n, c, rfl, h1, hb.trans (h2.mono hb.size), h3.mono hb.size⟩

theorem nof_any (v : Int) (w : World) (h0 : 0 ≤ v) (h1 : v < 18446744073709551616) :
    Calls Try.prog 42 #[.int .u64 v] w (RetNat w v) := by
  have HD := Lib.hid (ws_dig h0 h1)
  have HV := Lib.hid (ws_V (v := v))
  go_enter Try.func42, Try.ntmps42
  go_wp2_with fail
  have hb : Below w.heap.size w (w.alloc (.cells #[.int .u32 (v % 4294967296), .int .u32 (v / 4294967296)] 55)) := (Below.refl _ _).alloc (Nat.le_refl _) _
  have harr : Arr .u32 55 (w.alloc (.cells #[.int .u32 (v % 4294967296), .int .u32 (v / 4294967296)] 55)) w.heap.size (ws v) := by
    show (w.alloc _).heap[w.heap.size]? = _
    rw [heap_alloc_new]
    simp [ws]
  refine (trim_any _ _ _ _ _ (harr.full (by simp [ws])) HD.out (by simp [ws])).mono ?_
  rw [HV.out]
  rintro e w2 h
  have H := Lib.hid (h.from hb)
  obtain ⟨a, n, c, rfl, -⟩ := h
  clear hb harr
  go_wp2_with fail
  go_ret
  exact H.out

/-- what nat.Uint says of a number -/
def UintOut (X : Int) (e : Ending) : Prop := (X < 18446744073709551616 → e = .returned (.tuple #[.int .u64 X, .bool true])) ∧ (18446744073709551616 ≤ X → e = .returned (.tuple #[.int .u64 0, .bool false]))
set_option maxHeartbeats 1000000 in
theorem nuint_any (a : Option Addr) (n0 c : Nat) (xs : List Int) (w : World) (ha : RowK .u32 w a n0 c xs) (hx : Dig 4294967296 xs) (hn0 : n0 ≤ 100000) :
    Calls Try.prog 40 #[.slice a n0 c] w fun e w' => UintOut (V 4294967296 xs) e ∧ Below w.heap.size w w' := by
  have HA := Lib.hid ha
  have HX := Lib.hid hx
  have SA := Lib.hid (size_any a n0 c xs w ha)
  have hn : tl xs ≤ n0 := by have := tl_le xs; rw [ha.1] at this; exact this
  have FX := Lib.hid (vf_tl (B := 4294967296) xs)
  have HGE := Lib.hid (tl_ge (B := 4294967296) (by decide) hx)
  have HLT := Lib.hid (tl_bd (B := 4294967296) (by decide) hx)
  clear ha hx
  generalize tl xs = n at *
  generalize V 4294967296 xs = X at *
  obtain ⟨-, hcap, hmax, h4⟩ := HA.out
  unfold maxLen at hmax
  by_cases h0 : n = 0
  · have HXZ : Hid (X = 0) := Lib.hid (by have h := FX.out; rw [h0] at h; exact h.symm)
    have H := Lib.hid HXZ.out
    clear h4 HGE HLT FX
    subst h0
    go_enter Try.func40, Try.ntmps40
    go_wp2_with fail
    refine SA.out.mono ?_; rintro e w1 ⟨rfl, rfl⟩
    go_wp2_with fail
    go_ret2
    exact ⟨⟨fun _ => by rw [HXZ.out]; rfl, fun h => by have := HXZ.out; omega⟩, Below.refl _ _⟩
  · rcases h4 with hcap0 | ⟨ba, oa, rfl, -, hc⟩
    · omega
    have c0 := hc 0 (by omega)
    rw [Nat.add_zero] at c0
    have r0 := HX.out.at (by decide) 0
    by_cases h1 : n = 1
    · have HX1 : Hid (X = xs.getD 0 0) := Lib.hid (by have h := FX.out; rw [h1] at h; simp [vf] at h; simp; omega)
      clear HGE HLT FX hc
      generalize xs.getD 0 0 = x at *
      subst h1
      go_enter Try.func40, Try.ntmps40
      go_wp2_with fail
      refine SA.out.mono ?_; rintro e w1 ⟨rfl, rfl⟩
      go_wp2_with fail
      go_ret2
      exact ⟨⟨fun _ => by rw [HX1.out]; rfl, fun h => by have := HX1.out; omega⟩, Below.refl _ _⟩
    · have r1 := HX.out.at (by decide) 1
      have c1 := hc 1 (by omega)
      by_cases h2 : n = 2
      · have HX2 : Hid (X = xs.getD 1 0 * 4294967296 + xs.getD 0 0) := Lib.hid (by have h := FX.out; rw [h2] at h; simp [vf] at h; simp; omega)
        clear HGE HLT FX hc
        generalize xs.getD 0 0 = x at *
        generalize xs.getD 1 0 = y at *
        have e1 : IntKind.u64.wrap (y * 4294967296) = y * 4294967296 := IntWalk.u64_in _ (by omega)
        have e2 := hi_lo r1.1 r1.2 r0.1 r0.2
        subst h2
        go_enter Try.func40, Try.ntmps40
        go_wp2_with fail
        refine SA.out.mono ?_; rintro e w1 ⟨rfl, rfl⟩
        go_wp2_with fail
        go_quiet (fail)
        go_wp2_with fail
        go_ret2
        exact ⟨⟨fun _ => by rw [HX2.out]; rfl, fun h => by have := HX2.out; omega⟩, below_dn (Below.refl _ _) _⟩
      · have HX3 : Hid (18446744073709551616 ≤ X) := Lib.hid (by
          have h := HGE.out (by omega)
          have h3 : (4294967296 : Int) ^ 2 ≤ 4294967296 ^ (n - 1) := ipow_le (by decide) (by omega)
          omega)
        clear HGE HLT FX hc c0 c1 r0 r1
        go_enter Try.func40, Try.ntmps40
        go_wp2_with fail
        refine SA.out.mono ?_; rintro e w1 ⟨rfl, rfl⟩
        go_wp2_with fail
        go_ret2
        exact ⟨⟨fun h => by have := HX3.out; omega, fun _ => rfl⟩, Below.refl _ _⟩
end Go.Proofs.Ytnbhcemgoifkgaa
