/- Contracts of package flo's bit and Join. Conditions: at most 150 words; an int64 place. -/
import Derived.Test.YtnbhcemgoifkgaaFloK
import Derived.Deep.DeepCutAuto
namespace Go.Proofs.Ytnbhcemgoifkgaa
open Go.RowKit Ieee

set_option maxRecDepth 100000 in
set_option maxHeartbeats 1000000 in
theorem fbit_any (a : Option Addr) (n c : Nat) (xs : List Int) (i : Nat) (w : World) (ha : RowK .u32 w a n c xs) (hx : Dig 4294967296 xs) (hi : (i : Int) ≤ 1000000) :
    Calls Try.prog 83 #[.slice a n c, .int .i64 i] w fun e w' => e = .returned (.bool (decide (V 4294967296 xs / 2 ^ i % 2 = 1))) ∧ w = w' := by
  have hq : (i : Int) / 32 = ((i / 32 : Nat) : Int) := by omega
  have hr : (i : Int) % 32 = ((i % 32 : Nat) : Int) := by omega
  have hn : n ≤ 9223372036854775807 := by have := ha.2.1; have := ha.2.2.1; unfold maxLen at this; omega
  by_cases hlt : i / 32 < n
  · have hbit := bit_at (i := i / 32) (j := i % 32) hx (by rw [ha.1]; exact hlt) (by omega)
    rw [show 32 * (i / 32) + i % 32 = i from by omega] at hbit
    have hdr := hx.at (by decide) (i / 32)
    obtain ⟨-, h5, -, h4⟩ := ha
    rcases h4 with hcap0 | ⟨ba, oa, rfl, -, hc⟩
    · omega
    have hc1 := hc _ hlt
    clear hc
    obtain ⟨y, hy⟩ : ∃ y, xs.getD (i / 32) 0 = y := ⟨_, rfl⟩
    rw [hy] at hbit hdr hc1
    clear hy
    generalize hiq : i / 32 = iq at *
    generalize hir : i % 32 = ir at *
    have g0 : (0 : Int) ≤ (iq : Int) := by omega
    have g1 : (iq : Int) < (n : Int) := by omega
    have g2 : (0 : Int) ≤ (ir : Int) := by omega
    have g3 : (ir : Int) < 32 := by omega
    obtain ⟨hy0, hy1⟩ := hdr
    obtain ⟨v, hv⟩ : ∃ v, y / 2 ^ ir = v := ⟨_, rfl⟩
    have hv0 : 0 ≤ v := by rw [← hv]; exact Int.ediv_nonneg hy0 (Int.le_of_lt (Int.pow_pos (by decide)))
    rw [hv] at hbit
    rw [← hbit]
    clear hbit hiq hir
    by_cases hv2 : v % 2 = 1
    · have hv2' : (v % 2 == 1) = true := by simpa using hv2
      rw [show decide (v % 2 = 1) = true from by simpa using hv2]
      clear hv2
      go_enter Try.func83, Try.ntmps83
      go_wp2_with fail
      go_ret
      exact ⟨rfl, rfl⟩
    · have hv2' : (v % 2 == 1) = false := by simpa using hv2
      rw [show decide (v % 2 = 1) = false from by simpa using hv2]
      clear hv2
      go_enter Try.func83, Try.ntmps83
      go_wp2_with fail
      go_ret
      exact ⟨rfl, rfl⟩
  · have hz : V 4294967296 xs / 2 ^ i = 0 := by
      obtain ⟨h1, h2⟩ := V_bd (B := 4294967296) (by decide) hx
      rw [ha.1] at h2
      refine Int.ediv_eq_zero_of_lt h1 (Int.lt_of_lt_of_le h2 ?_)
      rw [show (4294967296 : Int) = 2 ^ 32 from rfl, ← Int.pow_mul]
      exact ipow_le (by decide) (by omega)
    rw [hz]
    have hnl : ¬ (((i / 32 : Nat) : Int) < (n : Int)) := by omega
    generalize i / 32 = iq at *
    clear hz ha hx
    go_enter Try.func83, Try.ntmps83
    go_wp2_with fail
    go_ret
    exact ⟨rfl, rfl⟩

def bigE (n e : Int) : Bool := decide (1100 < e ∨ (-1100 < e ∧ 1023 < n - 1 + e))
def smallE (n e : Int) : Bool := decide (e < -2200 - n ∨ n - 1 + e < -1076)
def unitE (n e : Int) : Int := max (n - 53 + e) (-1074)
/-- the word of X 2^e, with a sign -/
def joinN (neg : Bool) (X : Nat) (e : Int) : Nat := if neg then S63 + nearN X e else nearN X e
theorem nearest_min (f : Format) (mag : Nat) (place : Int) (h : ¬ mag = 0) : ∃ k, f.nearest false mag place = min k f.infRung := by
  unfold Format.nearest
  rw [if_neg h]
  exact ⟨_, rfl⟩
theorem near_le (X : Nat) (e : Int) : nearN X e ≤ INF := by
  by_cases h : X = 0
  · subst h; exact Nat.zero_le _
  · obtain ⟨k, hk⟩ := nearest_min double X e h
    show double.nearest false X e ≤ INF
    rw [hk, dbl_inf]
    exact Nat.min_le_right _ _
/-- flo.signed of a number's rung -/
theorem fsigned_near (neg : Bool) (X : Nat) (e : Int) (r : Nat) (w : World) (h : nearN X e = r) : Calls Try.prog 80 #[.bool neg, .float .f64 r] w fun x w' => x = .returned (.float .f64 (joinN neg X e)) ∧ w = w' := by
  have hle := near_le X e
  rw [h] at hle
  unfold INF at hle
  have hs := fsigned_any neg r w (by omega)
  rw [show r % S63 = r from Nat.mod_eq_of_lt (by unfold S63; omega)] at hs
  unfold joinN
  rw [h]
  exact hs
/-- the rounding by a bit, and what is below it -/
theorem rne_bits {X c r v : Nat} (hc : 0 < c) (h0 : 0 < X) (hr : IsHalf (X : Int) r) (hv : v = X / 2 ^ c) :
    rne X (2 ^ c) = if X / 2 ^ (c - 1) % 2 = 1 ∧ (v % 2 = 1 ∨ r < c - 1) then v + 1 else v := by
  obtain ⟨d, rfl⟩ : ∃ d, c = d + 1 := ⟨c - 1, by omega⟩
  rw [Nat.add_sub_cancel]
  have hp := Nat.two_pow_pos d
  have e1 : 2 ^ (d + 1) = 2 ^ d * 2 := Nat.pow_succ 2 d
  have e2 : X / 2 ^ (d + 1) = X / 2 ^ d / 2 := by rw [e1, Nat.div_div_eq_div_mul]
  have e3 : X % 2 ^ (d + 1) = X % 2 ^ d + 2 ^ d * (X / 2 ^ d % 2) := by rw [e1, Nat.mod_mul]
  have hlow := Nat.mod_lt X hp
  have hhalf : r < d ↔ X % 2 ^ d ≠ 0 := by
    rcases hr with ⟨h1, -⟩ | ⟨o, ho⟩
    · omega
    · have hd := Int.mul_ediv_add_emod (X : Int) (2 ^ d)
      have hcast : ((X % 2 ^ d : Nat) : Int) = (X : Int) % 2 ^ d := by
        rw [Int.natCast_emod, Int.natCast_pow]; rfl
      constructor
      · intro hlt hz
        have hz2 : (X : Int) % 2 ^ d = 0 := by rw [← hcast, hz]; rfl
        rw [hz2, Int.add_zero, ho] at hd
        obtain ⟨g, rfl⟩ : ∃ g, d = r + 1 + g := ⟨d - r - 1, by omega⟩
        have p2 : (0 : Int) < 2 ^ r := Int.pow_pos (by decide)
        have e4 : (2 : Int) ^ (r + 1 + g) * (2 ^ r * (2 * o + 1) / 2 ^ (r + 1 + g)) = 2 ^ r * (2 * (2 ^ g * (2 ^ r * (2 * o + 1) / 2 ^ (r + 1 + g)))) := by
          rw [Int.pow_add, Int.pow_succ, Int.mul_assoc, Int.mul_assoc]
        rw [e4] at hd
        have := Int.eq_of_mul_eq_mul_left (Int.ne_of_gt p2) hd
        omega
      · intro hz
        rcases Nat.lt_or_ge r d with h | h
        · exact h
        · exfalso
          apply hz
          have : (X : Int) % 2 ^ d = 0 := by
            rw [ho]
            obtain ⟨g, rfl⟩ : ∃ g, r = d + g := ⟨r - d, by omega⟩
            rw [Int.pow_add, Int.mul_assoc]
            exact Int.mul_emod_right _ _
          omega
  subst hv
  unfold rne
  rw [e2, e3, e1]
  have hb : X / 2 ^ d % 2 = 0 ∨ X / 2 ^ d % 2 = 1 := by omega
  generalize X / 2 ^ d / 2 = v at *
  generalize X % 2 ^ d = l at *
  generalize (2 : Nat) ^ d = P at *
  rcases hb with hb | hb
  · rw [hb, if_neg (by omega)]
    have h1 : decide (P * 2 < 2 * (l + P * 0)) = false := by simp; omega
    have h2 : decide (P * 2 = 2 * (l + P * 0)) = false := by simp; omega
    rw [h1, h2]; rfl
  · rw [hb]
    by_cases hl : l = 0
    · have h1 : decide (P * 2 < 2 * (l + P * 1)) = false := by simp; omega
      have h2 : decide (P * 2 = 2 * (l + P * 1)) = true := by simp; omega
      rw [h1, h2]
      by_cases hv : v % 2 = 1
      · rw [if_pos ⟨rfl, .inl hv⟩]; simp [hv]
      · rw [if_neg (by intro h; rcases h.2 with h | h; exact hv h; exact (hhalf.1 h) hl)]; simp [hv]
    · have h1 : decide (P * 2 < 2 * (l + P * 1)) = true := by simp; omega
      rw [h1, if_pos ⟨rfl, .inr (hhalf.2 hl)⟩]
      rfl
end Go.Proofs.Ytnbhcemgoifkgaa
