/- Contract of package flo's Split. Conditions: a word below 2^64. -/
import Derived.Test.YtnbhcemgoifkgaaFloG
namespace Go.Proofs.Ytnbhcemgoifkgaa
open Go.RowKit Ieee

/-- N is m 2^k, m odd -/
def OddOf (N m k : Nat) : Prop := N = m * 2 ^ k ∧ m % 2 = 1
theorem OddOf.unique {N m k m' k' : Nat} (h : OddOf N m k) (h' : OddOf N m' k') : m = m' ∧ k = k' := by
  obtain ⟨h1, h2⟩ := h
  obtain ⟨h3, h4⟩ := h'
  have key : ∀ {a b i j : Nat}, a * 2 ^ i = b * 2 ^ j → a % 2 = 1 → b % 2 = 1 → i < j → False := by
    intro a b i j he ha hb hij
    obtain ⟨d, rfl⟩ : ∃ d, j = i + 1 + d := ⟨j - i - 1, by omega⟩
    have e : a = b * 2 ^ d * 2 := by
      apply Nat.eq_of_mul_eq_mul_right (Nat.two_pow_pos i)
      rw [he, Nat.pow_add, Nat.pow_succ]
      ac_rfl
    omega
  rcases Nat.lt_trichotomy k k' with h | h | h
  · exact (key (h1.symm.trans h3) h2 h4 h).elim
  · subst h
    exact ⟨Nat.eq_of_mul_eq_mul_right (Nat.two_pow_pos k) (h1.symm.trans h3), rfl⟩
  · exact (key (h3.symm.trans h1) h4 h2 h).elim
/-- what the two Splits answer -/
def SplitOut (b : Nat) (neg : Bool) (m e : Int) : Prop :=
  (kindZ b ≠ 1 ∧ neg = belowB b ∧ m = 0 ∧ e = 0) ∨ (kindZ b = 1 ∧ neg = decide (S63 ≤ b) ∧ ∃ M k : Nat, m = (M : Int) ∧ e = (k : Int) - 1074 ∧ OddOf (iv (b % S63)) M k)
def RSplit (b : Nat) (w : World) (e : Ending) (w' : World) : Prop := ∃ neg m x, e = .returned (.tuple #[.bool neg, .int .u64 m, .int .i64 x]) ∧ SplitOut b neg m x ∧ w = w'
theorem SplitOut.one {b : Nat} {n n' : Bool} {m m' e e' : Int} (h : SplitOut b n m e) (h' : SplitOut b n' m' e') : n = n' ∧ m = m' ∧ e = e' := by
  rcases h with ⟨h1, rfl, rfl, rfl⟩ | ⟨h1, rfl, M, k, rfl, rfl, ho⟩
  · rcases h' with ⟨_, rfl, rfl, rfl⟩ | ⟨h2, _⟩
    · exact ⟨rfl, rfl, rfl⟩
    · exact absurd h2 h1
  · rcases h' with ⟨h2, _⟩ | ⟨_, rfl, M', k', rfl, rfl, ho'⟩
    · exact absurd h1 h2
    · obtain ⟨rfl, rfl⟩ := ho.unique ho'
      exact ⟨rfl, rfl, rfl⟩
theorem kind1 {b : Nat} : kindZ b = 1 ↔ (0 < b % S63 ∧ b % S63 < INF) := by
  unfold kindZ
  constructor
  · intro h
    by_cases h1 : INF < b % S63
    · rw [if_pos h1] at h; omega
    · rw [if_neg h1] at h
      by_cases h2 : b % S63 = INF
      · rw [if_pos h2] at h; omega
      · rw [if_neg h2] at h
        by_cases h3 : b % S63 = 0
        · rw [if_pos h3] at h; omega
        · exact ⟨by omega, by omega⟩
  · intro h
    rw [if_neg (by omega), if_neg (by omega), if_neg (by omega)]
theorem ret_tri {x y : Bool} {a b c d : Int} (h1 : x = y) (h2 : a = b) (h3 : c = d) : Ending.returned (.tuple #[.bool x, .int .u64 a, .int .i64 c]) = .returned (.tuple #[.bool y, .int .u64 b, .int .i64 d]) := by rw [h1, h2, h3]

set_option maxRecDepth 100000 in
set_option maxHeartbeats 2000000 in
theorem fsplit_any (b : Nat) (w : World) (hb : b < 18446744073709551616) :
    Calls Try.prog 46 #[.float .f64 b] w (RSplit b w) := by
  have h1 := f64bits b
  have HK := Lib.hid (fkind_any b w hb)
  have hb' : (b : Int) ≤ 18446744073709551615 := by omega
  obtain ⟨s, hs, hs2⟩ : ∃ s : Nat, (b : Int) / 9223372036854775808 = (s : Int) ∧ ((s : Int) == 1) = decide (S63 ≤ b) := by
    refine ⟨b / 9223372036854775808, by omega, ?_⟩
    rw [Bool.eq_iff_iff]
    unfold S63
    simp
    omega
  by_cases hk : kindZ b = 1
  · have hk1 := kind1.1 hk
    rw [hk] at HK
    have hE : (b / 4503599627370496) % 2048 = b % S63 / 4503599627370496 := by unfold S63; omega
    have ha := and_mask (a := b / 4503599627370496) (n := 11) (by omega) (by decide)
    rw [show ((2 ^ 11 - 1 : Nat) : Int) = 2047 from rfl, show (2 : Nat) ^ 11 = 2048 from rfl, hE] at ha
    have hq : (b : Int) / 4503599627370496 = ((b / 4503599627370496 : Nat) : Int) := by omega
    have hf := and_mask (a := b) (n := 52) hb (by decide)
    rw [show ((2 ^ 52 - 1 : Nat) : Int) = 4503599627370495 from rfl, show (2 : Nat) ^ 52 = 4503599627370496 from rfl, show b % 4503599627370496 = b % S63 % 4503599627370496 from by unfold S63; omega] at hf
    generalize hr : b % S63 = r at *
    have hEb : r / 4503599627370496 ≤ 2047 := by unfold INF at hk1; omega
    have hfb : r % 4503599627370496 < 4503599627370496 := Nat.mod_lt _ (by decide)
    have ho := or_split (a := 4503599627370496) (b := r % 4503599627370496) (n := 52) (by decide) (by decide) hfb (by omega)
    rw [or_comm64 (by decide) (by omega), show ((4503599627370496 : Nat) : Int) = 4503599627370496 from rfl] at ho
    have HIV : Hid (iv r = (if r / 4503599627370496 = 0 then r % 4503599627370496 else 4503599627370496 + r % 4503599627370496) * 2 ^ (r / 4503599627370496 - 1)) := Lib.hid (by
      unfold iv mg sh B52
      by_cases h : r < 4503599627370496
      · rw [if_pos h, if_pos h, if_pos (by omega), show r / 4503599627370496 - 1 = 0 from by omega, Nat.mod_eq_of_lt h]
      · rw [if_neg h, if_neg h, if_neg (by omega)])
    have HR0 := Lib.hid (iv_pos hk1.1)
    have HS : Hid (b % S63 = r) := Lib.hid hr
    have HKK := Lib.hid hk
    generalize b / 4503599627370496 = e0 at *
    generalize r / 4503599627370496 = E at *
    generalize r % 4503599627370496 = f at *
    have hE2 : (E : Int) ≤ 2047 := by omega
    have hf2 : (f : Int) ≤ 4503599627370495 := by omega
    clear hk hk1 hb hE hr hEb hfb
    by_cases hE0 : E = 0
    · subst hE0
      go_enter Try.func46, Try.ntmps46
      go_wp2_with fail
      refine HK.out.mono ?_; rintro e w1 ⟨rfl, rfl⟩
      go_wp2_with fail
      go_loop [8, 7] (fun m x => ∃ M k : Nat, m = .int .u64 M ∧ x = .int .i64 ((k : Int) - 1074) ∧ iv r = M * 2 ^ k ∧ 0 < M ∧ k + M ≤ 9007199254750000) (fun m _ => (intOf m).toNat)
      case atStart => exact ⟨f, 0, rfl, rfl, by rw [HIV.out]; simp, by have h := HIV.out; have h2 := HR0.out; simp at h; omega, by omega⟩
      case round =>
        obtain ⟨M, k, rfl, rfl, hv, hM, hkM⟩ := hrel
        have HV := Lib.hid hv
        clear hv
        by_cases hpar : M % 2 = 0
        · have hp : ((M : Int) % 2 == 0) = true := by simp; omega
          have HV2 : Hid (iv r = M / 2 * 2 ^ (k + 1)) := Lib.hid (by
            have e : M = M / 2 * 2 := by omega
            rw [HV.out, Nat.pow_succ, Nat.mul_comm (2 ^ k), ← Nat.mul_assoc, ← e])
          have hM2 : 0 < M / 2 := by omega
          have hMq : (M : Int) / 2 = ((M / 2 : Nat) : Int) := by omega
          have hk2 : k + 1 + M / 2 ≤ 9007199254750000 := by omega
          have hlt2 : M / 2 < M := by omega
          generalize M / 2 = M2 at *
          clear hpar
          go_wp2_with fail
          go_round
          case rel => exact ⟨M2, k + 1, rfl, congrArg (Value.int .i64) (by omega), HV2.out, hM2, hk2⟩
          case measure => simp [intOf]; omega
        · have hp : ((M : Int) % 2 == 0) = false := by simp; omega
          have HO : Hid (OddOf (iv (b % S63)) M k) := Lib.hid (by rw [HS.out]; exact ⟨HV.out, by omega⟩)
          clear hpar
          go_wp2_with fail
          go_ret3
          exact ⟨_, _, _, ret_tri rfl rfl rfl, .inr ⟨HKK.out, rfl, M, k, rfl, rfl, HO.out⟩, rfl⟩
    · have hE3 : (0 : Int) < E := by omega
      go_enter Try.func46, Try.ntmps46
      go_wp2_with fail
      refine HK.out.mono ?_; rintro e w1 ⟨rfl, rfl⟩
      go_wp2_with fail
      go_loop [8, 7] (fun m x => ∃ M k : Nat, m = .int .u64 M ∧ x = .int .i64 ((k : Int) - 1074) ∧ iv r = M * 2 ^ k ∧ 0 < M ∧ k + M ≤ 9007199254750000) (fun m _ => (intOf m).toNat)
      case atStart => exact ⟨4503599627370496 + f, E - 1, congrArg (Value.int .u64) (by omega), congrArg (Value.int .i64) (by omega), by rw [HIV.out, if_neg hE0], by omega, by omega⟩
      case round =>
        obtain ⟨M, k, rfl, rfl, hv, hM, hkM⟩ := hrel
        have HV := Lib.hid hv
        clear hv
        by_cases hpar : M % 2 = 0
        · have hp : ((M : Int) % 2 == 0) = true := by simp; omega
          have HV2 : Hid (iv r = M / 2 * 2 ^ (k + 1)) := Lib.hid (by
            have e : M = M / 2 * 2 := by omega
            rw [HV.out, Nat.pow_succ, Nat.mul_comm (2 ^ k), ← Nat.mul_assoc, ← e])
          have hM2 : 0 < M / 2 := by omega
          have hMq : (M : Int) / 2 = ((M / 2 : Nat) : Int) := by omega
          have hk2 : k + 1 + M / 2 ≤ 9007199254750000 := by omega
          have hlt2 : M / 2 < M := by omega
          generalize M / 2 = M2 at *
          clear hpar
          go_wp2_with fail
          go_round
          case rel => exact ⟨M2, k + 1, rfl, congrArg (Value.int .i64) (by omega), HV2.out, hM2, hk2⟩
          case measure => simp [intOf]; omega
        · have hp : ((M : Int) % 2 == 0) = false := by simp; omega
          have HO : Hid (OddOf (iv (b % S63)) M k) := Lib.hid (by rw [HS.out]; exact ⟨HV.out, by omega⟩)
          clear hpar
          go_wp2_with fail
          go_ret3
          exact ⟨_, _, _, ret_tri rfl rfl rfl, .inr ⟨HKK.out, rfl, M, k, rfl, rfl, HO.out⟩, rfl⟩
  · have HOUT : Hid (SplitOut b (belowB b) 0 0) := Lib.hid (.inl ⟨hk, rfl, rfl, rfl⟩)
    have hk1 : (kindZ b != 1) = true := by simpa using hk
    by_cases h3 : kindZ b = 3
    · have hbb : belowB b = false := by have := kind3.1 h3; unfold belowB; simp; intro _; omega
      have HBB := Lib.hid hbb
      rw [h3] at HK
      clear hk hk1 h3 hb hbb
      go_enter Try.func46, Try.ntmps46
      go_wp2_with fail
      refine HK.out.mono ?_; rintro e w1 ⟨rfl, rfl⟩
      go_wp2_with fail
      go_ret3
      exact ⟨_, _, _, ret_tri HBB.out.symm rfl rfl, HOUT.out, rfl⟩
    · have hbb : belowB b = decide (S63 ≤ b) := below_num fun h => h3 (kind3.2 h)
      have HBB := Lib.hid hbb
      have hk3 : (kindZ b != 3) = true := by simpa using h3
      generalize kindZ b = kb at *
      clear hk h3 hb hbb
      go_enter Try.func46, Try.ntmps46
      go_wp2_with fail
      refine HK.out.mono ?_; rintro e w1 ⟨rfl, rfl⟩
      go_wp2_with fail
      go_ret3
      exact ⟨_, _, _, ret_tri HBB.out.symm rfl rfl, HOUT.out, rfl⟩
end Go.Proofs.Ytnbhcemgoifkgaa
