/- Contracts of the functions of package whole that only compute with integers. Conditions: each argument lies in its type's range. -/
import Derived.Test.YtflhmbbkmpdogaaProg
import Derived.WalkKit
import Derived.Test.YtflhmbbkmpdogaaRows64
import Derived.Test.YtflhmbbkmpdogaaWholeFits
import Derived.Test.YtflhmbbkmpdogaaBits
import Derived.Test.YtflhmbbkmpdogaaPowLaw
import Derived.Test.YtflhmbbkmpdogaaIntDiv
import Derived.ProofKit
import Derived.Lib.Hide
import Derived.Deep.QuietTactic
import Derived.BigQuiet
import Derived.WalkSmall
import Derived.Deep.LoopGhost
namespace Go.Proofs.Ytflhmbbkmpdogaa
open Go.RowKit

theorem whole_abs (a : Int) (w : World) (h1 : -9223372036854775808 ≤ a) (h2 : a ≤ 9223372036854775807) :
    Calls Try.prog 14 #[.int .i64 a] w fun e w' => e = .returned (.int .u64 (a.natAbs : Int)) ∧ w = w' := by
  go_enter Try.func14, Try.ntmps14
  go_wp2
  all_goals go_ret
  all_goals exact ⟨ret_int (by omega), rfl⟩

theorem whole_add (a b : Int) (w : World) (h1 : -9223372036854775808 ≤ a) (h2 : a ≤ 9223372036854775807) (h3 : -9223372036854775808 ≤ b) (h4 : b ≤ 9223372036854775807) :
    Calls Try.prog 21 #[.int .i64 a, .int .i64 b] w fun e w' => e = .returned (.tuple #[.int .i64 (clip (a + b)), .bool (fits (a + b))]) ∧ w = w' := by
  by_cases hf : -9223372036854775808 ≤ a + b ∧ a + b ≤ 9223372036854775807
  · rw [clip_yes (fits_yes hf), fits_yes hf]
    obtain ⟨f1, f2⟩ := hf
    go_enter Try.func21, Try.ntmps21
    go_wp2
    all_goals go_ret2
    all_goals first | exact ⟨rfl, rfl⟩ | (exfalso; simp_all; omega)
  · rw [clip_no (fits_no hf), fits_no hf]
    have hw : (a < 0 ∧ b < 0 ∧ 0 ≤ wrap64 (a + b)) ∨ (0 ≤ a ∧ 0 ≤ b ∧ wrap64 (a + b) < 0) := by unfold wrap64; omega
    clear hf
    rcases hw with ⟨k1, k2, k3⟩ | ⟨k1, k2, k3⟩
    all_goals
      go_enter Try.func21, Try.ntmps21
      go_wp2
      all_goals go_ret2
      all_goals first | exact ⟨rfl, rfl⟩ | (exfalso; simp_all; omega)

theorem whole_sub (a b : Int) (w : World) (h1 : -9223372036854775808 ≤ a) (h2 : a ≤ 9223372036854775807) (h3 : -9223372036854775808 ≤ b) (h4 : b ≤ 9223372036854775807) :
    Calls Try.prog 22 #[.int .i64 a, .int .i64 b] w fun e w' => e = .returned (.tuple #[.int .i64 (clip (a - b)), .bool (fits (a - b))]) ∧ w = w' := by
  by_cases hf : -9223372036854775808 ≤ a - b ∧ a - b ≤ 9223372036854775807
  · rw [clip_yes (fits_yes hf), fits_yes hf]
    obtain ⟨f1, f2⟩ := hf
    go_enter Try.func22, Try.ntmps22
    go_wp2
    all_goals go_ret2
    all_goals first | exact ⟨rfl, rfl⟩ | (exfalso; simp_all; omega)
  · rw [clip_no (fits_no hf), fits_no hf]
    have hw : (a < 0 ∧ 0 ≤ b ∧ 0 ≤ wrap64 (a - b)) ∨ (0 ≤ a ∧ b < 0 ∧ wrap64 (a - b) < 0) := by unfold wrap64; omega
    clear hf
    rcases hw with ⟨k1, k2, k3⟩ | ⟨k1, k2, k3⟩
    all_goals
      go_enter Try.func22, Try.ntmps22
      go_wp2
      all_goals go_ret2
      all_goals first | exact ⟨rfl, rfl⟩ | (exfalso; simp_all; omega)

theorem whole_half (a b : Int) (w : World) (h1 : -9223372036854775808 ≤ a) (h2 : a ≤ 9223372036854775807) (h3 : -9223372036854775808 ≤ b) (h4 : b ≤ 9223372036854775807) :
    Calls Try.prog 25 #[.int .i64 a, .int .i64 b] w fun e w' => e = .returned (.int .i64 ((a + b) / 2)) ∧ w = w' := by
  go_enter Try.func25, Try.ntmps25
  go_wp2
  go_ret
  exact ⟨ret_int (half_eq a b h1 h2 h3 h4), rfl⟩

theorem whole_signed (x z : Int) (below : Bool) (w : World) (hz : (if below then -x else x) = z) (h1 : 0 ≤ x) (h2 : x ≤ 18446744073709551615) (h3 : below = true → 0 < x) :
    Calls Try.prog 39 #[.int .u64 x, .bool below] w fun e w' => e = .returned (.tuple #[.int .i64 (clip z), .bool (fits z)]) ∧ w = w' := by
  subst hz
  cases below
  · by_cases hf : x ≤ 9223372036854775807
    · rw [clip_yes (fits_yes (by simp; omega)), fits_yes (by simp; omega)]
      go_enter Try.func39, Try.ntmps39
      go_wp2
      all_goals go_ret2
      all_goals first | exact ⟨rfl, rfl⟩ | (exfalso; simp_all; omega)
    · rw [clip_no (fits_no (by simp; omega)), fits_no (by simp; omega)]
      go_enter Try.func39, Try.ntmps39
      go_wp2
      all_goals go_ret2
      all_goals first | exact ⟨rfl, rfl⟩ | (exfalso; simp_all; omega)
  · have h3 := h3 rfl
    by_cases hf : x ≤ 9223372036854775808
    · rw [clip_yes (fits_yes (by simp; omega)), fits_yes (by simp; omega)]
      go_enter Try.func39, Try.ntmps39
      go_wp2
      all_goals go_ret2
      all_goals exact ⟨ret_ib (by first | omega | (simp; omega)) rfl, rfl⟩
    · rw [clip_no (fits_no (by simp; omega)), fits_no (by simp; omega)]
      go_enter Try.func39, Try.ntmps39
      go_wp2
      all_goals go_ret2
      all_goals first | exact ⟨rfl, rfl⟩ | (exfalso; simp_all; omega)

theorem natAbs_mul_sign (a b : Int) : (if (!decide (a < 0) == decide (b < 0)) then -((a.natAbs : Int) * (b.natAbs : Int)) else (a.natAbs : Int) * (b.natAbs : Int)) = a * b := by
  by_cases ha : a < 0 <;> by_cases hb : b < 0
  · rw [Int.ofNat_natAbs_of_nonpos (by omega), Int.ofNat_natAbs_of_nonpos (by omega)]; simp [ha, hb, Int.neg_mul, Int.mul_neg]
  · rw [Int.ofNat_natAbs_of_nonpos (by omega), Int.natAbs_of_nonneg (by omega)]; simp [ha, hb, Int.neg_mul]
  · rw [Int.natAbs_of_nonneg (by omega), Int.ofNat_natAbs_of_nonpos (by omega)]; simp [ha, hb, Int.mul_neg]
  · rw [Int.natAbs_of_nonneg (by omega), Int.natAbs_of_nonneg (by omega)]; simp [ha, hb]

/-- x y has no room in 64 bits -/
theorem mul_room (x y : Int) (hy : 0 < y) : (18446744073709551615 / y < x) ↔ 18446744073709551615 < x * y := by
  constructor
  · intro h
    have h1 : 18446744073709551615 / y + 1 ≤ x := by omega
    have h2 := Int.mul_le_mul_of_nonneg_right h1 (by omega : 0 ≤ y)
    have h3 := Int.lt_ediv_add_one_mul_self 18446744073709551615 hy
    omega
  · intro h
    refine Int.lt_of_not_ge fun hc => ?_
    have := (Int.le_ediv_iff_mul_le hy).1 hc
    omega

theorem whole_mul (a b : Int) (w : World) (h1 : -9223372036854775808 ≤ a) (h2 : a ≤ 9223372036854775807) (h3 : -9223372036854775808 ≤ b) (h4 : b ≤ 9223372036854775807) :
    Calls Try.prog 15 #[.int .i64 a, .int .i64 b] w fun e w' => e = .returned (.tuple #[.int .i64 (clip (a * b)), .bool (fits (a * b))]) ∧ w = w' := by
  by_cases ha : a = 0
  · subst ha
    rw [Int.zero_mul]
    go_enter Try.func15, Try.ntmps15
    go_wp2
    go_ret2
    exact ⟨rfl, rfl⟩
  · by_cases hb : b = 0
    · subst hb
      rw [Int.mul_zero]
      have ha' : (a == 0) = false := by simpa using ha
      clear ha
      go_enter Try.func15, Try.ntmps15
      go_wp2
      go_ret2
      exact ⟨rfl, rfl⟩
    · have ha' : (a == 0) = false := by simpa using ha
      have hb' : (b == 0) = false := by simpa using hb
      have e := natAbs_mul_sign a b
      have hx : 0 < (a.natAbs : Int) := by omega
      have hy : 0 < (b.natAbs : Int) := by omega
      have hx2 : (a.natAbs : Int) ≤ 9223372036854775808 := by omega
      have hy2 : (b.natAbs : Int) ≤ 9223372036854775808 := by omega
      have hr := mul_room a.natAbs b.natAbs hy
      have hA := fun w => whole_abs a w h1 h2
      have hB := fun w => whole_abs b w h3 h4
      have hp : 0 < (a.natAbs : Int) * (b.natAbs : Int) := Int.mul_pos hx hy
      clear ha hb
      generalize (a.natAbs : Int) = x at *
      generalize (b.natAbs : Int) = y at *
      have HA := Lib.hid hA
      have HB := Lib.hid hB
      clear hA hB
      by_cases hf : x * y ≤ 18446744073709551615
      · have hr' : ¬ (18446744073709551615 / y < x) := fun h => by have := hr.1 h; omega
        have E := Lib.hid e
        clear e hr
        go_enter Try.func15, Try.ntmps15
        go_wp2_with fail
        refine (HA.out _).mono ?_; rintro e w' ⟨rfl, rfl⟩
        go_wp2_with fail
        refine (HB.out _).mono ?_; rintro e w' ⟨rfl, rfl⟩
        go_wp2_with fail
        refine (whole_signed _ (a * b) _ _ E.out (by omega) (by omega) (fun _ => hp)).mono ?_; rintro e w' ⟨rfl, rfl⟩
        go_wp2_with fail
        go_ret2
        exact ⟨rfl, rfl⟩
      · have hr' : 18446744073709551615 / y < x := hr.2 (by omega)
        have hb : ¬ (-9223372036854775808 ≤ a * b ∧ a * b ≤ 9223372036854775807) := by
          rw [← e]; split <;> omega
        rw [clip_no (fits_no hb), fits_no hb]
        clear e hr hb
        go_enter Try.func15, Try.ntmps15
        go_wp2_with fail
        refine (HA.out _).mono ?_; rintro e w' ⟨rfl, rfl⟩
        go_wp2_with fail
        refine (HB.out _).mono ?_; rintro e w' ⟨rfl, rfl⟩
        go_wp2_with fail
        go_ret2
        exact ⟨rfl, rfl⟩

theorem whole_div_no (a b : Int) (w : World) (h : b = 0 ∨ (b = -1 ∧ a = -9223372036854775808)) :
    Calls Try.prog 16 #[.int .i64 a, .int .i64 b] w fun e w' => e = .returned (.tuple #[.int .i64 0, .int .i64 0, .bool false]) ∧ w = w' := by
  rcases h with rfl | ⟨rfl, rfl⟩
  · go_enter Try.func16, Try.ntmps16
    go_wp2
    go_ret3
    exact ⟨rfl, rfl⟩
  · go_enter Try.func16, Try.ntmps16
    go_wp2
    go_ret3
    exact ⟨rfl, rfl⟩

theorem whole_div (a b : Int) (w : World) (h1 : -9223372036854775808 ≤ a) (h2 : a ≤ 9223372036854775807) (h3 : -9223372036854775808 ≤ b) (h4 : b ≤ 9223372036854775807)
    (hb : b ≠ 0) (hc : ¬ (b = -1 ∧ a = -9223372036854775808)) :
    Calls Try.prog 16 #[.int .i64 a, .int .i64 b] w fun e w' => e = .returned (.tuple #[.int .i64 (a.fdiv b), .int .i64 (a.fmod b), .bool true]) ∧ Below w.heap.size w w' := by
  have hb' : (b == 0) = false := by simpa using hb
  have hg : ((b == -1) && (a == -9223372036854775808)) = false := by
    simp only [Bool.and_eq_false_imp, beq_iff_eq, beq_eq_false_iff_ne]; exact fun e f => hc ⟨e, f⟩
  have hF := floor_div a b hb
  have hb0 : ¬ (b = 0) := hb
  clear hb hc
  by_cases hq : b = -1
  · have hq' : (a == -9223372036854775808) = false := by simpa [hq] using hg
    subst hq
    clear hg
    have hF2 := (hF.2 (by left; exact tmod_m1 a))
    rw [← hF2.1, ← hF2.2]
    clear hF hF2
    go_enter Try.func16, Try.ntmps16
    go_wp2
    go_quiet (fail)
    go_wp2
    all_goals go_ret3
    all_goals exact ⟨ret_iib (by have : a ≠ -9223372036854775808 := by simpa using hq'
                                 simp [RowKit.wrap64]; omega) (by simp) rfl, below_drewN (Below.refl _ _) _⟩
  · have hq' : (b == -1) = false := by simpa using hq
    clear hg hq
    have ht := tdiv_range a b h1 h2 hb0 (by simpa using hq')
    by_cases hz : a.tmod b = 0
    · have hF2 := hF.2 (.inl hz)
      rw [← hF2.1, ← hF2.2]
      have hz' : (a.tmod b == 0) = true := by simpa using hz
      clear hF hF2
      have HZ := Lib.hid hz
      clear hz
      go_enter Try.func16, Try.ntmps16
      go_wp2
      go_quiet (fail)
      go_wp2
      go_ret3
      exact ⟨ret_iib rfl HZ.out.symm rfl, below_drewN (Below.refl _ _) _⟩
    · have hz' : (a.tmod b == 0) = false := by simpa using hz
      by_cases hs : (a.tmod b < 0) ↔ (b < 0)
      · have hF2 := hF.2 (.inr hs)
        rw [← hF2.1, ← hF2.2]
        have hs' : (decide (a.tmod b < 0) == decide (b < 0)) = true := by simpa using hs
        clear hF hF2
        have HS := Lib.hid hs
        clear hs
        go_enter Try.func16, Try.ntmps16
        go_wp2
        go_quiet (fail)
        go_wp2
        go_ret3
        exact ⟨rfl, below_drewN (Below.refl _ _) _⟩
      · have hs2 : (a.tmod b < 0) ↔ ¬ (b < 0) := by
          by_cases k1 : a.tmod b < 0 <;> by_cases k2 : b < 0 <;> omega
        have hF2 := hF.1 hz hs2
        rw [← hF2.1, ← hF2.2]
        have hs' : (decide (a.tmod b < 0) == decide (b < 0)) = false := by simpa using hs
        have hr := tmod_rng a b hb0
        have hq1 : -9223372036854775808 ≤ a.tdiv b - 1 := by have := tdiv_small a b h1 h2 hb0 hz; omega
        have hr1 : -9223372036854775808 ≤ a.tmod b + b ∧ a.tmod b + b ≤ 9223372036854775807 := by omega
        clear hF hF2
        have HS := Lib.hid hs
        clear hs hs2
        go_enter Try.func16, Try.ntmps16
        go_wp2
        go_quiet (fail)
        go_wp2
        go_ret3
        exact ⟨rfl, below_drewN (Below.refl _ _) _⟩

theorem whole_gcd (a b : Int) (w : World) (h1 : -9223372036854775808 ≤ a) (h2 : a ≤ 9223372036854775807) (h3 : -9223372036854775808 ≤ b) (h4 : b ≤ 9223372036854775807) :
    Calls Try.prog 13 #[.int .i64 a, .int .i64 b] w fun e w' => e = .returned (.int .u64 (Nat.gcd a.natAbs b.natAbs : Nat)) ∧ Below w.heap.size w w' := by
  go_enter Try.func13, Try.ntmps13
  go_wp2_with fail
  refine (whole_abs _ _ h1 h2).mono ?_; rintro e w' ⟨rfl, rfl⟩
  go_wp2_with fail
  refine (whole_abs _ _ h3 h4).mono ?_; rintro e w' ⟨rfl, rfl⟩
  go_wp2_with fail
  go_loopg [5, 6] b.natAbs (fun k x y wr => Below w.heap.size w wr ∧ ∃ p q : Nat, x = .int .u64 p ∧ y = .int .u64 q ∧ k = q ∧ p ≤ 9223372036854775808 ∧ q ≤ 9223372036854775808 ∧ Nat.gcd p q = Nat.gcd a.natAbs b.natAbs)
  case atStart => exact ⟨Below.refl _ _, _, _, rfl, rfl, rfl, by omega, by omega, rfl⟩
  case round =>
    obtain ⟨hB, p, q, rfl, rfl, rfl, hp, hq, hg⟩ := hrel
    have G := Lib.hid hg
    clear hg
    by_cases h0 : gk = 0
    · subst h0
      go_wp2
      go_ret
      exact ⟨ret_int (by have := G.out; rw [Nat.gcd_zero_right] at this; rw [this]), hB⟩
    · have h0' : 0 < gk := by omega
      have hz : ((gk : Int) == 0) = false := by simp; omega
      go_wp2
      go_quiet (fail)
      go_wp2
      go_roundg (p % gk)
      case measure => exact Nat.mod_lt _ h0'
      case rel => exact ⟨below_drewN hB _, gk, p % gk, rfl, by first | rfl | go_num, rfl, hq, by have := Nat.mod_lt p h0'; omega, by rw [← G.out, Nat.gcd_comm p gk, Nat.gcd_rec gk p, Nat.gcd_comm]⟩

/-- the powers of a number, as Mul has room for them -/
theorem whole_pow_no (a n : Int) (w : World) (h : n < 0) :
    Calls Try.prog 27 #[.int .i64 a, .int .i64 n] w fun e w' => e = .returned (.tuple #[.int .i64 0, .bool false]) ∧ Below w.heap.size w w' := by
  go_enter Try.func27, Try.ntmps27
  go_wp2_with fail
  go_ret2
  exact ⟨rfl, Below.refl _ _⟩

theorem whole_root_no (a : Int) (w : World) (h : a < 0) :
    Calls Try.prog 28 #[.int .i64 a] w fun e w' => e = .returned (.tuple #[.int .i64 0, .bool false]) ∧ Below w.heap.size w w' := by
  go_enter Try.func28, Try.ntmps28
  go_wp2_with fail
  go_ret2
  exact ⟨rfl, Below.refl _ _⟩

theorem whole_root (a : Int) (w : World) (h : 0 ≤ a) (h2 : a ≤ 9223372036854775807) :
    Calls Try.prog 28 #[.int .i64 a] w fun e w' => ∃ r : Int, e = .returned (.tuple #[.int .i64 r, .bool true]) ∧ 0 ≤ r ∧ r ≤ 3037000499 ∧ r * r ≤ a ∧ a < (r + 1) * (r + 1) ∧ Below w.heap.size w w' := by
  go_enter Try.func28, Try.ntmps28
  go_wp2_with fail
  go_loopg [4, 5] 3037000500 (fun k x y wr => w = wr ∧ ∃ lo hi : Int, x = .int .i64 lo ∧ y = .int .i64 hi ∧ (k : Int) = hi - lo ∧ 0 ≤ lo ∧ hi ≤ 3037000500 ∧ lo < hi ∧ lo * lo ≤ a ∧ a < hi * hi)
  case atStart => exact ⟨rfl, 0, 3037000500, rfl, rfl, by omega, by omega, by omega, by omega, by omega, root_top a h2⟩
  case round =>
    obtain ⟨rfl, lo, hi, rfl, rfl, hk, hlo, hhi, hlt, hl, hh⟩ := hrel
    have HK := Lib.hid hk
    clear hk
    by_cases h1 : 1 < hi - lo
    · obtain ⟨s1, s2, s3, s4⟩ := root_step lo hi hlo hhi h1
      have HL := Lib.hid hl
      have HH := Lib.hid hh
      clear hl hh
      by_cases hm : (lo + (hi - lo) / 2) * (lo + (hi - lo) / 2) ≤ a
      · go_wp2
        go_roundg (hi - (lo + (hi - lo) / 2)).toNat
        case measure => have := HK.out; omega
        case rel => exact ⟨rfl, _, _, rfl, rfl, by omega, by omega, by omega, by omega, hm, HH.out⟩
      · go_wp2
        go_roundg ((lo + (hi - lo) / 2) - lo).toNat
        case measure => have := HK.out; omega
        case rel => exact ⟨rfl, _, _, rfl, rfl, by omega, by omega, by omega, by omega, HL.out, by omega⟩
    · have hE := root_end lo hi a hlt h1 hh
      have HE := Lib.hid hE
      have HL := Lib.hid hl
      clear hl hh hE
      go_wp2
      go_ret2
      exact ⟨lo, rfl, hlo, by omega, HL.out, HE.out, Below.refl _ _⟩

set_option maxHeartbeats 1000000 in
theorem whole_pow (a : Int) (n : Nat) (w : World) (h1 : -9223372036854775808 ≤ a) (h2 : a ≤ 9223372036854775807) (h3 : (n : Int) ≤ 9223372036854775807) :
    Calls Try.prog 27 #[.int .i64 a, .int .i64 n] w fun e w' => e = .returned (.tuple #[.int .i64 (clip (a ^ n)), .bool (fits (a ^ n))]) ∧ Below w.heap.size w w' := by
  by_cases e0 : a = 0
  · subst e0
    by_cases hn : n = 0
    · subst hn
      go_enter Try.func27, Try.ntmps27
      go_wp2_with fail
      go_ret2
      exact ⟨rfl, Below.refl _ _⟩
    · rw [pow_zero_case n (by omega)]
      have hz : ((n : Int) == 0) = false := by simp; omega
      go_enter Try.func27, Try.ntmps27
      go_wp2_with fail
      go_ret2
      exact ⟨rfl, Below.refl _ _⟩
  · by_cases e1 : a = 1
    · subst e1
      rw [Int.one_pow]
      go_enter Try.func27, Try.ntmps27
      go_wp2_with fail
      go_ret2
      exact ⟨rfl, Below.refl _ _⟩
    · by_cases e2 : a = -1
      · subst e2
        by_cases hn : n % 2 = 0
        · rw [pow_m1_even n hn]
          have hz : ((n : Int) % 2 == 0) = true := by simp; omega
          have HN := Lib.hid hn
          clear hn
          go_enter Try.func27, Try.ntmps27
          go_wp2_with fail
          go_ret2
          exact ⟨rfl, Below.refl _ _⟩
        · rw [pow_m1_odd n (by omega)]
          have hz : ((n : Int) % 2 == 0) = false := by simp; omega
          have HN := Lib.hid hn
          clear hn
          go_enter Try.func27, Try.ntmps27
          go_wp2_with fail
          go_ret2
          exact ⟨rfl, Below.refl _ _⟩
      · have k0 : (a == 0) = false := by simpa using e0
        have k1 : (a == 1) = false := by simpa using e1
        have k2 : (a == -1) = false := by simpa using e2
        have hab : 2 ≤ a.natAbs := by omega
        have HA := Lib.hid hab
        clear e0 e1 e2 hab
        by_cases hn : 63 < (n : Int)
        · have hb := pow_64 a n HA.out (by omega)
          have hno : ¬ (-9223372036854775808 ≤ a ^ n ∧ a ^ n ≤ 9223372036854775807) := by generalize a ^ n = z at *; omega
          rw [clip_no (fits_no hno), fits_no hno]
          clear hb hno
          go_enter Try.func27, Try.ntmps27
          go_wp2_with fail
          go_ret2
          exact ⟨rfl, Below.refl _ _⟩
        · go_enter Try.func27, Try.ntmps27
          go_wp2_with fail
          go_loopg [6, 26] (n + 1) (fun k x y wr => w = wr ∧ ∃ (i : Nat) (z : Int), x = .int .i64 z ∧ y = .int .i64 i ∧ i + k = n + 1 ∧ i ≤ n ∧ -9223372036854775808 ≤ z ∧ z ≤ 9223372036854775807 ∧ z = a ^ i)
          case atStart => exact ⟨rfl, 0, 1, rfl, rfl, by omega, by omega, by omega, by omega, (Int.pow_zero a).symm⟩
          case round =>
            obtain ⟨rfl, i, z, rfl, rfl, hk, hi, hz1, hz2, hz⟩ := hrel
            have HZ := Lib.hid hz
            have HK := Lib.hid hk
            clear hk hz
            by_cases hlt : i < n
            · have hs : z * a = a ^ (i + 1) := by rw [HZ.out, Int.pow_succ]
              have hM := fun w => whole_mul z a w hz1 hz2 h1 h2
              rw [hs] at hM
              have HM := Lib.hid hM
              clear hM hs
              by_cases hg : fits (a ^ (i + 1)) = true
              · rw [clip_yes hg, hg] at HM
                have hr := fits_iff.1 hg
                have HS := Lib.hid hr
                clear hg hr
                go_wp2_with fail
                refine (HM.out _).mono ?_; rintro e w' ⟨rfl, rfl⟩
                go_wp2_with fail
                go_roundg (gk - 1)
                case measure => have := HK.out; omega
                case rel => exact ⟨rfl, i + 1, _, rfl, by go_num, by have := HK.out; omega, by omega, HS.out.1, HS.out.2, rfl⟩
              · have hg' : fits (a ^ (i + 1)) = false := by simpa using hg
                have hno : fits (a ^ n) = false := by
                  by_cases hin : i + 1 = n
                  · rw [← hin]; exact hg'
                  · have h4 : ¬ (-9223372036854775808 ≤ a ^ (i + 1) ∧ a ^ (i + 1) ≤ 9223372036854775807) := fun h => by rw [fits_yes h] at hg'; cases hg'
                    have := pow_big a (i + 1) n HA.out (by omega) (by generalize a ^ (i + 1) = z at h4; omega)
                    exact fits_no (by generalize a ^ n = z at this; omega)
                rw [clip_no hg', hg'] at HM
                have HC := Lib.hid (clip_no hno)
                have HC2 := Lib.hid hno
                clear hno hg hg'
                go_wp2_with fail
                refine (HM.out _).mono ?_; rintro e w' ⟨rfl, rfl⟩
                go_wp2_with fail
                go_ret2
                exact ⟨ret_ib HC.out.symm HC2.out.symm, Below.refl _ _⟩
            · obtain rfl : i = n := by omega
              go_wp2_with fail
              go_ret2
              have hf : fits (a ^ i) = true := by rw [← HZ.out]; exact fits_yes ⟨hz1, hz2⟩
              exact ⟨ret_ib (by rw [clip_yes hf]; exact HZ.out) hf.symm, Below.refl _ _⟩
end Go.Proofs.Ytflhmbbkmpdogaa
