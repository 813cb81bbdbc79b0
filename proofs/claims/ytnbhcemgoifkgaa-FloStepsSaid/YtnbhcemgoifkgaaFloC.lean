/- Contracts of the library's small functions on floats: Float64bits, Float64frombits, Abs, IsInf, Inf, NaN, Copysign. Conditions: the word is below 2^64. -/
import Derived.Test.YtnbhcemgoifkgaaFloB
import Derived.Test.YtnbhcemgoifkgaaNatF
import Derived.Laws.Externs
import Derived.WalkLawsBesides
namespace Go.Proofs.Ytnbhcemgoifkgaa
open Go.RowKit Ieee

abbrev W64 : Nat := 18446744073709551616

theorem bits_and_u64 {a b : Nat} (ha : a < 18446744073709551616) (hb : b < 18446744073709551616) : bits .and .u64 (a : Int) (b : Int) = ((a &&& b : Nat) : Int) := by
  have e : bits .and .u64 (a : Int) (b : Int) = IntKind.u64.wrap (((((a : Int) % 18446744073709551616).toNat &&& ((b : Int) % 18446744073709551616).toNat) : Nat) : Int) := by
    show IntKind.u64.wrap ((BitVec.ofInt 64 a &&& BitVec.ofInt 64 b).toNat : Int) = _
    rw [BitVec.toNat_and, BitVec.toNat_ofInt, BitVec.toNat_ofInt]
    rfl
  rw [e, Int.emod_eq_of_lt (by omega) (by omega), Int.emod_eq_of_lt (by omega) (by omega), Int.toNat_natCast, Int.toNat_natCast]
  have h : a &&& b ≤ a := Nat.and_le_left
  exact IntWalk.u64_in _ (by omega)
theorem andNot_63 {a : Nat} (ha : a < 18446744073709551616) : bits .andNot .u64 (a : Int) 9223372036854775808 = ((a % 9223372036854775808 : Nat) : Int) := by
  have e : bits .andNot .u64 (a : Int) 9223372036854775808 = bits .and .u64 (a : Int) ((9223372036854775807 : Nat) : Int) := by
    show IntKind.u64.wrap ((BitVec.ofInt 64 a &&& ~~~(BitVec.ofInt 64 9223372036854775808)).toNat : Int) = IntKind.u64.wrap ((BitVec.ofInt 64 a &&& BitVec.ofInt 64 ((9223372036854775807 : Nat) : Int)).toNat : Int)
    rw [show ~~~(BitVec.ofInt 64 9223372036854775808) = BitVec.ofInt 64 ((9223372036854775807 : Nat) : Int) from by decide]
  rw [e, bits_and_u64 ha (by decide), show (9223372036854775807 : Nat) = 2 ^ 63 - 1 from rfl, Nat.and_two_pow_sub_one_eq_mod]
theorem and_mask {a n : Nat} (ha : a < 18446744073709551616) (hn : n ≤ 64) : bits .and .u64 (a : Int) ((2 ^ n - 1 : Nat) : Int) = ((a % 2 ^ n : Nat) : Int) := by
  have h : 2 ^ n ≤ 2 ^ 64 := Nat.pow_le_pow_right (by decide) hn
  rw [bits_and_u64 ha (by have : (2 : Nat) ^ 64 = 18446744073709551616 := rfl
                          omega), Nat.and_two_pow_sub_one_eq_mod]
theorem and_63 {a : Nat} (ha : a < 18446744073709551616) : bits .and .u64 (a : Int) 9223372036854775808 = ((a / 9223372036854775808 * 9223372036854775808 : Nat) : Int) := by
  have h := bits_and_u64 (b := 9223372036854775808) ha (by decide)
  rw [show ((9223372036854775808 : Nat) : Int) = 9223372036854775808 from rfl] at h
  rw [h]
  congr 1
  show a &&& 2 ^ 63 = a / 2 ^ 63 * 2 ^ 63
  apply Nat.eq_of_testBit_eq
  intro i
  rw [Nat.testBit_and, Nat.testBit_two_pow, Nat.testBit_mul_two_pow]
  by_cases hi : 63 = i
  · subst hi
    rw [Nat.testBit_div_two_pow]
    simp
  · by_cases hj : 63 ≤ i
    · have hk : a.testBit i = false := Nat.testBit_lt_two_pow (Nat.lt_of_lt_of_le (show a < 2 ^ 64 from ha) (Nat.pow_le_pow_right (by decide) (by omega)))
      rw [Nat.testBit_div_two_pow, show i - 63 + 63 = i from by omega, hk]
      simp [hi]
    · simp [hi, hj]
theorem or_split {a b n : Nat} (ha : a < 18446744073709551616) (h : a % 2 ^ n = 0) (hb : b < 2 ^ n) (hb2 : b < 18446744073709551616) : bits .or .u64 (a : Int) (b : Int) = ((a + b : Nat) : Int) := by
  rw [bits_or_u64 (by omega) (by omega) (by omega) (by omega), Int.toNat_natCast, Int.toNat_natCast]
  have e : a = a / 2 ^ n * 2 ^ n := by have := Nat.div_add_mod a (2 ^ n); rw [h, Nat.mul_comm] at this; omega
  rw [e, or_nat hb]
theorem or_comm64 {a b : Nat} (ha : a < 18446744073709551616) (hb : b < 18446744073709551616) : bits .or .u64 (a : Int) (b : Int) = bits .or .u64 (b : Int) (a : Int) := by
  rw [bits_or_u64 (by omega) (by omega) (by omega) (by omega), bits_or_u64 (by omega) (by omega) (by omega) (by omega), Nat.or_comm]

theorem f64bits (b : Nat) (w : World) : (callFunc 76 #[.float .f64 b]).run Try.prog w = .ok (.value (.int .u64 b)) w := by
  rw [run_callFunc_extern Try.func76 (by kernel_rfl) (by kernel_rfl) (by kernel_rfl) (e := Extern.MathFloatBits.float64bits) (by kernel_rfl)]
  rfl
theorem f64from (n : Int) (w : World) : (callFunc 86 #[.int .u64 n]).run Try.prog w = .ok (.value (.float .f64 n.toNat)) w := by
  rw [run_callFunc_extern Try.func86 (by kernel_rfl) (by kernel_rfl) (by kernel_rfl) (e := Extern.MathFloatBits.float64frombits) (by kernel_rfl)]
  rfl
/-- the word with the other sign -/
def flipS (b : Nat) : Nat := if b < S63 then b + S63 else b - S63
theorem neg_flip {b : Nat} (h : b < 18446744073709551616) : Op.negFloat .f64 b = flipS b := by
  show b ^^^ 2 ^ 63 = flipS b
  unfold flipS S63
  by_cases h1 : b < 9223372036854775808
  · rw [if_pos h1]
    have e : b ^^^ 2 ^ 63 = b ||| 2 ^ 63 := by
      apply Nat.eq_of_testBit_eq
      intro i
      rw [Nat.testBit_xor, Nat.testBit_or, Nat.testBit_two_pow]
      by_cases hi : 63 = i
      · subst hi
        have : b.testBit 63 = false := Nat.testBit_lt_two_pow h1
        rw [this]; rfl
      · simp [hi]
    rw [e, Nat.or_comm]
    have := or_nat (h := 1) (l := b) (s := 63) h1
    rw [Nat.one_mul] at this
    rw [this]
    omega
  · rw [if_neg h1]
    obtain ⟨c, rfl⟩ : ∃ c, b = 2 ^ 63 + c := ⟨b - 2 ^ 63, by omega⟩
    have hc : c < 2 ^ 63 := by omega
    have e : 2 ^ 63 + c = 2 ^ 63 ||| c := by
      have := or_nat (h := 1) (l := c) (s := 63) hc
      rw [Nat.one_mul] at this
      exact this.symm
    rw [show 2 ^ 63 + c - 9223372036854775808 = c from by omega, e]
    apply Nat.eq_of_testBit_eq
    intro i
    rw [Nat.testBit_xor, Nat.testBit_or, Nat.testBit_two_pow]
    by_cases hi : 63 = i
    · subst hi
      have : c.testBit 63 = false := Nat.testBit_lt_two_pow hc
      rw [this]; rfl
    · simp [hi]
theorem unary_flip {b : Nat} (h : b < 18446744073709551616) : Op.unary .neg (.float .f64 b) = pure (.float .f64 (flipS b)) := by
  rw [← neg_flip h]
  rfl
/-- a result that is no number: whichever it is -/
theorem run_float_nan (op : BinOp) (t : TypeId) (x y : Nat) (h : floatBits op .f64 x y = none) (ho : op = .add ∨ op = .sub ∨ op = .mul ∨ op = .quo) (w : World) :
    ∃ r, r < 18446744073709551616 ∧ INF < r % S63 ∧ (binOp op t (.float .f64 x) (.float .f64 y)).run Try.prog w = .ok (.float .f64 r) w.drew := by
  have hr : (choose (Question.nanBits .f64 x y)).run Try.prog w = .ok ((Question.nanBits .f64 x y).cut (w.tape w.drawn (Question.nanBits .f64 x y))) w.drew := by rw [run_choose_drew]; rfl
  generalize hc : (Question.nanBits .f64 x y).cut (w.tape w.drawn (Question.nanBits .f64 x y)) = r at hr
  have hb : r < 18446744073709551616 ∧ INF < r % S63 := by
    rw [← hc]
    show (w.tape w.drawn _ % 2) * 2 ^ 63 + 0x7ff0000000000000 + 1 + (w.tape w.drawn _ / 2) % (2 ^ 52 - 1) < _ ∧ INF < ((w.tape w.drawn _ % 2) * 2 ^ 63 + 0x7ff0000000000000 + 1 + (w.tape w.drawn _ / 2) % (2 ^ 52 - 1)) % S63
    generalize w.tape w.drawn (Question.nanBits .f64 x y) = t
    have h1 := Nat.mod_lt (t / 2) (show 0 < 2 ^ 52 - 1 by decide)
    have h2 : t % 2 = 0 ∨ t % 2 = 1 := by omega
    generalize t / 2 % (2 ^ 52 - 1) = m at *
    unfold INF S63
    rcases h2 with h2 | h2 <;> rw [h2] <;> omega
  refine ⟨r, hb.1, hb.2, ?_⟩
  have e : binOp op t (.float .f64 x) (.float .f64 y) = (choose (Question.nanBits .f64 x y)).bind fun r => pure (.float .f64 r) := by
    unfold floatBits at h
    rcases ho with rfl | rfl | rfl | rfl <;> (simp only at h; simp [binOp, Op.floatArith, h]; rfl)
  rw [e]
  show ((choose (Question.nanBits .f64 x y)) >>= fun r => pure (Value.float .f64 r)).run Try.prog w = _
  rw [Sem.run_bind, hr]
  rfl

theorem abs_any (b : Nat) (w : World) (hb : b < 18446744073709551616) : Calls Try.prog 91 #[.float .f64 b] w fun e w' => e = .returned (.float .f64 (b % S63)) ∧ w = w' := by
  have h1 := f64bits b
  have h2 := andNot_63 hb
  have h3 := fun w => f64from ((b % 9223372036854775808 : Nat) : Int) w
  rw [Int.toNat_natCast] at h3
  show Calls _ _ _ _ fun e w' => e = .returned (.float .f64 (b % 9223372036854775808)) ∧ w = w'
  generalize b % 9223372036854775808 = m at *
  go_enter Try.func91, Try.ntmps91
  go_wp2_with fail
  go_ret
  exact ⟨rfl, rfl⟩
theorem mod_num {b : Nat} : b % S63 < 18446744073709551616 ∧ b % S63 % S63 = b % S63 := by unfold S63; omega
/-- the order of a word without its sign -/
theorem order_abs {b c : Nat} (hc : c < 9218868437227405313) : double.order (b % S63) c = if INF < b % S63 then none else some (compare ((b % S63 : Nat) : Int) (c : Int)) := by
  have hcm : c % S63 = c := by unfold S63; omega
  have hc2 : ¬ S63 ≤ c := by unfold S63; omega
  by_cases h : INF < b % S63
  · rw [if_pos h]
    exact order_nan (.inl (by rw [mod_num.2]; exact h))
  · rw [if_neg h, order_num mod_num.1 (by omega) (by rw [mod_num.2]; omega) (by rw [hcm]; unfold INF; omega)]
    unfold sk sg
    rw [mod_num.2, hcm]
    have : ¬ S63 ≤ b % S63 := by unfold S63; omega
    simp [this, hc2]
theorem isinf_any (b : Nat) (w : World) (hb : b < 18446744073709551616) : Calls Try.prog 78 #[.float .f64 b, .int .i64 0] w fun e w' => e = .returned (.bool (decide (b % S63 = INF))) ∧ w = w' := by
  have ho : (double.order (b % S63) 9218868437227405311 == some .gt) = decide (b % S63 = INF) := by
    rw [order_abs (by decide)]
    by_cases h : INF < b % S63
    · rw [if_pos h]
      have : ¬ b % S63 = INF := by omega
      simp [this]
    · rw [if_neg h]
      by_cases h2 : b % S63 = INF
      · rw [h2]; rfl
      · have h3 : ¬ (9218868437227405311 : Int) < ((b % S63 : Nat) : Int) := by unfold INF at *; omega
        simp only [compare, compareOfLessAndEq]
        have h4 : (decide (b % S63 = INF)) = false := by simpa using h2
        rw [h4]
        split
        · rfl
        · split
          · rfl
          · omega
  have hbm := abs_any b w hb
  generalize b % S63 = m at *
  have HO := Lib.hid ho
  have HB := Lib.hid hbm
  clear ho hbm
  go_enter Try.func78, Try.ntmps78
  go_wp2_with fail
  refine HB.out.mono ?_; rintro e w1 ⟨rfl, rfl⟩
  go_wp2_with fail
  go_ret
  exact ⟨ret_bool HO.out, rfl⟩
end Go.Proofs.Ytnbhcemgoifkgaa
