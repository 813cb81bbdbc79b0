/- Contract of math's Ldexp. Conditions: a normal positive number; the result is exact, or infinite. -/
import Derived.Test.YtnbhcemgoifkgaaFloI
namespace Go.Proofs.Ytnbhcemgoifkgaa
open Go.RowKit Ieee

theorem bits_and_i64 {a b : Nat} (ha : a < 9223372036854775808) (hb : b < 9223372036854775808) : bits .and .i64 (a : Int) (b : Int) = ((a &&& b : Nat) : Int) := by
  have e : bits .and .i64 (a : Int) (b : Int) = IntKind.i64.wrap (((((a : Int) % 18446744073709551616).toNat &&& ((b : Int) % 18446744073709551616).toNat) : Nat) : Int) := by
    show IntKind.i64.wrap ((BitVec.ofInt 64 a &&& BitVec.ofInt 64 b).toNat : Int) = _
    rw [BitVec.toNat_and, BitVec.toNat_ofInt, BitVec.toNat_ofInt]
    rfl
  rw [e, Int.emod_eq_of_lt (by omega) (by omega), Int.emod_eq_of_lt (by omega) (by omega), Int.toNat_natCast, Int.toNat_natCast]
  have h : a &&& b ≤ a := Nat.and_le_left
  exact IntWalk.i64_in _ (by omega)
theorem andNot_exp {a : Nat} (ha : a < 9223372036854775808) : bits .andNot .u64 (a : Int) 9218868437227405312 = ((a % 4503599627370496 : Nat) : Int) := by
  have e : bits .andNot .u64 (a : Int) 9218868437227405312 = bits .and .u64 (a : Int) ((9227875636482146303 : Nat) : Int) := by
    show IntKind.u64.wrap ((BitVec.ofInt 64 a &&& ~~~(BitVec.ofInt 64 9218868437227405312)).toNat : Int) = IntKind.u64.wrap ((BitVec.ofInt 64 a &&& BitVec.ofInt 64 ((9227875636482146303 : Nat) : Int)).toNat : Int)
    rw [show ~~~(BitVec.ofInt 64 9218868437227405312) = BitVec.ofInt 64 ((9227875636482146303 : Nat) : Int) from by decide]
  rw [e, bits_and_u64 (by omega) (by decide)]
  have e2 : (9227875636482146303 : Nat) = 2 ^ 63 ||| (2 ^ 52 - 1) := by decide
  rw [e2, Nat.and_or_distrib_left, Nat.and_two_pow_sub_one_eq_mod]
  have h0 : a &&& 2 ^ 63 = 0 := by
    apply Nat.eq_of_testBit_eq
    intro i
    rw [Nat.testBit_and, Nat.testBit_two_pow, Nat.zero_testBit]
    by_cases hi : 63 = i
    · subst hi
      rw [Nat.testBit_lt_two_pow (show a < 2 ^ 63 from ha)]; rfl
    · simp [hi]
  rw [h0, Nat.zero_or]
theorem product_comm (x y : Datum) : x.product y = y.product x := by
  cases x <;> cases y <;> simp [Datum.product, Bool.xor_comm, Nat.mul_comm, Int.add_comm]
theorem mul_comm_bits (x y : Nat) : floatBits .mul .f64 x y = floatBits .mul .f64 y x := by
  show ((double.read x).product (double.read y)).map double.write = ((double.read y).product (double.read x)).map double.write
  rw [product_comm]
/-- a normal word's number -/
theorem iv_norm {E F : Nat} (hE : 1 ≤ E) (hF : F < 4503599627370496) : iv (E * 4503599627370496 + F) = (4503599627370496 + F) * 2 ^ (E - 1) := by
  have h := rung_of (m := 4503599627370496 + F) (t := E - 1) (by unfold B52; omega) (.inr (by unfold B52; omega))
  have e : E * 4503599627370496 + F = (E - 1) * B52 + (4503599627370496 + F) := by
    unfold B52
    obtain ⟨e, rfl⟩ : ∃ e, E = e + 1 := ⟨E - 1, by omega⟩
    rw [Nat.add_sub_cancel]
    omega
  rw [e]
  exact h
theorem ldexp_norm {E F q a b p : Nat} (hE : 1 ≤ E) (hF : F < 4503599627370496) (hp : (p : Int) = (E : Int) + (b : Int) - (a : Int)) (hp1 : 1 ≤ p) (hq : iv q * 2 ^ a = iv (E * 4503599627370496 + F) * 2 ^ b) :
    q = p * 4503599627370496 + F := by
  apply iv_inj
  rw [iv_norm hp1 hF]
  rw [iv_norm hE hF, Nat.mul_assoc, ← Nat.pow_add] at hq
  apply Nat.eq_of_mul_eq_mul_right (Nat.two_pow_pos a)
  rw [hq, Nat.mul_assoc, ← Nat.pow_add]
  congr 2
  omega
theorem ldexp_over {E F q a b : Nat} (hE : 1 ≤ E) (hF : F < 4503599627370496) (hp : (2046 : Int) < (E : Int) + (b : Int) - (a : Int)) (hq : iv q * 2 ^ a = iv (E * 4503599627370496 + F) * 2 ^ b) : INF ≤ q := by
  apply iv_le_of
  rw [iv_inf]
  apply Nat.le_of_mul_le_mul_right (c := 2 ^ a) _ (Nat.two_pow_pos a)
  rw [hq, iv_norm hE hF, Nat.mul_assoc, Nat.mul_assoc, ← Nat.pow_add, ← Nat.pow_add]
  exact Nat.mul_le_mul (by unfold B52; omega) (Nat.pow_le_pow_right (by decide) (by unfold K2046; omega))
theorem ldexp_sub {E F q a b p : Nat} (hE : 1 ≤ E) (hF : F < 4503599627370496) (hp : (p : Int) = (E : Int) + (b : Int) - (a : Int) + 53) (hp1 : 1 ≤ p) (hq : iv q * 2 ^ a = iv (E * 4503599627370496 + F) * 2 ^ b) :
    iv (p * 4503599627370496 + F) = iv q * 2 ^ 53 := by
  rw [iv_norm hp1 hF]
  rw [iv_norm hE hF, Nat.mul_assoc, ← Nat.pow_add] at hq
  apply Nat.eq_of_mul_eq_mul_right (Nat.two_pow_pos a)
  rw [Nat.mul_right_comm (iv q), hq, Nat.mul_assoc, Nat.mul_assoc, ← Nat.pow_add, ← Nat.pow_add]
  congr 2
  omega

theorem isnan_any (b : Nat) (w : World) (hb : b < 18446744073709551616) (hn : ¬ INF < b % S63) : Calls Try.prog 97 #[.float .f64 b] w fun e w' => e = .returned (.bool false) ∧ w = w' := by
  have hs := order_self hb
  rw [if_neg hn] at hs
  clear hb hn
  go_enter Try.func97, Try.ntmps97
  go_wp2_with fail
  go_ret
  exact ⟨rfl, rfl⟩
theorem normalize_any (b : Nat) (w : World) (hb : b ≤ INF) (hn : 4503599627370496 ≤ b) : Calls Try.prog 98 #[.float .f64 b] w fun e w' => e = .returned (.tuple #[.float .f64 b, .int .i64 0]) ∧ w = w' := by
  have hbm : b % S63 = b := Nat.mod_eq_of_lt (by unfold S63; unfold INF at hb; omega)
  have ha := abs_any b w (by unfold INF at hb; omega)
  rw [hbm] at ha
  have HA := Lib.hid ha
  have ho : (FloatKind.f64.format.order b 4503599627370496 == some .lt) = false := by
    have h1 : FloatKind.f64.format.order b 4503599627370496 = some (compare (b : Int) 4503599627370496) := by
      show double.order b 4503599627370496 = _
      have h2 := order_abs (b := b) (c := 4503599627370496) (by decide)
      rw [hbm, if_neg (by omega)] at h2
      exact h2
    rw [h1]
    rcases Nat.lt_or_eq_of_le hn with h3 | h3
    · rw [cmp_gt (by omega)]; rfl
    · rw [cmp_same (by omega)]; rfl
  clear hb hn hbm ha
  go_enter Try.func98, Try.ntmps98
  go_wp2_with fail
  refine HA.out.mono ?_; rintro e w1 ⟨rfl, rfl⟩
  go_wp2_with fail
  go_ret2
  exact ⟨rfl, rfl⟩

set_option maxRecDepth 100000 in
set_option maxHeartbeats 2000000 in
theorem ldexp_any (E F q : Nat) (x : Int) (a b : Nat) (w : World) (hE : 1 ≤ E) (hE2 : E ≤ 2046) (hF : F < 4503599627370496) (hx : x = (b : Int) - (a : Int)) (hp : -52 ≤ (E : Int) + x) (hx2 : x ≤ 5000) (hq : iv q * 2 ^ a = iv (E * 4503599627370496 + F) * 2 ^ b) :
    Calls Try.prog 94 #[.float .f64 (E * 4503599627370496 + F), .int .i64 x] w fun e w' => e = .returned (.float .f64 (min q INF)) ∧ w = w' := by
  have hHX := Lib.hid hx
  have HQ := Lib.hid hq
  clear hq hx
  obtain ⟨f, hf⟩ : ∃ f, E * 4503599627370496 + F = f := ⟨_, rfl⟩
  have hfi : f < 9218868437227405312 := by omega
  have hfm : f % S63 = f := Nat.mod_eq_of_lt (by unfold S63; omega)
  have hf64 : f < 18446744073709551616 := by omega
  have hfn : 4503599627370496 ≤ f := by omega
  have hz : FloatKind.f64.format.order f 0 = some .gt := by
    rw [order_zero hf64 (by rw [hfm]; unfold INF; omega), hfm, if_neg (by omega), if_neg (by unfold S63; omega)]
  have hi := isinf_any f w hf64
  rw [hfm, show decide (f = INF) = false from by unfold INF; simp; omega] at hi
  have HI := Lib.hid hi
  have HN := Lib.hid (isnan_any f w hf64 (by rw [hfm]; unfold INF; omega))
  have HM := Lib.hid (normalize_any f w (by unfold INF; omega) hfn)
  have h1 := f64bits f
  have hsh : (f : Int) / 4503599627370496 = (E : Int) := by omega
  have hand := bits_and_i64 (a := E) (b := 2047) (by omega) (by decide)
  rw [show (2047 : Nat) = 2 ^ 11 - 1 from rfl, Nat.and_two_pow_sub_one_eq_mod, Nat.mod_eq_of_lt (by omega), show ((2 ^ 11 - 1 : Nat) : Int) = 2047 from rfl] at hand
  have hnot := andNot_exp (a := f) (by omega)
  rw [show f % 4503599627370496 = F from by omega] at hnot
  have HF := Lib.hid hf
  have hE3 : (E : Int) ≤ 2046 := by omega
  have hE1 : (1 : Int) ≤ E := by omega
  have hF3 : (F : Int) ≤ 4503599627370495 := by omega
  obtain ⟨y, hy⟩ : ∃ y, x + ((E : Int) - 1023) = y := ⟨_, rfl⟩
  have hy1 : -1075 ≤ y := by omega
  have hy2 : y ≤ 7000 := by omega
  have hx3 : -3000 ≤ x := by omega
  rw [hf]
  by_cases hbig : 1023 < y
  · have hov : INF ≤ q := ldexp_over hE hF (by have := hHX.out; omega) HQ.out
    rw [Nat.min_eq_right hov]
    have hin := Lib.hid (inf_any 1 w)
    rw [if_pos (by decide)] at hin
    clear hf hfi hfm hf64 hfn hi hov hE hE2 hF
    go_enter Try.func94, Try.ntmps94
    go_wp2_with fail
    refine HI.out.mono ?_; rintro e w1 ⟨rfl, rfl⟩
    go_wp2_with fail
    refine HN.out.mono ?_; rintro e w1 ⟨rfl, rfl⟩
    go_wp2_with fail
    refine HM.out.mono ?_; rintro e w1 ⟨rfl, rfl⟩
    go_wp2_with fail
    refine hin.out.mono ?_; rintro e w1 ⟨rfl, rfl⟩
    go_wp2_with fail
    go_ret
    exact ⟨rfl, rfl⟩
  · by_cases hsm : y < -1022
    · obtain ⟨y2, hy2e⟩ : ∃ y2, y + 53 = y2 := ⟨_, rfl⟩
      obtain ⟨p, hpe⟩ : ∃ p : Nat, y2 + 1023 = (p : Int) := ⟨(y2 + 1023).toNat, by omega⟩
      have hp1 : 1 ≤ p := by omega
      have hp2 : p ≤ 53 := by omega
      have hiv : iv (p * 4503599627370496 + F) = iv q * 2 ^ 53 := ldexp_sub hE hF (by have := hHX.out; omega) hp1 HQ.out
      have ho := or_split (a := p * 4503599627370496) (b := F) (n := 52) (by omega) (by omega) hF (by omega)
      rw [or_comm64 (by omega) (by omega), show ((p * 4503599627370496 : Nat) : Int) = (p : Int) * 4503599627370496 from by omega] at ho
      have hfr := fun w => f64from ((p * 4503599627370496 + F : Nat) : Int) w
      rw [Int.toNat_natCast] at hfr
      have hm : floatBits .mul .f64 4368491638549381120 (p * 4503599627370496 + F) = some (min q INF) := by
        have hgm : (p * 4503599627370496 + F) % S63 = p * 4503599627370496 + F := Nat.mod_eq_of_lt (by unfold S63; omega)
        rw [mul_comm_bits, mul_pow2 (x := 0) (y := 53) (N := iv q) (D := 1) (t := sh q) (by omega) (by rw [hgm]; unfold INF; omega) (by rw [hgm]; omega) (by decide) (unit_iv q) (by rw [hgm, hiv, Nat.pow_zero, Nat.mul_one, Nat.mul_one]), rne_iv]
        rw [show (p * 4503599627370496 + F) / S63 = 0 from Nat.div_eq_of_lt (by unfold S63; omega), Nat.zero_mul, Nat.zero_add]
      obtain ⟨r, hr⟩ : ∃ r, p * 4503599627370496 + F = r := ⟨_, rfl⟩
      obtain ⟨res, hres⟩ : ∃ r, min q INF = r := ⟨_, rfl⟩
      rw [hr] at hfr ho hm
      rw [hres] at hm ⊢
      have hrun := run_float_arith (P := Try.prog) w .mul 64 .f64 _ _ _ hm
      have hpi : (p : Int) ≤ 53 := by omega
      clear hf hfi hfm hf64 hfn hi hE hE2 hF hp1 hp2 hiv hm hr hres
      go_enter Try.func94, Try.ntmps94
      go_wp2_with fail
      refine HI.out.mono ?_; rintro e w1 ⟨rfl, rfl⟩
      go_wp2_with fail
      refine HN.out.mono ?_; rintro e w1 ⟨rfl, rfl⟩
      go_wp2_with fail
      refine HM.out.mono ?_; rintro e w1 ⟨rfl, rfl⟩
      go_wp2_with fail
      go_ret
      exact ⟨rfl, rfl⟩
    · obtain ⟨p, hpe⟩ : ∃ p : Nat, y + 1023 = (p : Int) := ⟨(y + 1023).toNat, by omega⟩
      have hp1 : 1 ≤ p := by omega
      have hp2 : p ≤ 2046 := by omega
      have hqr : q = p * 4503599627370496 + F := ldexp_norm hE hF (by have := hHX.out; omega) hp1 HQ.out
      have ho := or_split (a := p * 4503599627370496) (b := F) (n := 52) (by omega) (by omega) hF (by omega)
      rw [or_comm64 (by omega) (by omega), show ((p * 4503599627370496 : Nat) : Int) = (p : Int) * 4503599627370496 from by omega] at ho
      have hfr := fun w => f64from ((p * 4503599627370496 + F : Nat) : Int) w
      rw [Int.toNat_natCast] at hfr
      have hm : floatBits .mul .f64 4607182418800017408 (p * 4503599627370496 + F) = some (min q INF) := by
        have hgm : (p * 4503599627370496 + F) % S63 = p * 4503599627370496 + F := Nat.mod_eq_of_lt (by unfold S63; omega)
        rw [mul_comm_bits, mul_pow2 (x := 0) (y := 0) (N := iv q) (D := 1) (t := sh q) (by omega) (by rw [hgm]; unfold INF; omega) (by rw [hgm]; omega) (by decide) (unit_iv q) (by rw [hgm, hqr, Nat.pow_zero, Nat.mul_one, Nat.mul_one]), rne_iv]
        rw [show (p * 4503599627370496 + F) / S63 = 0 from Nat.div_eq_of_lt (by unfold S63; omega), Nat.zero_mul, Nat.zero_add]
      obtain ⟨r, hr⟩ : ∃ r, p * 4503599627370496 + F = r := ⟨_, rfl⟩
      obtain ⟨res, hres⟩ : ∃ r, min q INF = r := ⟨_, rfl⟩
      rw [hr] at hfr ho hm
      rw [hres] at hm ⊢
      have hrun := run_float_arith (P := Try.prog) w .mul 64 .f64 _ _ _ hm
      have hpi : (p : Int) ≤ 2046 := by omega
      clear hf hfi hfm hf64 hfn hi hE hE2 hF hp1 hp2 hqr hm hr hres
      go_enter Try.func94, Try.ntmps94
      go_wp2_with fail
      refine HI.out.mono ?_; rintro e w1 ⟨rfl, rfl⟩
      go_wp2_with fail
      refine HN.out.mono ?_; rintro e w1 ⟨rfl, rfl⟩
      go_wp2_with fail
      refine HM.out.mono ?_; rintro e w1 ⟨rfl, rfl⟩
      go_wp2_with fail
      go_ret
      exact ⟨rfl, rfl⟩
end Go.Proofs.Ytnbhcemgoifkgaa
