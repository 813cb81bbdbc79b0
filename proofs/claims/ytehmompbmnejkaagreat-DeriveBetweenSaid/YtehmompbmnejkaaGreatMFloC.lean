/- Contract of package bushelref03's Split. Conditions: a word below 2^64. -/
import Derived.Test.YtehmompbmnejkaaGreatMFloB
import Derived.Test.YtehmompbmnejkaaGreatMRef02
import Derived.Test.YtehmompbmnejkaaGreatMRat1
import Derived.Test.YtehmompbmnejkaaGreatMReg
import Derived.IntWalk
namespace Go.Proofs.YtehmompbmnejkaaGreat
open Go.RowKit Ieee

abbrev R53 : Nat := 4845873199050653696
theorem iv_up (t : Nat) : iv ((t + 1) * B52 + B52) = 2 * B52 * 2 ^ t := by
 have h := rung_of (m := B52) (t := t + 1) (by decide) (.inr (Nat.le_refl _))
 rw [h, Nat.pow_succ]
 generalize (2 : Nat) ^ t = P
 unfold B52
 omega
theorem r53_eq : R53 = (K1074 + 1) * B52 + B52 := by unfold K1074 B52 R53; omega
theorem iv_r53 : iv R53 = 2 * B52 * 2 ^ K1074 := (congrArg iv r53_eq).trans (iv_up K1074)
theorem half_rung {r : Nat} (h : 2 * B52 ≤ r) : iv r = 2 * iv (r - B52) := by
 unfold iv mg sh B52 at *
 rw [if_neg (by omega), if_neg (by omega), if_neg (by omega), if_neg (by omega)]
 have e1 : (r - 4503599627370496) % 4503599627370496 = r % 4503599627370496 := by omega
 have e2 : r / 4503599627370496 - 1 = ((r - 4503599627370496) / 4503599627370496 - 1) + 1 := by omega
 rw [e1, e2, Nat.pow_succ]
 generalize (2 : Nat) ^ ((r - 4503599627370496) / 4503599627370496 - 1) = P
 rw [Nat.mul_comm P 2, ← Nat.mul_assoc, Nat.mul_comm _ 2, Nat.mul_assoc]
theorem twice_rung (r : Nat) : ∃ q, iv q = 2 * iv r ∧ q ≤ r + B52 := by
 rcases Nat.lt_or_ge r B52 with h | h
 ·refine ⟨2 * r, ?_, by omega⟩
  have h1 := rung_of (m := 2 * r) (t := 0) (by omega) (.inl rfl)
  rw [Nat.zero_mul, Nat.zero_add, Nat.pow_zero, Nat.mul_one] at h1
  have h2 : iv r = r := by unfold iv mg sh; rw [if_pos h, if_pos h, Nat.pow_zero, Nat.mul_one]
  rw [h1, h2]
 ·exact ⟨r + B52, by rw [half_rung (r := r + B52) (by omega), Nat.add_sub_cancel], Nat.le_refl _⟩
theorem order_pos {r c : Nat} (hr : r ≤ INF) (hc : c ≤ INF) : FloatKind.f64.format.order r c = some (compare (r : Int) (c : Int)) := by
 show double.order r c = _
 have h1 : r % S63 = r := Nat.mod_eq_of_lt (by unfold S63; unfold INF at hr; omega)
 have h2 : c % S63 = c := Nat.mod_eq_of_lt (by unfold S63; unfold INF at hc; omega)
 rw [order_num (by unfold INF at hr; omega) (by unfold INF at hc; omega) (by rw [h1]; exact hr) (by rw [h2]; exact hc)]
 unfold sk sg
 rw [h1, h2, if_neg (by unfold S63; unfold INF at hr; simp; omega), if_neg (by unfold S63; unfold INF at hc; simp; omega)]
/-- a number below 2^53 and its whole part -/
theorem whole_part {r u : Nat} (h : r < R53) (hu : iv r / 2 ^ K1074 = u) : u < 9007199254740992 ∧ ∃ q, floatOfInt .f64 (u : Int) = q ∧ q ≤ r ∧ (q = r ↔ iv r = u * 2 ^ K1074) := by
 have h1 : iv r < 2 * B52 * 2 ^ K1074 := by rw [← iv_r53]; exact iv_lt h
 have hub : u < 9007199254740992 := by
  have h2 := (Nat.div_lt_iff_lt_mul (Nat.two_pow_pos K1074)).2 h1
  rw [hu] at h2
  exact h2
 have hle : u * 2 ^ K1074 ≤ iv r := by rw [← hu]; exact Nat.div_mul_le_self _ _
 refine ⟨hub, ?_⟩
 rcases Nat.eq_zero_or_pos u with h0 | h0
 ·refine ⟨0, by rw [h0]; exact int_float0, Nat.zero_le _, ?_⟩
  rw [h0, Nat.zero_mul]
  constructor
  ·intro e; rw [← e]; exact iv_zero
  ·intro e
   rcases Nat.eq_zero_or_pos r with h2 | h2
   ·exact h2.symm
   ·have := iv_pos h2; omega
 ·obtain ⟨q, hq⟩ := rung_ex K1074 u (by unfold B52; omega)
  have hqr : q ≤ r := iv_le_of (by rw [hq]; exact hle)
  refine ⟨q, int_float h0 hq (by unfold INF; unfold R53 at h; omega), hqr, ?_⟩
  rw [← hq]
  exact ⟨fun e => by rw [e], fun e => (iv_inj e).symm⟩
theorem odd_fin {N M n p : Nat} (h : M * 2 ^ (K1074 + p) = N * 2 ^ n) (ho : M % 2 = 1) : ∃ k : Nat, (k : Int) = 1074 + (p : Int) - (n : Int) ∧ OddOf N M k := by
 have hle : n ≤ K1074 + p := by
  rcases Nat.lt_or_ge (K1074 + p) n with h1 | h1
  ·exfalso
   obtain ⟨d, rfl⟩ : ∃ d, n = K1074 + p + 1 + d := ⟨n - (K1074 + p) - 1, by omega⟩
   have e : M = N * 2 ^ d * 2 := by
    apply Nat.eq_of_mul_eq_mul_right (Nat.two_pow_pos (K1074 + p))
    rw [h, Nat.pow_add 2 (K1074 + p + 1), Nat.pow_succ]
    generalize (2 : Nat) ^ (K1074 + p) = P
    ac_rfl
   omega
  ·exact h1
 refine ⟨K1074 + p - n, by unfold K1074 at *; omega, ?_, ho⟩
 apply Nat.eq_of_mul_eq_mul_right (Nat.two_pow_pos n)
 rw [← h, Nat.mul_assoc, ← Nat.pow_add, Nat.sub_add_cancel hle]
theorem div_two_pos {r : Nat} (h : 2 * B52 ≤ r) (hI : r < INF) : floatBits .quo .f64 r 4611686018427387904 = some (r - B52) := by
 have hm : r % S63 = r := Nat.mod_eq_of_lt (by unfold S63; unfold INF at hI; omega)
 have h1 := div_two (b := r) (q := r - B52) (by unfold INF at hI; omega) (by rw [hm]; exact hI) (by rw [hm]; unfold B52 at h; omega) (by rw [hm]; exact half_rung h) (by omega)
 rw [h1, show r / S63 = 0 from Nat.div_eq_of_lt (by unfold S63; unfold INF at hI; omega), Nat.zero_mul, Nat.zero_add]
theorem mul_two_pos {r q : Nat} (h0 : 0 < r) (hI : r < INF) (hq : iv q = 2 * iv r) (hqi : q < INF) : floatBits .mul .f64 r 4611686018427387904 = some q := by
 have hm : r % S63 = r := Nat.mod_eq_of_lt (by unfold S63; unfold INF at hI; omega)
 have h1 := mul_two (b := r) (q := q) (by unfold INF at hI; omega) (by rw [hm]; exact hI) (by rw [hm]; exact h0) (by rw [hm]; exact hq)
 rw [h1, show r / S63 = 0 from Nat.div_eq_of_lt (by unfold S63; unfold INF at hI; omega), Nat.zero_mul, Nat.zero_add, Nat.min_eq_left (by omega)]
theorem non_int {q u : Nat} (hu : iv q / 2 ^ K1074 = u) (h : ¬ iv q = u * 2 ^ K1074) : 2 * iv q < iv R53 := by
 rw [iv_r53]
 rcases Nat.lt_or_ge (sh q) K1074 with h1 | h1
 ·have h2 : (2 : Nat) ^ (sh q + 1) ≤ 2 ^ K1074 := Nat.pow_le_pow_right (by decide) (by omega)
  rw [Nat.pow_succ] at h2
  have h3 := mg_lt q
  have h4 := Nat.two_pow_pos (sh q)
  unfold iv
  generalize (2 : Nat) ^ K1074 = P at *
  generalize (2 : Nat) ^ sh q = R at *
  have h5 : mg q * R < 2 * B52 * R := Nat.mul_lt_mul_of_pos_right h3 h4
  have h6 : B52 * (R * 2) ≤ B52 * P := Nat.mul_le_mul_left _ h2
  have e1 : 2 * B52 * R = B52 * (R * 2) := by rw [Nat.mul_comm 2, Nat.mul_assoc, Nat.mul_comm 2]
  have e2 : 2 * B52 * P = 2 * (B52 * P) := Nat.mul_assoc _ _ _
  rw [e2]
  omega
 ·exfalso
  apply h
  rw [← hu]
  have e : iv q = mg q * 2 ^ (sh q - K1074) * 2 ^ K1074 := by
   unfold iv
   rw [Nat.mul_assoc, ← Nat.pow_add, Nat.sub_add_cancel h1]
  rw [e, Nat.mul_div_cancel _ (Nat.two_pow_pos _)]
theorem int_of_dvd {q : Nat} (h : 2 ^ K1074 ∣ iv q * 2 ^ 0) : iv q = iv q / 2 ^ K1074 * 2 ^ K1074 := by
 rw [Nat.pow_zero, Nat.mul_one] at h
 exact (Nat.div_mul_cancel h).symm
def RSplitB (b : Nat) (w : World) (e : Ending) (w' : World) : Prop := ∃ neg m x, e = .returned (.tuple #[.bool neg, .int .u64 m, .int .i64 x]) ∧ SplitOut b neg m x ∧ Below w.heap.size w w'

set_option maxRecDepth 100000 in
set_option maxHeartbeats 2000000 in
theorem rsplit_any (b : Nat) (w : World) (hb : b < 18446744073709551616) :
  Calls Tryz.prog 90 #[.float .f64 b] w (RSplitB b w) := by
 have HK := Lib.hid (rkind_any b w hb)
 have HBL := Lib.hid (fun w => rbelow_any b w hb)
 by_cases hk : kindZ b = 1
 ·have hk1 := kind1.1 hk
  have HKK := Lib.hid hk
  rw [hk] at HK
  have hz := order_zero hb (by omega)
  rw [if_neg (by omega)] at hz
  obtain ⟨sg', hsg⟩ : ∃ s, decide (S63 ≤ b) = s := ⟨_, rfl⟩
  obtain ⟨r, hr⟩ : ∃ r, b % S63 = r := ⟨_, rfl⟩
  have hflip : sg' = true → flipS b = r := by
   intro h
   rw [h] at hsg
   have := of_decide_eq_true hsg
   unfold flipS
   rw [if_neg (by omega), ← hr]
   unfold S63 at *
   omega
  have hsame : sg' = false → b = r := by
   intro h
   rw [h] at hsg
   have := of_decide_eq_false hsg
   rw [← hr]
   unfold S63 at *
   omega
  have hzl : (FloatKind.f64.format.order b 0 == some .lt) = sg' := by
   rw [hz, ← hsg]
   by_cases h : S63 ≤ b
   ·rw [if_pos h, show decide (S63 ≤ b) = true from by simpa using h]; rfl
   ·rw [if_neg h, show decide (S63 ≤ b) = false from by simpa using h]; rfl
  have hun := unary_flip hb
  rw [hr] at hk1
  have HR := Lib.hid hr
  have HSG := Lib.hid hsg
  have hr0 := hk1.1
  have hrI := hk1.2
  have HIV0 := Lib.hid (iv_pos hr0)
  clear hk hk1 hz hr hsg hb
  go_enter Tryz.func90, Tryz.ntmps90
  go_wp2_with fail
  refine HK.out.mono ?_; rintro x w1 ⟨rfl, hb1⟩
  have HB1 := Lib.hid hb1
  clear hb1
  go_upto_if 15 with fail
  go_cut [5] (fun v wx => v = .float .f64 r ∧ w1 = wx)
  case first =>
   cases sg'
   ·have e := hsame rfl
    clear hflip hsame
    go_wp2_with fail
    go_meet
    exact ⟨congrArg (Value.float .f64) e, rfl⟩
   ·have e := hflip rfl
    clear hflip hsame
    go_wp2_with fail
    go_meet
    exact ⟨rfl, rfl⟩
  case rest =>
   obtain ⟨rfl, rfl⟩ := hcut
   clear hflip hsame hun
   go_wp2_with fail
   go_loop [5, 6] (fun y x => ∃ q k : Nat, y = .float .f64 q ∧ x = .int .i64 k ∧ 0 < q ∧ q < INF ∧ iv q * 2 ^ k = iv r ∧ q + k * B52 ≤ INF) (fun y _ => match y with | .float _ q => q | _ => 0)
   case atStart => exact ⟨r, 0, rfl, rfl, hr0, hrI, by rw [Nat.pow_zero, Nat.mul_one], by omega⟩
   case round =>
    obtain ⟨q, k, rfl, rfl, hq0, hqI, hqv, hqk⟩ := hrel
    have HQV := Lib.hid hqv
    have hkb : (k : Int) ≤ 2047 := by unfold INF B52 at hqk; omega
    clear hqv
    have ho := order_pos (r := q) (c := R53) (by omega) (by decide)
    rcases Nat.lt_trichotomy q R53 with hlt | heq | hgt
    ·rw [cmp_lt (by omega)] at ho
     clear hkb
     have hkb : k ≤ 2047 := by unfold INF B52 at hqk; omega
     clear hqk
     go_wp2_with fail
     go_loopg [5, 6] K1074 (fun g y x wr => ∃ q p : Nat, y = .float .f64 q ∧ x = .int .i64 ((k : Int) - (p : Int)) ∧ p + g = K1074 ∧ 0 < q ∧ q < R53 ∧ 2 ^ K1074 ∣ iv q * 2 ^ g ∧ iv q * 2 ^ k = iv r * 2 ^ p ∧ wr = w1)
     case atStart => exact ⟨q, 0, rfl, congrArg (Value.int .i64) (by omega), by omega, hq0, hlt, Nat.dvd_mul_left _ _, by rw [Nat.pow_zero, Nat.mul_one]; exact HQV.out, rfl⟩
     case round =>
      obtain ⟨q, p, rfl, rfl, hpg, hq0, hq53, hdv, hv2, rfl⟩ := hrel
      have HDV := Lib.hid hdv
      have HV2 := Lib.hid hv2
      have HPG := Lib.hid hpg
      have hp1 : (p : Int) ≤ 1074 := by unfold K1074 at hpg; omega
      have hk1 : (k : Int) ≤ 2047 := by omega
      clear hdv hv2 hpg
      obtain ⟨u, hu⟩ : ∃ u, iv q / 2 ^ K1074 = u := ⟨_, rfl⟩
      obtain ⟨hub, qf, hqf, hqle, hiff⟩ := whole_part hq53 hu
      have hconv := run_convert_float_int (P := Tryz.prog) wr 35 43 .f64 .u64 q (u : Int) (by kernel_rfl) Tryz.underlying43 (float_int (by unfold INF; unfold R53 at hq53; omega) hu (by omega))
      have ho2 := order_pos (r := q) (c := qf) (by unfold INF; unfold R53 at hq53; omega) (by unfold INF; unfold R53 at hq53; omega)
      have HU := Lib.hid hu
      have HIFF := Lib.hid hiff
      have hub2 : (u : Int) ≤ 9007199254740991 := by omega
      by_cases hint : qf = q
      ·rw [cmp_same (by omega)] at ho2
       have hiq := hiff.1 hint
       have HIQ := Lib.hid hiq
       have hu0 : 0 < u := by
        rcases Nat.eq_zero_or_pos u with h | h
        ·rw [h, Nat.zero_mul] at hiq
         have := iv_pos hq0
         omega
        ·exact h
       have HU0 := Lib.hid hu0
       have hu1 : 0 < u := hu0
       clear hint hiff hqle hq0 hq53 hu hiq hub hu0
       go_wp2_with fail
       go_loop [7, 6] (fun m x => ∃ M j : Nat, m = .int .u64 M ∧ x = .int .i64 ((k : Int) - (p : Int) + (j : Int)) ∧ M * 2 ^ j = u ∧ 0 < M ∧ M + j ≤ u) (fun m _ => (intOf m).toNat)
       case atStart => exact ⟨u, 0, rfl, congrArg (Value.int .i64) (by omega), by rw [Nat.pow_zero, Nat.mul_one], hu1, by omega⟩
       case round =>
        obtain ⟨M, j, rfl, rfl, hMv, hM0, hMj⟩ := hrel
        have HMV := Lib.hid hMv
        have hMu : (M : Int) ≤ 9007199254740991 := by omega
        have hju : (j : Int) ≤ 9007199254740991 := by omega
        clear hMv
        by_cases hpar : M % 2 = 0
        ·have hpt : ((M : Int) % 2 == 0) = true := by simp; omega
         have HM2 : Hid (M / 2 * 2 ^ (j + 1) = u) := Lib.hid (by
          have e : M = M / 2 * 2 := by omega
          rw [← HMV.out, Nat.pow_succ, Nat.mul_comm (2 ^ j), ← Nat.mul_assoc, ← e])
         have h20 : 0 < M / 2 := by omega
         have h2j : M / 2 + (j + 1) ≤ u := by omega
         have h2l : M / 2 < M := by omega
         have hMq : (M : Int) / 2 = ((M / 2 : Nat) : Int) := by omega
         generalize M / 2 = M2 at *
         clear hpar
         go_wp2_with fail
         go_round
         case rel => exact ⟨M2, j + 1, rfl, congrArg (Value.int .i64) (by omega), HM2.out, h20, h2j⟩
         case measure => simp [intOf]; omega
        ·have hpt : ((M : Int) % 2 == 0) = false := by simp; omega
         have HO : Hid (SplitOut b sg' (M : Int) ((k : Int) - (p : Int) + (j : Int))) := Lib.hid (by
          obtain ⟨kk, hkk, hodd⟩ := odd_fin (N := iv r) (M := M) (n := p) (p := k + j) (by
           rw [← HV2.out, HIQ.out, ← HMV.out, Nat.pow_add, Nat.pow_add]
           generalize (2 : Nat) ^ K1074 = P
           generalize (2 : Nat) ^ k = Q
           generalize (2 : Nat) ^ j = R
           ac_rfl) (by omega)
          exact .inr ⟨HKK.out, HSG.out.symm, M, kk, rfl, by omega, by rw [HR.out]; exact hodd⟩)
         clear hpar
         go_wp2_with fail
         go_ret3
         exact ⟨_, _, _, ret_tri rfl rfl rfl, HO.out, HB1.out⟩
      ·rw [cmp_gt (by omega)] at ho2
       obtain ⟨q', hq', -⟩ := twice_rung q
       have hno : ¬ iv q = u * 2 ^ K1074 := fun h => hint (hiff.2 h)
       have hq53' : q' < R53 := iv_lt_of (by rw [hq']; exact non_int hu hno)
       have hm := run_float_arith (P := Tryz.prog) wr .mul 35 .f64 q _ _ (mul_two_pos hq0 (by unfold INF; unfold R53 at hq53; omega) hq' (by unfold INF; unfold R53 at hq53'; omega))
       have hg0 : 0 < gk := by
        rcases Nat.eq_zero_or_pos gk with h | h
        ·exfalso
         have h2 := HDV.out
         rw [h] at h2
         apply hno
         rw [← hu]
         exact int_of_dvd h2
        ·exact h
       have hq0' : 0 < q' := by
        rcases Nat.eq_zero_or_pos q' with h | h
        ·rw [h, iv_zero] at hq'
         have := iv_pos hq0
         omega
        ·exact h
       have HN : Hid (2 ^ K1074 ∣ iv q' * 2 ^ (gk - 1) ∧ iv q' * 2 ^ k = iv r * 2 ^ (p + 1)) := Lib.hid (by
        constructor
        ·obtain ⟨g, hg⟩ : ∃ g, gk = g + 1 := ⟨gk - 1, by omega⟩
         have h2 := HDV.out
         rw [hg, Nat.pow_succ] at h2
         rw [hg, Nat.add_sub_cancel, hq']
         generalize (2 : Nat) ^ g = R at *
         rw [Nat.mul_comm 2, Nat.mul_assoc, Nat.mul_comm 2]
         exact h2
        ·rw [hq', Nat.mul_assoc, HV2.out, Nat.pow_succ]
         generalize (2 : Nat) ^ p = R
         rw [Nat.mul_comm R 2, ← Nat.mul_assoc, Nat.mul_comm 2, Nat.mul_assoc])
       clear hint hiff hqle hq0 hq53 hu hno hub hq'
       go_wp2_with fail
       go_roundg (gk - 1)
       case measure => omega
       case rel => exact ⟨q', p + 1, rfl, congrArg (Value.int .i64) (by omega), by have := HPG.out; omega, hq0', hq53', HN.out.1, HN.out.2, rfl⟩
    ·rw [cmp_same (by omega)] at ho
     have hd := run_float_arith (P := Tryz.prog) w1 .quo 35 .f64 q _ _ (div_two_pos (r := q) (by rw [heq]; decide) hqI)
     have HN : Hid (0 < q - B52 ∧ q - B52 < INF ∧ iv (q - B52) * 2 ^ (k + 1) = iv r ∧ q - B52 + (k + 1) * B52 ≤ INF ∧ q - B52 < q) := Lib.hid (by
      have h2 := half_rung (r := q) (by rw [heq]; decide)
      refine ⟨by rw [heq]; decide, by omega, ?_, by rw [heq] at hqk ⊢; unfold R53 B52 at *; omega, by rw [heq]; decide⟩
      rw [← HQV.out, h2, Nat.pow_succ]
      generalize iv (q - B52) = P
      generalize (2 : Nat) ^ k = R
      rw [Nat.mul_comm R 2, ← Nat.mul_assoc, Nat.mul_comm P 2])
     generalize q - B52 = q2 at *
     clear heq hqk hq0 hqI
     go_wp2_with fail
     go_round
     case rel => exact ⟨q2, k + 1, rfl, by go_num, HN.out.1, HN.out.2.1, HN.out.2.2.1, HN.out.2.2.2.1⟩
     case measure => exact HN.out.2.2.2.2
    ·rw [cmp_gt (by omega)] at ho
     have hq2 : 2 * B52 ≤ q := by unfold R53 at hgt; unfold B52; omega
     have hd := run_float_arith (P := Tryz.prog) w1 .quo 35 .f64 q _ _ (div_two_pos (r := q) hq2 hqI)
     have HN : Hid (0 < q - B52 ∧ q - B52 < INF ∧ iv (q - B52) * 2 ^ (k + 1) = iv r ∧ q - B52 + (k + 1) * B52 ≤ INF ∧ q - B52 < q) := Lib.hid (by
      have h2 := half_rung (r := q) hq2
      refine ⟨by unfold B52 at *; omega, by omega, ?_, by unfold B52 at *; omega, by unfold B52 at *; omega⟩
      rw [← HQV.out, h2, Nat.pow_succ]
      generalize iv (q - B52) = P
      generalize (2 : Nat) ^ k = R
      rw [Nat.mul_comm R 2, ← Nat.mul_assoc, Nat.mul_comm P 2])
     generalize q - B52 = q2 at *
     clear hgt hqk hq0 hqI hq2
     go_wp2_with fail
     go_round
     case rel => exact ⟨q2, k + 1, rfl, by go_num, HN.out.1, HN.out.2.1, HN.out.2.2.1, HN.out.2.2.2.1⟩
     case measure => exact HN.out.2.2.2.2
 ·have HOUT : Hid (SplitOut b (belowB b) 0 0) := Lib.hid (.inl ⟨hk, rfl, rfl, rfl⟩)
  have hk1 : (kindZ b != 1) = true := by simpa using hk
  generalize kindZ b = kb at *
  clear hk hb
  go_enter Tryz.func90, Tryz.ntmps90
  go_wp2_with fail
  refine HK.out.mono ?_; rintro x w1 ⟨rfl, hb1⟩
  have HB1 := Lib.hid hb1
  clear hb1
  go_wp2_with fail
  refine (HBL.out w1).mono ?_; rintro x w2 ⟨rfl, rfl⟩
  go_wp2_with fail
  go_ret3
  exact ⟨_, _, _, rfl, HOUT.out, HB1.out⟩
end Go.Proofs.YtehmompbmnejkaaGreat
/- Contract of package bushelref03's times. Conditions: a number below the infinity without a minus; a halving that loses nothing; at most 5000 steps. -/
namespace Go.Proofs.YtehmompbmnejkaaGreat
open Go.RowKit Ieee

theorem iv_eq0 {q : Nat} (h : iv q = 0) : q = 0 := by
 rcases Nat.eq_zero_or_pos q with h1 | h1
 ·exact h1
 ·have := iv_pos h1; omega

end Go.Proofs.YtehmompbmnejkaaGreat
/- Contract of package bushelref03's below. Conditions: the number that is multiplied fits; at most 100000 places apart. -/
namespace Go.Proofs.YtehmompbmnejkaaGreat
open Go.RowKit Ieee

end Go.Proofs.YtehmompbmnejkaaGreat
/- Contracts of package bushelref03's below and times, as its Nearest calls them. Conditions: numbers that fit, powers from -9000 to 3000; a whole number of at most 2^53. -/
namespace Go.Proofs.YtehmompbmnejkaaGreat
open Go.RowKit Ieee

end Go.Proofs.YtehmompbmnejkaaGreat
/- Contract of package bushelref03's Nearest. Conditions: both numbers are above 0 and below 2^30000; the power is from -9000 to 3000. -/
namespace Go.Proofs.YtehmompbmnejkaaGreat
open Go.RowKit Ieee

end Go.Proofs.YtehmompbmnejkaaGreat
/- Contracts of package bushelref03's Nearest and Join. Conditions: the numbers are below 2^30000 (Nearest), 2^7000 (Join). -/
namespace Go.Proofs.YtehmompbmnejkaaGreat
open Go.RowKit Ieee

end Go.Proofs.YtehmompbmnejkaaGreat
