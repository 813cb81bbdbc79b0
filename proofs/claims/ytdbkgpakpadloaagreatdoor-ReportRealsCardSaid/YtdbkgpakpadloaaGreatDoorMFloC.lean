/- Contract of package bushelref03's Split. Conditions: a word below 2^64. -/
import Derived.Test.YtdbkgpakpadloaaGreatDoorMFloB
import Derived.Test.YtdbkgpakpadloaaGreatDoorMRef02
import Derived.Test.YtdbkgpakpadloaaGreatDoorMRat1
import Derived.Test.YtdbkgpakpadloaaGreatDoorMReg
import Derived.IntWalk
namespace Go.Proofs.YtdbkgpakpadloaaGreatDoor
open Go.RowKit Ieee

abbrev R53 : Nat := 4845873199050653696
theorem iv_up (t : Nat) : iv ((t + 1) * B52 + B52) = 2 * B52 * 2 ^ t := by
  have h := rung_of (m := B52) (t := t + 1) (by decide) (.inr (Nat.le_refl _))
  rw [h, Nat.pow_succ]
  generalize (2 : Nat) ^ t = P
  unfold B52
  omega
theorem r53_eq : R53 = (K1074 + 1) * B52 + B52 := by unfold K1074 B52 R53; omega
theorem iv_r53 : iv R53 = 2 * B52 * 2 ^ K1074 := (congrArg iv r53_eq).trans (iv_up K1074)
theorem half_rung {r : Nat} (h : 2 * B52 ≤ r) : iv r = 2 * iv (r - B52) := by
  unfold iv mg sh B52 at *
  rw [if_neg (by omega), if_neg (by omega), if_neg (by omega), if_neg (by omega)]
  have e1 : (r - 4503599627370496) % 4503599627370496 = r % 4503599627370496 := by omega
  have e2 : r / 4503599627370496 - 1 = ((r - 4503599627370496) / 4503599627370496 - 1) + 1 := by omega
  rw [e1, e2, Nat.pow_succ]
  generalize (2 : Nat) ^ ((r - 4503599627370496) / 4503599627370496 - 1) = P
  rw [Nat.mul_comm P 2, ← Nat.mul_assoc, Nat.mul_comm _ 2, Nat.mul_assoc]
theorem twice_rung (r : Nat) : ∃ q, iv q = 2 * iv r ∧ q ≤ r + B52 := by
  rcases Nat.lt_or_ge r B52 with h | h
  · refine ⟨2 * r, ?_, by omega⟩
    have h1 := rung_of (m := 2 * r) (t := 0) (by omega) (.inl rfl)
    rw [Nat.zero_mul, Nat.zero_add, Nat.pow_zero, Nat.mul_one] at h1
    have h2 : iv r = r := by unfold iv mg sh; rw [if_pos h, if_pos h, Nat.pow_zero, Nat.mul_one]
    rw [h1, h2]
  · exact ⟨r + B52, by rw [half_rung (r := r + B52) (by omega), Nat.add_sub_cancel], Nat.le_refl _⟩
theorem order_pos {r c : Nat} (hr : r ≤ INF) (hc : c ≤ INF) : FloatKind.f64.format.order r c = some (compare (r : Int) (c : Int)) := by
  show double.order r c = _
  have h1 : r % S63 = r := Nat.mod_eq_of_lt (by unfold S63; unfold INF at hr; omega)
  have h2 : c % S63 = c := Nat.mod_eq_of_lt (by unfold S63; unfold INF at hc; omega)
  rw [order_num (by unfold INF at hr; omega) (by unfold INF at hc; omega) (by rw [h1]; exact hr) (by rw [h2]; exact hc)]
  unfold sk sg
  rw [h1, h2, if_neg (by unfold S63; unfold INF at hr; simp; omega), if_neg (by unfold S63; unfold INF at hc; simp; omega)]
/-- a number below 2^53 and its whole part -/
theorem whole_part {r u : Nat} (h : r < R53) (hu : iv r / 2 ^ K1074 = u) : u < 9007199254740992 ∧ ∃ q, floatOfInt .f64 (u : Int) = q ∧ q ≤ r ∧ (q = r ↔ iv r = u * 2 ^ K1074) := by
  have h1 : iv r < 2 * B52 * 2 ^ K1074 := by rw [← iv_r53]; exact iv_lt h
  have hub : u < 9007199254740992 := by
    have h2 := (Nat.div_lt_iff_lt_mul (Nat.two_pow_pos K1074)).2 h1
    rw [hu] at h2
    exact h2
  have hle : u * 2 ^ K1074 ≤ iv r := by rw [← hu]; exact Nat.div_mul_le_self _ _
  refine ⟨hub, ?_⟩
  rcases Nat.eq_zero_or_pos u with h0 | h0
  · refine ⟨0, by rw [h0]; exact int_float0, Nat.zero_le _, ?_⟩
    rw [h0, Nat.zero_mul]
    constructor
    · intro e; rw [← e]; exact iv_zero
    · intro e
      rcases Nat.eq_zero_or_pos r with h2 | h2
      · exact h2.symm
      · have := iv_pos h2; omega
  · obtain ⟨q, hq⟩ := rung_ex K1074 u (by unfold B52; omega)
    have hqr : q ≤ r := iv_le_of (by rw [hq]; exact hle)
    refine ⟨q, int_float h0 hq (by unfold INF; unfold R53 at h; omega), hqr, ?_⟩
    rw [← hq]
    exact ⟨fun e => by rw [e], fun e => (iv_inj e).symm⟩
theorem odd_fin {N M n p : Nat} (h : M * 2 ^ (K1074 + p) = N * 2 ^ n) (ho : M % 2 = 1) : ∃ k : Nat, (k : Int) = 1074 + (p : Int) - (n : Int) ∧ OddOf N M k := by
  have hle : n ≤ K1074 + p := by
    rcases Nat.lt_or_ge (K1074 + p) n with h1 | h1
    · exfalso
      obtain ⟨d, rfl⟩ : ∃ d, n = K1074 + p + 1 + d := ⟨n - (K1074 + p) - 1, by omega⟩
      have e : M = N * 2 ^ d * 2 := by
        apply Nat.eq_of_mul_eq_mul_right (Nat.two_pow_pos (K1074 + p))
        rw [h, Nat.pow_add 2 (K1074 + p + 1), Nat.pow_succ]
        generalize (2 : Nat) ^ (K1074 + p) = P
        ac_rfl
      omega
    · exact h1
  refine ⟨K1074 + p - n, by unfold K1074 at *; omega, ?_, ho⟩
  apply Nat.eq_of_mul_eq_mul_right (Nat.two_pow_pos n)
  rw [← h, Nat.mul_assoc, ← Nat.pow_add, Nat.sub_add_cancel hle]
theorem div_two_pos {r : Nat} (h : 2 * B52 ≤ r) (hI : r < INF) : floatBits .quo .f64 r 4611686018427387904 = some (r - B52) := by
  have hm : r % S63 = r := Nat.mod_eq_of_lt (by unfold S63; unfold INF at hI; omega)
  have h1 := div_two (b := r) (q := r - B52) (by unfold INF at hI; omega) (by rw [hm]; exact hI) (by rw [hm]; unfold B52 at h; omega) (by rw [hm]; exact half_rung h) (by omega)
  rw [h1, show r / S63 = 0 from Nat.div_eq_of_lt (by unfold S63; unfold INF at hI; omega), Nat.zero_mul, Nat.zero_add]
theorem mul_two_pos {r q : Nat} (h0 : 0 < r) (hI : r < INF) (hq : iv q = 2 * iv r) (hqi : q < INF) : floatBits .mul .f64 r 4611686018427387904 = some q := by
  have hm : r % S63 = r := Nat.mod_eq_of_lt (by unfold S63; unfold INF at hI; omega)
  have h1 := mul_two (b := r) (q := q) (by unfold INF at hI; omega) (by rw [hm]; exact hI) (by rw [hm]; exact h0) (by rw [hm]; exact hq)
  rw [h1, show r / S63 = 0 from Nat.div_eq_of_lt (by unfold S63; unfold INF at hI; omega), Nat.zero_mul, Nat.zero_add, Nat.min_eq_left (by omega)]
theorem non_int {q u : Nat} (hu : iv q / 2 ^ K1074 = u) (h : ¬ iv q = u * 2 ^ K1074) : 2 * iv q < iv R53 := by
  rw [iv_r53]
  rcases Nat.lt_or_ge (sh q) K1074 with h1 | h1
  · have h2 : (2 : Nat) ^ (sh q + 1) ≤ 2 ^ K1074 := Nat.pow_le_pow_right (by decide) (by omega)
    rw [Nat.pow_succ] at h2
    have h3 := mg_lt q
    have h4 := Nat.two_pow_pos (sh q)
    unfold iv
    generalize (2 : Nat) ^ K1074 = P at *
    generalize (2 : Nat) ^ sh q = R at *
    have h5 : mg q * R < 2 * B52 * R := Nat.mul_lt_mul_of_pos_right h3 h4
    have h6 : B52 * (R * 2) ≤ B52 * P := Nat.mul_le_mul_left _ h2
    have e1 : 2 * B52 * R = B52 * (R * 2) := by rw [Nat.mul_comm 2, Nat.mul_assoc, Nat.mul_comm 2]
    have e2 : 2 * B52 * P = 2 * (B52 * P) := Nat.mul_assoc _ _ _
    rw [e2]
    omega
  · exfalso
    apply h
    rw [← hu]
    have e : iv q = mg q * 2 ^ (sh q - K1074) * 2 ^ K1074 := by
      unfold iv
      rw [Nat.mul_assoc, ← Nat.pow_add, Nat.sub_add_cancel h1]
    rw [e, Nat.mul_div_cancel _ (Nat.two_pow_pos _)]
theorem int_of_dvd {q : Nat} (h : 2 ^ K1074 ∣ iv q * 2 ^ 0) : iv q = iv q / 2 ^ K1074 * 2 ^ K1074 := by
  rw [Nat.pow_zero, Nat.mul_one] at h
  exact (Nat.div_mul_cancel h).symm
def RSplitB (b : Nat) (w : World) (e : Ending) (w' : World) : Prop := ∃ neg m x, e = .returned (.tuple #[.bool neg, .int .u64 m, .int .i64 x]) ∧ SplitOut b neg m x ∧ Below w.heap.size w w'

set_option maxRecDepth 100000 in
set_option maxHeartbeats 2000000 in
theorem rsplit_any (b : Nat) (w : World) (hb : b < 18446744073709551616) :
    Calls Tryz.prog 27 #[.float .f64 b] w (RSplitB b w) := by
  have HK := Lib.hid (rkind_any b w hb)
  have HBL := Lib.hid (fun w => rbelow_any b w hb)
  by_cases hk : kindZ b = 1
  · have hk1 := kind1.1 hk
    have HKK := Lib.hid hk
    rw [hk] at HK
    have hz := order_zero hb (by omega)
    rw [if_neg (by omega)] at hz
    obtain ⟨sg', hsg⟩ : ∃ s, decide (S63 ≤ b) = s := ⟨_, rfl⟩
    obtain ⟨r, hr⟩ : ∃ r, b % S63 = r := ⟨_, rfl⟩
    have hflip : sg' = true → flipS b = r := by
      intro h
      rw [h] at hsg
      have := of_decide_eq_true hsg
      unfold flipS
      rw [if_neg (by omega), ← hr]
      unfold S63 at *
      omega
    have hsame : sg' = false → b = r := by
      intro h
      rw [h] at hsg
      have := of_decide_eq_false hsg
      rw [← hr]
      unfold S63 at *
      omega
    have hzl : (FloatKind.f64.format.order b 0 == some .lt) = sg' := by
      rw [hz, ← hsg]
      by_cases h : S63 ≤ b
      · rw [if_pos h, show decide (S63 ≤ b) = true from by simpa using h]; rfl
      · rw [if_neg h, show decide (S63 ≤ b) = false from by simpa using h]; rfl
    have hun := unary_flip hb
    rw [hr] at hk1
    have HR := Lib.hid hr
    have HSG := Lib.hid hsg
    have hr0 := hk1.1
    have hrI := hk1.2
    have HIV0 := Lib.hid (iv_pos hr0)
    clear hk hk1 hz hr hsg hb
    go_enter Tryz.func27, Tryz.ntmps27
    go_wp2_with fail
    refine HK.out.mono ?_; rintro x w1 ⟨rfl, hb1⟩
    have HB1 := Lib.hid hb1
    clear hb1
    go_upto_if 15 with fail
    go_cut [5] (fun v wx => v = .float .f64 r ∧ w1 = wx)
    case first =>
      cases sg'
      · have e := hsame rfl
        clear hflip hsame
        go_wp2_with fail
        go_meet
        exact ⟨congrArg (Value.float .f64) e, rfl⟩
      · have e := hflip rfl
        clear hflip hsame
        go_wp2_with fail
        go_meet
        exact ⟨rfl, rfl⟩
    case rest =>
      obtain ⟨rfl, rfl⟩ := hcut
      clear hflip hsame hun
      go_wp2_with fail
      go_loop [5, 6] (fun y x => ∃ q k : Nat, y = .float .f64 q ∧ x = .int .i64 k ∧ 0 < q ∧ q < INF ∧ iv q * 2 ^ k = iv r ∧ q + k * B52 ≤ INF) (fun y _ => match y with | .float _ q => q | _ => 0)
      case atStart => exact ⟨r, 0, rfl, rfl, hr0, hrI, by rw [Nat.pow_zero, Nat.mul_one], by omega⟩
      case round =>
        obtain ⟨q, k, rfl, rfl, hq0, hqI, hqv, hqk⟩ := hrel
        have HQV := Lib.hid hqv
        have hkb : (k : Int) ≤ 2047 := by unfold INF B52 at hqk; omega
        clear hqv
        have ho := order_pos (r := q) (c := R53) (by omega) (by decide)
        rcases Nat.lt_trichotomy q R53 with hlt | heq | hgt
        · rw [cmp_lt (by omega)] at ho
          clear hkb
          have hkb : k ≤ 2047 := by unfold INF B52 at hqk; omega
          clear hqk
          go_wp2_with fail
          go_loopg [5, 6] K1074 (fun g y x wr => ∃ q p : Nat, y = .float .f64 q ∧ x = .int .i64 ((k : Int) - (p : Int)) ∧ p + g = K1074 ∧ 0 < q ∧ q < R53 ∧ 2 ^ K1074 ∣ iv q * 2 ^ g ∧ iv q * 2 ^ k = iv r * 2 ^ p ∧ wr = w1)
          case atStart => exact ⟨q, 0, rfl, congrArg (Value.int .i64) (by omega), by omega, hq0, hlt, Nat.dvd_mul_left _ _, by rw [Nat.pow_zero, Nat.mul_one]; exact HQV.out, rfl⟩
          case round =>
            obtain ⟨q, p, rfl, rfl, hpg, hq0, hq53, hdv, hv2, rfl⟩ := hrel
            have HDV := Lib.hid hdv
            have HV2 := Lib.hid hv2
            have HPG := Lib.hid hpg
            have hp1 : (p : Int) ≤ 1074 := by unfold K1074 at hpg; omega
            have hk1 : (k : Int) ≤ 2047 := by omega
            clear hdv hv2 hpg
            obtain ⟨u, hu⟩ : ∃ u, iv q / 2 ^ K1074 = u := ⟨_, rfl⟩
            obtain ⟨hub, qf, hqf, hqle, hiff⟩ := whole_part hq53 hu
            have hconv := run_convert_float_int (P := Tryz.prog) wr 22 36 .f64 .u64 q (u : Int) (by kernel_rfl) Tryz.underlying36 (float_int (by unfold INF; unfold R53 at hq53; omega) hu (by omega))
            have ho2 := order_pos (r := q) (c := qf) (by unfold INF; unfold R53 at hq53; omega) (by unfold INF; unfold R53 at hq53; omega)
            have HU := Lib.hid hu
            have HIFF := Lib.hid hiff
            have hub2 : (u : Int) ≤ 9007199254740991 := by omega
            by_cases hint : qf = q
            · rw [cmp_same (by omega)] at ho2
              have hiq := hiff.1 hint
              have HIQ := Lib.hid hiq
              have hu0 : 0 < u := by
                rcases Nat.eq_zero_or_pos u with h | h
                · rw [h, Nat.zero_mul] at hiq
                  have := iv_pos hq0
                  omega
                · exact h
              have HU0 := Lib.hid hu0
              have hu1 : 0 < u := hu0
              clear hint hiff hqle hq0 hq53 hu hiq hub hu0
              go_wp2_with fail
              go_loop [7, 6] (fun m x => ∃ M j : Nat, m = .int .u64 M ∧ x = .int .i64 ((k : Int) - (p : Int) + (j : Int)) ∧ M * 2 ^ j = u ∧ 0 < M ∧ M + j ≤ u) (fun m _ => (intOf m).toNat)
              case atStart => exact ⟨u, 0, rfl, congrArg (Value.int .i64) (by omega), by rw [Nat.pow_zero, Nat.mul_one], hu1, by omega⟩
              case round =>
                obtain ⟨M, j, rfl, rfl, hMv, hM0, hMj⟩ := hrel
                have HMV := Lib.hid hMv
                have hMu : (M : Int) ≤ 9007199254740991 := by omega
                have hju : (j : Int) ≤ 9007199254740991 := by omega
                clear hMv
                by_cases hpar : M % 2 = 0
                · have hpt : ((M : Int) % 2 == 0) = true := by simp; omega
                  have HM2 : Hid (M / 2 * 2 ^ (j + 1) = u) := Lib.hid (by
                    have e : M = M / 2 * 2 := by omega
                    rw [← HMV.out, Nat.pow_succ, Nat.mul_comm (2 ^ j), ← Nat.mul_assoc, ← e])
                  have h20 : 0 < M / 2 := by omega
                  have h2j : M / 2 + (j + 1) ≤ u := by omega
                  have h2l : M / 2 < M := by omega
                  have hMq : (M : Int) / 2 = ((M / 2 : Nat) : Int) := by omega
                  generalize M / 2 = M2 at *
                  clear hpar
                  go_wp2_with fail
                  go_round
                  case rel => exact ⟨M2, j + 1, rfl, congrArg (Value.int .i64) (by omega), HM2.out, h20, h2j⟩
                  case measure => simp [intOf]; omega
                · have hpt : ((M : Int) % 2 == 0) = false := by simp; omega
                  have HO : Hid (SplitOut b sg' (M : Int) ((k : Int) - (p : Int) + (j : Int))) := Lib.hid (by
                    obtain ⟨kk, hkk, hodd⟩ := odd_fin (N := iv r) (M := M) (n := p) (p := k + j) (by
                      rw [← HV2.out, HIQ.out, ← HMV.out, Nat.pow_add, Nat.pow_add]
                      generalize (2 : Nat) ^ K1074 = P
                      generalize (2 : Nat) ^ k = Q
                      generalize (2 : Nat) ^ j = R
                      ac_rfl) (by omega)
                    exact .inr ⟨HKK.out, HSG.out.symm, M, kk, rfl, by omega, by rw [HR.out]; exact hodd⟩)
                  clear hpar
                  go_wp2_with fail
                  go_ret3
                  exact ⟨_, _, _, ret_tri rfl rfl rfl, HO.out, HB1.out⟩
            · rw [cmp_gt (by omega)] at ho2
              obtain ⟨q', hq', -⟩ := twice_rung q
              have hno : ¬ iv q = u * 2 ^ K1074 := fun h => hint (hiff.2 h)
              have hq53' : q' < R53 := iv_lt_of (by rw [hq']; exact non_int hu hno)
              have hm := run_float_arith (P := Tryz.prog) wr .mul 22 .f64 q _ _ (mul_two_pos hq0 (by unfold INF; unfold R53 at hq53; omega) hq' (by unfold INF; unfold R53 at hq53'; omega))
              have hg0 : 0 < gk := by
                rcases Nat.eq_zero_or_pos gk with h | h
                · exfalso
                  have h2 := HDV.out
                  rw [h] at h2
                  apply hno
                  rw [← hu]
                  exact int_of_dvd h2
                · exact h
              have hq0' : 0 < q' := by
                rcases Nat.eq_zero_or_pos q' with h | h
                · rw [h, iv_zero] at hq'
                  have := iv_pos hq0
                  omega
                · exact h
              have HN : Hid (2 ^ K1074 ∣ iv q' * 2 ^ (gk - 1) ∧ iv q' * 2 ^ k = iv r * 2 ^ (p + 1)) := Lib.hid (by
                constructor
                · obtain ⟨g, hg⟩ : ∃ g, gk = g + 1 := ⟨gk - 1, by omega⟩
                  have h2 := HDV.out
                  rw [hg, Nat.pow_succ] at h2
                  rw [hg, Nat.add_sub_cancel, hq']
                  generalize (2 : Nat) ^ g = R at *
                  rw [Nat.mul_comm 2, Nat.mul_assoc, Nat.mul_comm 2]
                  exact h2
                · rw [hq', Nat.mul_assoc, HV2.out, Nat.pow_succ]
                  generalize (2 : Nat) ^ p = R
                  rw [Nat.mul_comm R 2, ← Nat.mul_assoc, Nat.mul_comm 2, Nat.mul_assoc])
              clear hint hiff hqle hq0 hq53 hu hno hub hq'
              go_wp2_with fail
              go_roundg (gk - 1)
              case measure => omega
              case rel => exact ⟨q', p + 1, rfl, congrArg (Value.int .i64) (by omega), by have := HPG.out; omega, hq0', hq53', HN.out.1, HN.out.2, rfl⟩
        · rw [cmp_same (by omega)] at ho
          have hd := run_float_arith (P := Tryz.prog) w1 .quo 22 .f64 q _ _ (div_two_pos (r := q) (by rw [heq]; decide) hqI)
          have HN : Hid (0 < q - B52 ∧ q - B52 < INF ∧ iv (q - B52) * 2 ^ (k + 1) = iv r ∧ q - B52 + (k + 1) * B52 ≤ INF ∧ q - B52 < q) := Lib.hid (by
            have h2 := half_rung (r := q) (by rw [heq]; decide)
            refine ⟨by rw [heq]; decide, by omega, ?_, by rw [heq] at hqk ⊢; unfold R53 B52 at *; omega, by rw [heq]; decide⟩
            rw [← HQV.out, h2, Nat.pow_succ]
            generalize iv (q - B52) = P
            generalize (2 : Nat) ^ k = R
            rw [Nat.mul_comm R 2, ← Nat.mul_assoc, Nat.mul_comm P 2])
          generalize q - B52 = q2 at *
          clear heq hqk hq0 hqI
          go_wp2_with fail
          go_round
          case rel => exact ⟨q2, k + 1, rfl, by go_num, HN.out.1, HN.out.2.1, HN.out.2.2.1, HN.out.2.2.2.1⟩
          case measure => exact HN.out.2.2.2.2
        · rw [cmp_gt (by omega)] at ho
          have hq2 : 2 * B52 ≤ q := by unfold R53 at hgt; unfold B52; omega
          have hd := run_float_arith (P := Tryz.prog) w1 .quo 22 .f64 q _ _ (div_two_pos (r := q) hq2 hqI)
          have HN : Hid (0 < q - B52 ∧ q - B52 < INF ∧ iv (q - B52) * 2 ^ (k + 1) = iv r ∧ q - B52 + (k + 1) * B52 ≤ INF ∧ q - B52 < q) := Lib.hid (by
            have h2 := half_rung (r := q) hq2
            refine ⟨by unfold B52 at *; omega, by omega, ?_, by unfold B52 at *; omega, by unfold B52 at *; omega⟩
            rw [← HQV.out, h2, Nat.pow_succ]
            generalize iv (q - B52) = P
            generalize (2 : Nat) ^ k = R
            rw [Nat.mul_comm R 2, ← Nat.mul_assoc, Nat.mul_comm P 2])
          generalize q - B52 = q2 at *
          clear hgt hqk hq0 hqI hq2
          go_wp2_with fail
          go_round
          case rel => exact ⟨q2, k + 1, rfl, by go_num, HN.out.1, HN.out.2.1, HN.out.2.2.1, HN.out.2.2.2.1⟩
          case measure => exact HN.out.2.2.2.2
  · have HOUT : Hid (SplitOut b (belowB b) 0 0) := Lib.hid (.inl ⟨hk, rfl, rfl, rfl⟩)
    have hk1 : (kindZ b != 1) = true := by simpa using hk
    generalize kindZ b = kb at *
    clear hk hb
    go_enter Tryz.func27, Tryz.ntmps27
    go_wp2_with fail
    refine HK.out.mono ?_; rintro x w1 ⟨rfl, hb1⟩
    have HB1 := Lib.hid hb1
    clear hb1
    go_wp2_with fail
    refine (HBL.out w1).mono ?_; rintro x w2 ⟨rfl, rfl⟩
    go_wp2_with fail
    go_ret3
    exact ⟨_, _, _, rfl, HOUT.out, HB1.out⟩
end Go.Proofs.YtdbkgpakpadloaaGreatDoor
/- Contract of package bushelref03's times. Conditions: a number below the infinity without a minus; a halving that loses nothing; at most 5000 steps. -/
namespace Go.Proofs.YtdbkgpakpadloaaGreatDoor
open Go.RowKit Ieee

theorem scale_rung (q : Nat) : ∀ j : Nat, ∃ x, iv x = iv q * 2 ^ j
  | 0 => ⟨q, by rw [Nat.pow_zero, Nat.mul_one]⟩
  | j + 1 => by
    obtain ⟨x, hx⟩ := scale_rung q j
    obtain ⟨y, hy, -⟩ := twice_rung x
    exact ⟨y, by rw [hy, hx, Nat.pow_succ, Nat.mul_comm (2 ^ j) 2, ← Nat.mul_assoc, Nat.mul_comm 2, Nat.mul_assoc]⟩
theorem iv_eq0 {q : Nat} (h : iv q = 0) : q = 0 := by
  rcases Nat.eq_zero_or_pos q with h1 | h1
  · exact h1
  · have := iv_pos h1; omega

set_option maxRecDepth 100000 in
set_option maxHeartbeats 1000000 in
theorem rtimes_dn (r q e : Nat) (w : World) (hr : r < INF) (hq : iv r = iv q * 2 ^ e) (he : e ≤ 5000) :
    Calls Tryz.prog 80 #[.float .f64 r, .int .i64 (-(e : Int))] w fun x w' => x = .returned (.float .f64 q) ∧ w = w' := by
  have HQ := Lib.hid hq
  clear hq
  go_enter Tryz.func80, Tryz.ntmps80
  go_wp2_with fail
  go_loopg [0, 1] 0 (fun g y x wr => y = .float .f64 r ∧ x = .int .i64 (-(e : Int)) ∧ wr = w)
  case atStart => exact ⟨rfl, rfl, rfl⟩
  case round =>
    obtain ⟨rfl, rfl, hww⟩ := hrel
    subst hww
    have hc : decide (0 < -(e : Int)) = false := by simp
    go_wp2_with fail
    go_loopg [0, 1] e (fun g y x wr2 => ∃ x' : Nat, y = .float .f64 x' ∧ x = .int .i64 (-(g : Int)) ∧ x' < INF ∧ g ≤ 5000 ∧ iv x' = iv q * 2 ^ g ∧ wr2 = wr)
    case atStart => exact ⟨r, rfl, rfl, hr, he, HQ.out, rfl⟩
    case round =>
      obtain ⟨x, rfl, rfl, hx, hg, hv, hww⟩ := hrel
      subst hww
      have HV := Lib.hid hv
      clear hv hc
      rcases Nat.eq_zero_or_pos gk with h0 | h0
      · have hxq : x = q := iv_inj (by rw [HV.out, h0, Nat.pow_zero, Nat.mul_one])
        have HXQ := Lib.hid hxq
        have hc : decide (0 < gk) = false := by simp; omega
        clear h0 hxq
        go_wp2_with fail
        go_ret
        exact ⟨congrArg (fun n => Ending.returned (.float .f64 n)) HXQ.out, rfl⟩
      · have hc : decide (0 < gk) = true := by simp; omega
        have ho := order_pos (r := x) (c := 0) (by omega) (by decide)
        rcases Nat.eq_zero_or_pos x with h1 | h1
        · rw [cmp_same (by omega)] at ho
          have hxq : x = q := by
            have h2 := HV.out
            rw [h1, iv_zero] at h2
            rcases Nat.mul_eq_zero.1 h2.symm with h3 | h3
            · rw [h1, iv_eq0 h3]
            · have := Nat.two_pow_pos gk; omega
          have HXQ := Lib.hid hxq
          clear h1 hxq
          go_wp2_with fail
          go_ret
          exact ⟨congrArg (fun n => Ending.returned (.float .f64 n)) HXQ.out, rfl⟩
        · rw [cmp_gt (by omega)] at ho
          obtain ⟨g, hgg⟩ : ∃ g, gk = g + 1 := ⟨gk - 1, by omega⟩
          obtain ⟨y, hy⟩ := scale_rung q g
          have hxy : iv x = 2 * iv y := by
            rw [HV.out, hgg, Nat.pow_succ, hy, Nat.mul_comm (2 ^ g) 2, ← Nat.mul_assoc, Nat.mul_comm _ 2, Nat.mul_assoc]
          have hyx : y ≤ x := iv_le_of (by rw [hxy]; omega)
          have hm : x % S63 = x := Nat.mod_eq_of_lt (by unfold S63; unfold INF at hx; omega)
          have hd2 := div_two (b := x) (q := y) (by unfold INF at hx; omega) (by rw [hm]; exact hx) (by rw [hm]; exact h1) (by rw [hm]; exact hxy) (by omega)
          rw [show x / S63 = 0 from Nat.div_eq_of_lt (by unfold S63; unfold INF at hx; omega), Nat.zero_mul, Nat.zero_add] at hd2
          have hd := run_float_arith (P := Tryz.prog) wr .quo 22 .f64 x _ _ hd2
          have hyI : y < INF := by omega
          have HY := Lib.hid hy
          clear hd2 hm hyx hxy hy h1
          go_wp2_with fail
          go_roundg g
          case measure => omega
          case rel => exact ⟨y, rfl, congrArg (Value.int .i64) (by omega), hyI, by omega, HY.out, rfl⟩

set_option maxRecDepth 100000 in
set_option maxHeartbeats 1000000 in
theorem rtimes_up (r q e : Nat) (w : World) (h0 : 0 < r) (hr : r < INF) (hq : iv q = iv r * 2 ^ e) (he : e ≤ 5000) :
    Calls Tryz.prog 80 #[.float .f64 r, .int .i64 (e : Int)] w fun x w' => x = .returned (.float .f64 (min q INF)) ∧ Below w.heap.size w w' := by
  have HQ := Lib.hid hq
  clear hq
  go_enter Tryz.func80, Tryz.ntmps80
  go_wp2_with fail
  go_loopg [0, 1] e (fun g y x wr => ∃ x' z : Nat, y = .float .f64 z ∧ z = min x' INF ∧ x = .int .i64 (g : Int) ∧ 0 < x' ∧ g ≤ 5000 ∧ iv x' * 2 ^ g = iv q ∧ wr = w)
  case atStart => exact ⟨r, r, rfl, (Nat.min_eq_left (by omega)).symm, rfl, h0, he, HQ.out.symm, rfl⟩
  case round =>
    obtain ⟨x, z, rfl, hz, rfl, hx0, hg, hv, hww⟩ := hrel
    subst hww
    have HV := Lib.hid hv
    have hle : x ≤ q := iv_le_of (by
      rw [← hv]
      exact Nat.le_mul_of_pos_right _ (Nat.two_pow_pos _))
    clear hv
    have hc2 : decide ((gk : Int) < 0) = false := by simp
    rcases Nat.eq_zero_or_pos gk with h1 | h1
    · have hxq : x = q := iv_inj (by rw [← HV.out, h1, Nat.pow_zero, Nat.mul_one])
      have hc : decide (0 < gk) = false := by simp; omega
      have HE : Hid (z = min q INF) := Lib.hid (by rw [hz, hxq])
      clear h1 hz hxq hle
      go_wp2_with fail
      go_loopg [0, 1] 0 (fun g y x wr2 => y = .float .f64 z ∧ x = .int .i64 (gk : Int) ∧ wr2 = wr)
      case atStart => exact ⟨rfl, rfl, rfl⟩
      case round =>
        obtain ⟨rfl, rfl, hww⟩ := hrel
        subst hww
        go_wp2_with fail
        go_ret
        exact ⟨congrArg (fun n => Ending.returned (.float .f64 n)) HE.out, Below.refl _ _⟩
    · have hc : decide (0 < gk) = true := by simp; omega
      rcases Nat.lt_or_ge x INF with h2 | h2
      · have hzx : z = x := by rw [hz, Nat.min_eq_left (by omega)]
        subst hzx
        obtain ⟨g, hgg⟩ : ∃ g, gk = g + 1 := ⟨gk - 1, by omega⟩
        obtain ⟨y, hy, -⟩ := twice_rung z
        have hm : z % S63 = z := Nat.mod_eq_of_lt (by unfold S63; unfold INF at h2; omega)
        have hzl : z < 18446744073709551616 := by unfold INF at h2; omega
        have hrun := run_float_arith (P := Tryz.prog) wr .sub 22 .f64 z z 0 (sub_self_fin hzl (by rw [hm]; exact h2))
        have hrz : FloatKind.f64.format.order 0 0 = some .eq := by decide
        have hd2 := mul_two (b := z) (q := y) hzl (by rw [hm]; exact h2) (by rw [hm]; exact hx0) (by rw [hm]; exact hy)
        rw [show z / S63 = 0 from Nat.div_eq_of_lt (by unfold S63; unfold INF at h2; omega), Nat.zero_mul, Nat.zero_add] at hd2
        have hy0 : 0 < y := by
          rcases Nat.eq_zero_or_pos y with h | h
          · rw [h, iv_zero] at hy
            have := iv_pos hx0
            omega
          · exact h
        have HY : Hid (iv y * 2 ^ g = iv q) := Lib.hid (by
          rw [← HV.out, hgg, Nat.pow_succ, hy, Nat.mul_comm (2 ^ g) 2, ← Nat.mul_assoc, Nat.mul_comm _ 2])
        obtain ⟨z2, hz2⟩ : ∃ z2, min y INF = z2 := ⟨_, rfl⟩
        rw [hz2] at hd2
        have HZ2 := Lib.hid hz2
        have hd := run_float_arith (P := Tryz.prog) wr .mul 22 .f64 z _ _ hd2
        clear hd2 hm hle hz hy hzl h2 hz2
        go_wp2_with fail
        go_roundg g
        case measure => omega
        case rel => exact ⟨y, z2, rfl, HZ2.out.symm, congrArg (Value.int .i64) (by omega), hy0, by omega, HY.out, rfl⟩
      · have hzx : z = INF := by rw [hz, Nat.min_eq_right h2]
        have HE : Hid (z = min q INF) := Lib.hid (by rw [hzx, Nat.min_eq_right (by omega)])
        have hsi := sub_self_inf (b := z) (by rw [hzx]; decide) (by rw [hzx]; decide)
        obtain ⟨r2, hr0, hr1, hrun⟩ := run_float_nan .sub 22 z z hsi (by simp) wr
        have hrz : FloatKind.f64.format.order r2 0 = none := order_nan (.inl hr1)
        clear hr0 hr1 hsi hzx h2 hz hle
        go_wp2_with fail
        go_loopg [0, 1] 0 (fun g y x wr2 => y = .float .f64 z ∧ x = .int .i64 (gk : Int) ∧ wr2 = wr.drew)
        case atStart => exact ⟨rfl, rfl, rfl⟩
        case round =>
          obtain ⟨rfl, rfl, hww⟩ := hrel
          subst hww
          go_wp2_with fail
          go_ret
          exact ⟨congrArg (fun n => Ending.returned (.float .f64 n)) HE.out, (Below.refl _ _).drew⟩
end Go.Proofs.YtdbkgpakpadloaaGreatDoor
/- Contract of package bushelref03's below. Conditions: the number that is multiplied fits; at most 100000 places apart. -/
namespace Go.Proofs.YtdbkgpakpadloaaGreatDoor
open Go.RowKit Ieee

set_option maxRecDepth 100000 in
set_option maxHeartbeats 4000000 in
theorem rbelow_hi (na nb : Bool) (a b : Option Addr) (n c m d : Nat) (x y r : Int) (e k : Int) (g : Nat) (w : World) (hx : NumC w na a n c x) (hy : NumC w nb b m d y) (fy : Fit y) (hk : k = e + (g : Int)) (hg : g ≤ 100000)
    (hr : cmpZ x (y * 2 ^ g) = r) :
    Calls Tryz.prog 79 #[.agg #[.bool na, .slice a n c], .agg #[.bool nb, .slice b m d], .int .i64 e, .int .i64 k] w fun z w' => z = .returned (.bool (decide (r < 0))) ∧ Below w.heap.size w w' := by
  have HR := Lib.hid hr
  have FY := Lib.hid fy
  have FG := Lib.hid (fit_two (n := g) (by omega))
  have HT := Lib.hid (fun w => two_any g w (by omega))
  obtain ⟨hk0, hk1, hbw, -⟩ := two_bx w 61 #[.bool na, .slice a n c] #[.bool nb, .slice b m d]
  have HB7 := Lib.hid hbw
  have HP7 := Lib.hid (hx.below hbw (Nat.le_refl _))
  have HQ7 := Lib.hid (hy.below hbw (Nat.le_refl _))
  have hc : decide (e ≤ k) = true := by simp; omega
  have hsub : IntKind.i64.wrap (k - e) = (g : Int) := by rw [IntWalk.i64_in _ (by omega)]; omega
  clear hr fy hx hy hbw hk
  go_enter Tryz.func79, Tryz.ntmps79
  go_upto_region 2 with fail
  generalize ((w.alloc (.cells #[.bool na, .slice a n c] 61)).alloc (.cells #[.bool nb, .slice b m d] 61)) = w7 at *
  generalize hsz0 : w.heap.size = s at *
  have HSZ := Lib.hid hsz0
  clear hsz0
  have x0 : w7.cell? ⟨s, 0, none⟩ = some (.bool na) := hk0.cell 0
  have x1 : w7.cell? ⟨s, 1, none⟩ = some (.slice a n c) := hk0.cell 1
  have y0 : w7.cell? ⟨s + 1, 0, none⟩ = some (.bool nb) := hk1.cell 0
  have y1 : w7.cell? ⟨s + 1, 1, none⟩ = some (.slice b m d) := hk1.cell 1
  have hs0 : s < w7.heap.size := hk0.lt
  have hs1 : s + 1 < w7.heap.size := hk1.lt
  clear hk0 hk1
  have hbA : Below w7.heap.size w7 w7.drew := (Below.refl _ _).drew
  go_region_held3 (fun w' => w'.cell? ⟨s, 0, none⟩ = some (.bool na) ∧ w'.cell? ⟨s, 1, none⟩ = some (.slice a n c) ∧ w'.cell? ⟨s + 1, 0, none⟩ = some (.bool nb) ∧ w'.cell? ⟨s + 1, 1, none⟩ = some (.slice b m d)) (go_keep)
    (first
      | (go_at_call 81; refine (HT.out _).mono ?_; rintro e w8 ⟨m8, b8, l8, d8, rfl, hM8, hb8, -⟩; replace hbA := hbA.trans (hb8.mono (Nat.le_trans (by simp) hbA.size)); clear hb8; (try clear bc8 bf8); obtain ⟨bc8, bf8⟩ := bcell hbA)
      | (go_at_call 55; refine (mul_any _ _ _ _ _ _ _ _ y (2 ^ g) _ (HQ7.out.below hbA (Nat.le_refl _)) hM8 FY.out FG.out).mono ?_; rintro e w9 ⟨m9, b9, l9, d9, rfl, hM9, hb9, -⟩; clear hM8; replace hbA := hbA.trans (hb9.mono (Nat.le_trans (by simp) hbA.size)); clear hb9; (try clear bc8 bf8); obtain ⟨bc8, bf8⟩ := bcell hbA)
      | (go_at_call 83; refine (cmp_at _ _ _ _ _ _ _ _ x (y * 2 ^ g) r _ HR.out (HP7.out.below hbA (Nat.le_refl _)) hM9).mono ?_; rintro e w9 ⟨rfl, hb9⟩; clear hM9 bc8 bf8; replace hbA := hbA.trans (hb9.mono (Nat.le_trans (by simp) hbA.size)); clear hb9; obtain ⟨bc8, bf8⟩ := bcell hbA))
  all_goals
    clear bc8 bf8
    have HBE := Lib.hid (HB7.out.trans (hbA.mono (by rw [← HSZ.out]; exact HB7.out.size)))
    clear hbA
    go_wp2_with fail
    go_ret
    exact ⟨rfl, by rw [HSZ.out]; exact HBE.out⟩

set_option maxRecDepth 100000 in
set_option maxHeartbeats 4000000 in
theorem rbelow_lo (na nb : Bool) (a b : Option Addr) (n c m d : Nat) (x y r : Int) (e k : Int) (g : Nat) (w : World) (hx : NumC w na a n c x) (hy : NumC w nb b m d y) (fy : Fit x) (hk : e = k + (g : Int) ∧ 0 < g) (hg : g ≤ 100000)
    (hr : cmpZ (x * 2 ^ g) y = r) :
    Calls Tryz.prog 79 #[.agg #[.bool na, .slice a n c], .agg #[.bool nb, .slice b m d], .int .i64 e, .int .i64 k] w fun z w' => z = .returned (.bool (decide (r < 0))) ∧ Below w.heap.size w w' := by
  have HR := Lib.hid hr
  have FY := Lib.hid fy
  have FG := Lib.hid (fit_two (n := g) (by omega))
  have HT := Lib.hid (fun w => two_any g w (by omega))
  obtain ⟨hk0, hk1, hbw, -⟩ := two_bx w 61 #[.bool na, .slice a n c] #[.bool nb, .slice b m d]
  have HB7 := Lib.hid hbw
  have HP7 := Lib.hid (hx.below hbw (Nat.le_refl _))
  have HQ7 := Lib.hid (hy.below hbw (Nat.le_refl _))
  have hc : decide (e ≤ k) = false := by simp; omega
  have hsub : IntKind.i64.wrap (e - k) = (g : Int) := by rw [IntWalk.i64_in _ (by omega)]; omega
  clear hr fy hx hy hbw hk
  go_enter Tryz.func79, Tryz.ntmps79
  go_upto_region 3 with fail
  generalize ((w.alloc (.cells #[.bool na, .slice a n c] 61)).alloc (.cells #[.bool nb, .slice b m d] 61)) = w7 at *
  generalize hsz0 : w.heap.size = s at *
  have HSZ := Lib.hid hsz0
  clear hsz0
  have x0 : w7.cell? ⟨s, 0, none⟩ = some (.bool na) := hk0.cell 0
  have x1 : w7.cell? ⟨s, 1, none⟩ = some (.slice a n c) := hk0.cell 1
  have y0 : w7.cell? ⟨s + 1, 0, none⟩ = some (.bool nb) := hk1.cell 0
  have y1 : w7.cell? ⟨s + 1, 1, none⟩ = some (.slice b m d) := hk1.cell 1
  have hs0 : s < w7.heap.size := hk0.lt
  have hs1 : s + 1 < w7.heap.size := hk1.lt
  clear hk0 hk1
  have hbA : Below w7.heap.size w7 w7.drew := (Below.refl _ _).drew
  go_region_held3 (fun w' => w'.cell? ⟨s, 0, none⟩ = some (.bool na) ∧ w'.cell? ⟨s, 1, none⟩ = some (.slice a n c) ∧ w'.cell? ⟨s + 1, 0, none⟩ = some (.bool nb) ∧ w'.cell? ⟨s + 1, 1, none⟩ = some (.slice b m d)) (go_keep)
    (first
      | (go_at_call 81; refine (HT.out _).mono ?_; rintro e w8 ⟨m8, b8, l8, d8, rfl, hM8, hb8, -⟩; replace hbA := hbA.trans (hb8.mono (Nat.le_trans (by simp) hbA.size)); clear hb8; (try clear bc8 bf8); obtain ⟨bc8, bf8⟩ := bcell hbA)
      | (go_at_call 55; refine (mul_any _ _ _ _ _ _ _ _ x (2 ^ g) _ (HP7.out.below hbA (Nat.le_refl _)) hM8 FY.out FG.out).mono ?_; rintro e w9 ⟨m9, b9, l9, d9, rfl, hM9, hb9, -⟩; clear hM8; replace hbA := hbA.trans (hb9.mono (Nat.le_trans (by simp) hbA.size)); clear hb9; (try clear bc8 bf8); obtain ⟨bc8, bf8⟩ := bcell hbA)
      | (go_at_call 83; refine (cmp_at _ _ _ _ _ _ _ _ (x * 2 ^ g) y r _ HR.out hM9 (HQ7.out.below hbA (Nat.le_refl _))).mono ?_; rintro e w9 ⟨rfl, hb9⟩; clear hM9 bc8 bf8; replace hbA := hbA.trans (hb9.mono (Nat.le_trans (by simp) hbA.size)); clear hb9; obtain ⟨bc8, bf8⟩ := bcell hbA))
  all_goals
    clear bc8 bf8
    have HBE := Lib.hid (HB7.out.trans (hbA.mono (by rw [← HSZ.out]; exact HB7.out.size)))
    clear hbA
    go_wp2_with fail
    go_ret
    exact ⟨rfl, by rw [HSZ.out]; exact HBE.out⟩
end Go.Proofs.YtdbkgpakpadloaaGreatDoor
/- Contracts of package bushelref03's below and times, as its Nearest calls them. Conditions: numbers that fit, powers from -9000 to 3000; a whole number of at most 2^53. -/
namespace Go.Proofs.YtdbkgpakpadloaaGreatDoor
open Go.RowKit Ieee

theorem nat_cast_pow (Q g : Nat) : ((Q * 2 ^ g : Nat) : Int) = (Q : Int) * 2 ^ g := by
  rw [Int.natCast_mul, Int.natCast_pow]; rfl

theorem rbelow_near (na nb : Bool) (a b : Option Addr) (n c m d P Q : Nat) (e k : Int) (A B t : Nat) (w : World) (hx : NumC w na a n c (P : Int)) (hy : NumC w nb b m d (Q : Int)) (fP : Fit (P : Int)) (fQ : Fit (Q : Int))
    (hA : e + 1074 = (A : Int) - (B : Int)) (hk : k = (t : Int) + 53 - 1074) (he1 : -9000 ≤ e) (he2 : e ≤ 3000) (ht : t ≤ 3000) :
    Calls Tryz.prog 79 #[.agg #[.bool na, .slice a n c], .agg #[.bool nb, .slice b m d], .int .i64 e, .int .i64 k] w fun z w' => z = .returned (.bool (decide (P * 2 ^ A < Q * 2 ^ B * 2 ^ (t + 53)))) ∧ Below w.heap.size w w' := by
  rcases Int.lt_or_le k e with h | h
  · obtain ⟨g, hg⟩ : ∃ g : Nat, e = k + (g : Int) := ⟨(e - k).toNat, by omega⟩
    refine (rbelow_lo na nb a b n c m d P Q (cmpZ ((P : Int) * 2 ^ g) Q) e k g w hx hy fP ⟨hg, by omega⟩ (by omega) rfl).mono ?_
    rintro z w' ⟨rfl, hb⟩
    refine ⟨ret_bool ?_, hb⟩
    rw [decide_eq_decide, cmpZ_neg, ← nat_cast_pow, Int.ofNat_lt]
    exact below_lo hA hk hg
  · obtain ⟨g, hg⟩ : ∃ g : Nat, k = e + (g : Int) := ⟨(k - e).toNat, by omega⟩
    refine (rbelow_hi na nb a b n c m d P Q (cmpZ P ((Q : Int) * 2 ^ g)) e k g w hx hy fQ hg (by omega) rfl).mono ?_
    rintro z w' ⟨rfl, hb⟩
    refine ⟨ret_bool ?_, hb⟩
    rw [decide_eq_decide, cmpZ_neg, ← nat_cast_pow, Int.ofNat_lt]
    exact below_hi hA hk hg

theorem rtimes_near (v t : Nat) (w : World) (h1 : v ≤ 9007199254740992) (ht : t ≤ 2045) (h2 : t = 0 ∨ B52 ≤ v) :
    Calls Tryz.prog 80 #[.float .f64 (floatOfInt .f64 (v : Int)), .int .i64 ((t : Int) - 1074)] w fun x w' => x = .returned (.float .f64 (min (t * B52 + v) INF)) ∧ Below w.heap.size w w' := by
  have hq : iv (t * B52 + v) = v * 2 ^ t := rung_of (by unfold B52; omega) h2
  have hr : ∃ r, floatOfInt .f64 (v : Int) = r ∧ r < INF ∧ iv r = v * 2 ^ K1074 ∧ (0 < v → 0 < r) := by
    rcases Nat.eq_zero_or_pos v with h0 | h0
    · subst h0; exact ⟨0, int_float0, by decide, by rw [iv_zero, Nat.zero_mul], fun h => by omega⟩
    · obtain ⟨E, F, e1, e2, e3, e4, e5⟩ := int_word h0 h1
      refine ⟨_, e1, ?_, e5, fun _ => by omega⟩
      unfold INF; omega
  obtain ⟨r, hr0, hr1, hr2, hr3⟩ := hr
  rw [hr0]
  rcases Nat.lt_or_ge 1074 t with h | h
  · obtain ⟨g, hg⟩ : ∃ g : Nat, t = K1074 + g := ⟨t - 1074, by unfold K1074; omega⟩
    have hg2 : t = 1074 + g := hg
    rw [show (t : Int) - 1074 = (g : Int) from by omega]
    refine rtimes_up r (t * B52 + v) g w (hr3 ?_) hr1 ?_ (by omega)
    · rcases h2 with h2 | h2
      · omega
      · unfold B52 at h2; omega
    · rw [hq, hr2, hg, Nat.pow_add, ← Nat.mul_assoc]
  · obtain ⟨g, hg⟩ : ∃ g : Nat, t + g = K1074 := ⟨1074 - t, by unfold K1074; omega⟩
    have hg2 : t + g = 1074 := hg
    rw [show (t : Int) - 1074 = -(g : Int) from by omega]
    have hiv : iv r = iv (t * B52 + v) * 2 ^ g := by
      rw [hq, hr2, Nat.mul_assoc, ← Nat.pow_add, hg]
    have hle : t * B52 + v ≤ r := iv_le_of (by rw [hiv]; exact Nat.le_mul_of_pos_right _ (Nat.two_pow_pos _))
    rw [Nat.min_eq_left (by omega)]
    refine (rtimes_dn r (t * B52 + v) g w hr1 hiv (by omega)).mono ?_
    rintro x w' ⟨rfl, rfl⟩
    exact ⟨rfl, Below.refl _ _⟩

theorem rtimes_inf (w : World) :
    Calls Tryz.prog 80 #[.float .f64 4607182418800017408, .int .i64 2000] w fun x w' => x = .returned (.float .f64 INF) ∧ Below w.heap.size w w' := by
  obtain ⟨l, hl⟩ : ∃ l, l = 2000 := ⟨_, rfl⟩
  obtain ⟨q, hq⟩ := scale_rung 4607182418800017408 l
  have h := rtimes_up 4607182418800017408 q l w (by decide) (by decide) hq (by omega)
  rw [show (l : Int) = 2000 from by omega] at h
  have hge : INF ≤ q := by
    refine iv_le_of ?_
    obtain ⟨k, hk⟩ : ∃ k, k = 1022 := ⟨_, rfl⟩
    have e1 : iv 4607182418800017408 = B52 * 2 ^ k := by
      have h := rung_of (m := B52) (t := k) (by decide) (.inr (Nat.le_refl _))
      rw [show k * B52 + B52 = 4607182418800017408 from by rw [hk]; decide] at h
      exact h
    rw [hq, iv_inf, e1, Nat.mul_assoc, ← Nat.pow_add]
    exact Nat.mul_le_mul_left _ (Nat.pow_le_pow_right (by decide) (by unfold K2046; omega))
  rw [Nat.min_eq_right hge] at h
  exact h
end Go.Proofs.YtdbkgpakpadloaaGreatDoor
/- Contract of package bushelref03's Nearest. Conditions: both numbers are above 0 and below 2^30000; the power is from -9000 to 3000. -/
namespace Go.Proofs.YtdbkgpakpadloaaGreatDoor
open Go.RowKit Ieee

def RNear (N D : Nat) (w : World) (e : Ending) (w' : World) : Prop := ∃ z, e = .returned (.float .f64 z) ∧ IsNear N D z ∧ Below w.heap.size w w'
def SearchAt (N D : Nat) (L H : Int) : Prop := (L = -1074 ∨ D * 2 ^ ((L + 1074).toNat + 52) ≤ N) ∧ (H = 1024 ∨ N < D * 2 ^ ((H + 1074).toNat + 53))
theorem search_dn {N D tm : Nat} {L H M : Int} (h : SearchAt N D L H) (hM : M + 1074 = (tm : Int)) (hb : N < D * 2 ^ (tm + 53)) : SearchAt N D L M :=
  ⟨h.1, .inr (by rw [show (M + 1074).toNat = tm from by omega]; exact hb)⟩
theorem search_up {N D tm : Nat} {L H M : Int} (h : SearchAt N D L H) (hM : M + 1074 = (tm : Int)) (hb : ¬ N < D * 2 ^ (tm + 53)) : SearchAt N D (M + 1) H :=
  ⟨.inr (by rw [show (M + 1 + 1074).toNat + 52 = tm + 53 from by omega]; omega), h.2⟩
theorem search_end {N D t : Nat} {L : Int} (hu : Unit N D t) (ht : t ≤ 2045) (h : SearchAt N D L L) (h0 : -1074 ≤ L) : L = (t : Int) - 1074 := by
  have h1 : N < D * 2 ^ ((L + 1074).toNat + 53) := by
    rcases h.2 with h2 | h2
    · refine Nat.lt_of_lt_of_le hu.hi (Nat.mul_le_mul_left _ (Nat.pow_le_pow_right (by decide) (by omega)))
    · exact h2
  have h3 : Unit N D (L + 1074).toNat := ⟨hu.hD, h1, by
    rcases h.1 with h2 | h2
    · exact .inl (by omega)
    · exact .inr h2⟩
  have := hu.one h3
  omega
theorem search_inf {N D k : Nat} {L : Int} (hk : 2098 ≤ k) (hb : D * 2 ^ k ≤ N) (h : SearchAt N D L L) (h0 : -1074 ≤ L) : 971 < L := by
  rcases h.2 with h2 | h2
  · omega
  · have := two_pow_lt (Nat.lt_of_mul_lt_mul_left (Nat.lt_of_le_of_lt hb h2))
    omega
theorem uint_nat (na : Bool) (a : Option Addr) (n c v : Nat) (w : World) (hx : NumC w na a n c (v : Int)) (hl : v ≤ 18446744073709551615) :
    Calls Tryz.prog 84 #[.agg #[.bool na, .slice a n c]] w fun e w' => e = .returned (.int .u64 (v : Int)) ∧ Below w.heap.size w w' := by
  have h := uint_any na a n c (v : Int) w hx (by omega)
  rw [Int.natAbs_natCast] at h
  exact h
theorem fit_nat {P K : Nat} (hP : P < 2 ^ K) (hK : K ≤ 900000) : Fit (P : Int) := Fit.of_pow2 (k := K) (by rw [Int.natAbs_natCast]; exact hP) (by omega)
theorem fit_divn {P Q K : Nat} (hP : P < 2 ^ K) (hQ : Q < 2 ^ K) (hK : K ≤ 800000) : Fit ((((P : Int)).natAbs : Int) + 1000 * (((Q : Int)).natAbs : Int) + 1000) := by
  rw [Int.natAbs_natCast, Int.natAbs_natCast]
  have h := fit_nat (P := P + 1000 * Q + 1000) (K := K + 11) (by rw [Nat.pow_add]; omega) (by omega)
  rw [show ((P + 1000 * Q + 1000 : Nat) : Int) = (P : Int) + 1000 * (Q : Int) + 1000 from by omega] at h
  exact h
theorem pow_mul_lt {P K g G : Nat} (hP : P < 2 ^ K) (hg : g ≤ G) : P * 2 ^ g < 2 ^ (K + G) := by
  rw [Nat.pow_add]
  exact Nat.lt_of_lt_of_le (Nat.mul_lt_mul_of_pos_right hP (Nat.two_pow_pos g)) (Nat.mul_le_mul_left _ (Nat.pow_le_pow_right (by decide) hg))
theorem pow_le_two {P K G : Nat} (hP : P < 2 ^ K) : P < 2 ^ (K + G) := Nat.lt_of_lt_of_le hP (Nat.pow_le_pow_right (by decide) (by omega))
/-- the rounding, by cases -/
theorem rne_cases (P Q : Nat) : ∃ r : Int, cmpZ ((P % Q : Nat) + (P % Q : Nat) : Int) Q = r ∧
    ((decide (0 < r) = true ∧ rne P Q = P / Q + 1) ∨ (decide (0 < r) = false ∧ (r == 0) = true ∧ P / Q % 2 = 1 ∧ rne P Q = P / Q + 1) ∨ (decide (0 < r) = false ∧ (r == 0) = true ∧ P / Q % 2 = 0 ∧ rne P Q = P / Q) ∨ (decide (0 < r) = false ∧ (r == 0) = false ∧ rne P Q = P / Q)) := by
  refine ⟨_, rfl, ?_⟩
  unfold rne
  rcases Nat.lt_trichotomy Q (2 * (P % Q)) with h | h | h
  · left
    rw [cmpZ_gt (by omega), decide_eq_true h]
    exact ⟨rfl, rfl⟩
  · rw [cmpZ_eq (by omega), show decide (Q < 2 * (P % Q)) = false from by simp; omega, decide_eq_true h]
    rcases Nat.mod_two_eq_zero_or_one (P / Q) with h1 | h1
    · right; right; left
      exact ⟨rfl, rfl, h1, by rw [show decide (P / Q % 2 = 1) = false from by simp; omega]; rfl⟩
    · right; left
      exact ⟨rfl, rfl, h1, by rw [decide_eq_true h1]; rfl⟩
  · right; right; right
    rw [cmpZ_lt (by omega), show decide (Q < 2 * (P % Q)) = false from by simp; omega, show decide (Q = 2 * (P % Q)) = false from by simp; omega]
    exact ⟨rfl, rfl, rfl⟩

set_option maxRecDepth 100000 in
set_option maxHeartbeats 8000000 in
theorem rnear_inf (na nb : Bool) (a b : Option Addr) (n c m d P Q K : Nat) (e : Int) (A B k : Nat) (w : World) (hx : NumC w na a n c (P : Int)) (hy : NumC w nb b m d (Q : Int)) (hP : P < 2 ^ K) (hQ : Q < 2 ^ K) (hK : K ≤ 30000) (hQ0 : 0 < Q)
    (hA : e + 1074 = (A : Int) - (B : Int)) (he1 : -9000 ≤ e) (he2 : e ≤ 3000) (hk : 2098 ≤ k) (hu : Q * 2 ^ B * 2 ^ k ≤ P * 2 ^ A) :
    Calls Tryz.prog 56 #[.agg #[.bool na, .slice a n c], .agg #[.bool nb, .slice b m d], .int .i64 e] w (RNear (P * 2 ^ A) (Q * 2 ^ B) w) := by
  have HN0 : ∃ N, P * 2 ^ A = N := ⟨_, rfl⟩
  have HD0 : ∃ D, Q * 2 ^ B = D := ⟨_, rfl⟩
  obtain ⟨N, hN⟩ := HN0
  obtain ⟨D, hD⟩ := HD0
  rw [hN, hD]
  have HN := Lib.hid hN
  have HD := Lib.hid hD
  have HA := Lib.hid hA
  have FP := Lib.hid (fit_nat hP (by omega))
  have FQ := Lib.hid (fit_nat hQ (by omega))
  obtain ⟨hk0, hk1, hbw, hsz⟩ := two_bx w 61 #[.bool na, .slice a n c] #[.bool nb, .slice b m d]
  have HB7 := Lib.hid hbw
  have HX7 := Lib.hid (hx.below hbw (Nat.le_refl _))
  have HY7 := Lib.hid (hy.below hbw (Nat.le_refl _))
  have HP := Lib.hid hP
  have HQ := Lib.hid hQ
  have t1 : decide (3000 < e) = false := by simp; omega
  have t2 : decide (e < -9000) = false := by simp; omega
  rw [hN, hD] at hu
  have HNR := Lib.hid (IsNear.inf (by rw [← hD]; exact Nat.mul_pos hQ0 (Nat.two_pow_pos B)) hk hu)
  have HU := Lib.hid hu
  clear hN hD hA hx hy hP hQ hbw hu
  go_enter Tryz.func56, Tryz.ntmps56
  go_wp2_with fail
  generalize ((w.alloc (.cells #[.bool na, .slice a n c] 61)).alloc (.cells #[.bool nb, .slice b m d] 61)) = w7 at *
  generalize hsz0 : w.heap.size = s at *
  have HSZ := Lib.hid hsz0
  have HS := Lib.hid hsz
  have HK0 := Lib.hid hk0
  have HK1 := Lib.hid hk1
  clear hsz hk0 hk1 hsz0
  go_loopg [7, 8] 2098 (fun g lo hi wr => ∃ L H : Int, lo = .int .i64 L ∧ hi = .int .i64 H ∧ SearchAt N D L H ∧ -1074 ≤ L ∧ L ≤ H ∧ H ≤ 1024 ∧ H - L ≤ g ∧ Below w7.heap.size w7 wr)
  case atStart => exact ⟨_, _, rfl, rfl, ⟨.inl rfl, .inl rfl⟩, by omega, by omega, by omega, by omega, Below.refl _ _⟩
  case round =>
    obtain ⟨L, H, rfl, rfl, hS, hL0, hLH, hH1, hgk, hbl⟩ := hrel
    have HSR := Lib.hid hS
    have hk0 := HK0.out.below hbl HK0.out.lt
    have hk1 := HK1.out.below hbl HK1.out.lt
    have x0 : wr.cell? ⟨s, 0, none⟩ = some (.bool na) := hk0.cell 0
    have x1 : wr.cell? ⟨s, 1, none⟩ = some (.slice a n c) := hk0.cell 1
    have y0 : wr.cell? ⟨s + 1, 0, none⟩ = some (.bool nb) := hk1.cell 0
    have y1 : wr.cell? ⟨s + 1, 1, none⟩ = some (.slice b m d) := hk1.cell 1
    have hs0 : s < wr.heap.size := hk0.lt
    have hs1 : s + 1 < wr.heap.size := hk1.lt
    have HBW := Lib.hid hbl
    clear hS
    by_cases hlt : L < H
    · obtain ⟨tm, htm⟩ : ∃ tm : Nat, L + (H - L) / 2 + 1074 = (tm : Int) := ⟨(L + (H - L) / 2 + 1074).toNat, by omega⟩
      have HTM := Lib.hid htm
      have hm1 : L ≤ L + (H - L) / 2 := by omega
      have hm2 : L + (H - L) / 2 < H := by omega
      have htm2 : tm ≤ 3000 := by omega
      have hcall := rbelow_near na nb a b n c m d P Q e (L + (H - L) / 2 + 53) A B tm wr (HX7.out.below hbl (Nat.le_refl _)) (HY7.out.below hbl (Nat.le_refl _)) FP.out FQ.out HA.out (by omega) he1 he2 htm2
      rw [HN.out, HD.out] at hcall
      clear hbl hk0 hk1 htm
      by_cases hb : N < D * 2 ^ (tm + 53)
      · rw [decide_eq_true hb] at hcall
        have HC := Lib.hid hcall
        have HSN := Lib.hid (search_dn HSR.out HTM.out hb)
        clear hcall hb
        go_wp2_with fail
        refine HC.out.mono ?_; rintro z w8 ⟨rfl, hb8⟩
        have HB8 := Lib.hid (HBW.out.trans (hb8.mono HBW.out.size))
        clear hb8
        go_wp2_with fail
        go_roundg (gk - 1)
        case measure => omega
        case rel => exact ⟨_, _, rfl, rfl, HSN.out, by omega, by omega, by omega, by omega, HB8.out⟩
      · rw [decide_eq_false hb] at hcall
        have HC := Lib.hid hcall
        have HSN := Lib.hid (search_up HSR.out HTM.out hb)
        clear hcall hb
        go_wp2_with fail
        refine HC.out.mono ?_; rintro z w8 ⟨rfl, hb8⟩
        have HB8 := Lib.hid (HBW.out.trans (hb8.mono HBW.out.size))
        clear hb8
        go_wp2_with fail
        go_roundg (gk - 1)
        case measure => omega
        case rel => exact ⟨_, _, rfl, rfl, HSN.out, by omega, by omega, by omega, by omega, HB8.out⟩
    · obtain rfl : H = L := by omega
      have h9 := search_inf hk HU.out HSR.out hL0
      have t3 : decide (971 < H) = true := by simpa using h9
      clear hbl hk0 hk1 hlt
      go_wp2_with fail
      refine (rtimes_inf _).mono ?_; rintro z w8 ⟨rfl, hb8⟩
      have HB8 := Lib.hid (HB7.out.trans ((HBW.out.trans (hb8.mono HBW.out.size)).mono (by rw [← HSZ.out]; exact HB7.out.size)))
      clear hb8
      go_wp2_with fail
      go_ret
      exact ⟨_, rfl, HNR.out, by rw [HSZ.out]; exact HB8.out⟩

set_option maxRecDepth 100000 in
set_option maxHeartbeats 8000000 in
theorem rnear_hi0 (na nb : Bool) (a b : Option Addr) (n c m d P Q K : Nat) (e : Int) (A B t g P2 v rm rn D N : Nat) (w : World) (hx : NumC w na a n c (P : Int)) (hy : NumC w nb b m d (Q : Int)) (hP : P < 2 ^ K) (hQ : Q < 2 ^ K) (hK : K ≤ 30000)
    (hA : e + 1074 = (A : Int) - (B : Int)) (he1 : -9000 ≤ e) (he2 : e ≤ 3000) (hg : e = (t : Int) - 1074 + (g : Int)) (hgG : g ≤ 20000) (r : Int) (ht : t ≤ 2045)
    (hN : P * 2 ^ A = N) (hD : Q * 2 ^ B = D) (hu : Unit N D t) (hX2 : (P2 : Int) = (P : Int) * 2 ^ g) (hdv : (P2 : Int).fdiv (Q : Int) = (v : Int) ∧ (P2 : Int).fmod (Q : Int) = (rm : Int)) (hq0 : (Q : Int) ≠ 0) (hfd : Fit (((P2 : Int).natAbs : Int) + 1000 * ((Q : Int).natAbs : Int) + 1000)) (hfr : Fit (rm : Int))
    (hcmp : cmpZ ((rm : Int) + (rm : Int)) (Q : Int) = r) (hcs : (decide (0 < r) = true ∧ rn = v + 1) ∨ (decide (0 < r) = false ∧ (r == 0) = true ∧ v % 2 = 1 ∧ rn = v + 1) ∨ (decide (0 < r) = false ∧ (r == 0) = true ∧ v % 2 = 0 ∧ rn = v) ∨ (decide (0 < r) = false ∧ (r == 0) = false ∧ rn = v))
    (hv1 : v ≤ 9007199254740992) (hrn1 : rn ≤ 9007199254740992) (hrn2 : t = 0 ∨ B52 ≤ rn) (hnr : IsNear N D (min (t * B52 + rn) INF)) :
    Calls Tryz.prog 56 #[.agg #[.bool na, .slice a n c], .agg #[.bool nb, .slice b m d], .int .i64 e] w (RNear N D w) := by
  have HN := Lib.hid hN
  have HD := Lib.hid hD
  have HA := Lib.hid hA
  have FP := Lib.hid (fit_nat hP (by omega))
  have FQ := Lib.hid (fit_nat hQ (by omega))
  obtain ⟨hk0, hk1, hbw, hsz⟩ := two_bx w 61 #[.bool na, .slice a n c] #[.bool nb, .slice b m d]
  have HB7 := Lib.hid hbw
  have HX7 := Lib.hid (hx.below hbw (Nat.le_refl _))
  have HY7 := Lib.hid (hy.below hbw (Nat.le_refl _))
  have HU := Lib.hid hu
  have HX2 := Lib.hid hX2
  have HDV := Lib.hid hdv
  have HQ0 := Lib.hid hq0
  have HFD := Lib.hid hfd
  have HFR := Lib.hid hfr
  have HCMP := Lib.hid hcmp
  have HCS := Lib.hid hcs
  have HR1 := Lib.hid hrn1
  have HR2 := Lib.hid hrn2
  have HNR := Lib.hid hnr
  have HTW := Lib.hid (fun w => two_any g w (by omega))
  have FG := Lib.hid (fit_two (n := g) (by omega))
  have t1 : decide (3000 < e) = false := by simp; omega
  have t2 : decide (e < -9000) = false := by simp; omega
  have t3 : decide (971 < (t : Int) - 1074) = false := by simp; omega
  have t4 : decide ((t : Int) - 1074 ≤ e) = true := by simp; omega
  have hsub : IntKind.i64.wrap (e - ((t : Int) - 1074)) = (g : Int) := by rw [IntWalk.i64_in _ (by omega)]; omega
  have HSUB := Lib.hid hsub
  have HT5 := Lib.hid ht
  clear hN hD hA hx hy hP hQ hbw hu hX2 hdv hq0 hfd hfr hcmp hcs hrn1 hrn2 hnr hg hsub
  go_enter Tryz.func56, Tryz.ntmps56
  go_wp2_with fail
  generalize ((w.alloc (.cells #[.bool na, .slice a n c] 61)).alloc (.cells #[.bool nb, .slice b m d] 61)) = w7 at *
  generalize hsz0 : w.heap.size = s at *
  have HSZ := Lib.hid hsz0
  have HS := Lib.hid hsz
  have HK0 := Lib.hid hk0
  have HK1 := Lib.hid hk1
  clear hsz hk0 hk1 hsz0
  go_loopg [7, 8] 2098 (fun g lo hi wr => ∃ L H : Int, lo = .int .i64 L ∧ hi = .int .i64 H ∧ SearchAt N D L H ∧ -1074 ≤ L ∧ L ≤ H ∧ H ≤ 1024 ∧ H - L ≤ g ∧ Below w7.heap.size w7 wr)
  case atStart => exact ⟨_, _, rfl, rfl, ⟨.inl rfl, .inl rfl⟩, by omega, by omega, by omega, by omega, Below.refl _ _⟩
  case round =>
    obtain ⟨L, H, rfl, rfl, hS, hL0, hLH, hH1, hgk, hbl⟩ := hrel
    have HSR := Lib.hid hS
    have hk0 := HK0.out.below hbl HK0.out.lt
    have hk1 := HK1.out.below hbl HK1.out.lt
    have x0 : wr.cell? ⟨s, 0, none⟩ = some (.bool na) := hk0.cell 0
    have x1 : wr.cell? ⟨s, 1, none⟩ = some (.slice a n c) := hk0.cell 1
    have y0 : wr.cell? ⟨s + 1, 0, none⟩ = some (.bool nb) := hk1.cell 0
    have y1 : wr.cell? ⟨s + 1, 1, none⟩ = some (.slice b m d) := hk1.cell 1
    have hs0 : s < wr.heap.size := hk0.lt
    have hs1 : s + 1 < wr.heap.size := hk1.lt
    have HBW := Lib.hid hbl
    clear hS
    by_cases hlt : L < H
    · obtain ⟨tm, htm⟩ : ∃ tm : Nat, L + (H - L) / 2 + 1074 = (tm : Int) := ⟨(L + (H - L) / 2 + 1074).toNat, by omega⟩
      have HTM := Lib.hid htm
      have hm1 : L ≤ L + (H - L) / 2 := by omega
      have hm2 : L + (H - L) / 2 < H := by omega
      have htm2 : tm ≤ 3000 := by omega
      have hcall := rbelow_near na nb a b n c m d P Q e (L + (H - L) / 2 + 53) A B tm wr (HX7.out.below hbl (Nat.le_refl _)) (HY7.out.below hbl (Nat.le_refl _)) FP.out FQ.out HA.out (by omega) he1 he2 htm2
      rw [HN.out, HD.out] at hcall
      clear hbl hk0 hk1 htm
      by_cases hb : N < D * 2 ^ (tm + 53)
      · rw [decide_eq_true hb] at hcall
        have HC := Lib.hid hcall
        have HSN := Lib.hid (search_dn HSR.out HTM.out hb)
        clear hcall hb
        go_wp2_with fail
        refine HC.out.mono ?_; rintro z w8 ⟨rfl, hb8⟩
        have HB8 := Lib.hid (HBW.out.trans (hb8.mono HBW.out.size))
        clear hb8
        go_wp2_with fail
        go_roundg (gk - 1)
        case measure => omega
        case rel => exact ⟨_, _, rfl, rfl, HSN.out, by omega, by omega, by omega, by omega, HB8.out⟩
      · rw [decide_eq_false hb] at hcall
        have HC := Lib.hid hcall
        have HSN := Lib.hid (search_up HSR.out HTM.out hb)
        clear hcall hb
        go_wp2_with fail
        refine HC.out.mono ?_; rintro z w8 ⟨rfl, hb8⟩
        have HB8 := Lib.hid (HBW.out.trans (hb8.mono HBW.out.size))
        clear hb8
        go_wp2_with fail
        go_roundg (gk - 1)
        case measure => omega
        case rel => exact ⟨_, _, rfl, rfl, HSN.out, by omega, by omega, by omega, by omega, HB8.out⟩
    · obtain rfl : H = L := by omega
      obtain rfl := search_end HU.out HT5.out HSR.out hL0
      have hbA : Below wr.heap.size wr wr.drew := (Below.refl _ _).drew
      clear hlt hLH hgk
      go_wp2_with fail
      refine wp_regionL (fun w' => w'.cell? ⟨s, 0, none⟩ = some (.bool na) ∧ w'.cell? ⟨s, 1, none⟩ = some (.slice a n c) ∧ w'.cell? ⟨s + 1, 0, none⟩ = some (.bool nb) ∧ w'.cell? ⟨s + 1, 1, none⟩ = some (.slice b m d)) 6 (by kernel_rfl) (by exact ⟨x0, x1, y0, y1⟩) (fun hHeld => ?_)
      refine wpAnyL_take (i := 0) (oi := ⟨some 42, _, _, _, _, _⟩) (v := ?_) rfl (by kernel_rfl) (by kernel_rfl) (by kernel_rfl) (by kernel_rfl) (by kernel_rfl) (fun _ _ _ h => h) (Or.inl ⟨by rfl, ?_⟩) (by assumption) ?_
      rotate_left 1
      · (intro w hSw; (try dsimp only at hSw); go_simp; try with_reducible rfl)
      try simp only [Act.put, List.setIfInBounds_toArray, List.set_cons_zero, List.set_cons_succ]
      refine wpAnyL_take (i := 1) (oi := ⟨some 43, _, _, _, _, _⟩) (v := ?_) rfl (by kernel_rfl) (by kernel_rfl) (by kernel_rfl) (by kernel_rfl) (by kernel_rfl) (fun _ _ _ h => h) (Or.inl ⟨by rfl, ?_⟩) (by assumption) ?_
      rotate_left 1
      · (intro w hSw; (try dsimp only at hSw); go_simp; try with_reducible rfl)
      try simp only [Act.put, List.setIfInBounds_toArray, List.set_cons_zero, List.set_cons_succ]
      refine wpAnyL_take (i := 2) (oi := ⟨some 44, _, _, _, _, _⟩) (v := ?_) rfl (by kernel_rfl) (by kernel_rfl) (by kernel_rfl) (by kernel_rfl) (by kernel_rfl) (fun _ _ _ h => h) (Or.inl ⟨by rfl, ?_⟩) (by assumption) ?_
      rotate_left 1
      · (intro w hSw; (try dsimp only at hSw); go_simp; try with_reducible rfl)
      try simp only [Act.put, List.setIfInBounds_toArray, List.set_cons_zero, List.set_cons_succ]
      refine wpAnyL_take (i := 3) (oi := ⟨some 45, _, _, _, _, _⟩) (v := ?_) rfl (by kernel_rfl) (by kernel_rfl) (by kernel_rfl) (by kernel_rfl) (by kernel_rfl) (fun _ _ _ h => h) (Or.inl ⟨by rfl, ?_⟩) (by assumption) ?_
      rotate_left 1
      · (intro w hSw; (try dsimp only at hSw); go_simp; try with_reducible rfl)
      try simp only [Act.put, List.setIfInBounds_toArray, List.set_cons_zero, List.set_cons_succ]
      refine wpAnyL_one (i := 4) (o := ⟨some 46, _, _, _, _, _⟩) (by kernel_rfl) rfl (fun K hK => ?_)
      go_simp
      rw [HSUB.out]
      refine (HTW.out _).mono ?_
      rintro e w2 ⟨n2, p2, l2, c2, rfl, hN2, hb2, -⟩
      have hB2 := hbA.trans (hb2.mono (by exact Nat.le_refl _))
      have w20 : w2.cell? ⟨s, 0, none⟩ = some (.bool na) := by rw [(bcell hB2).1 _ _ hs0]; exact x0
      have w21 : w2.cell? ⟨s, 1, none⟩ = some (.slice a n c) := by rw [(bcell hB2).1 _ _ hs0]; exact x1
      have w22 : w2.cell? ⟨s + 1, 0, none⟩ = some (.bool nb) := by rw [(bcell hB2).1 _ _ hs1]; exact y0
      have w23 : w2.cell? ⟨s + 1, 1, none⟩ = some (.slice b m d) := by rw [(bcell hB2).1 _ _ hs1]; exact y1
      refine hK.out _ _ (by exact ⟨w20, w21, w22, w23⟩) ?_
      clear hK K hHeld
      intro hHeld
      try simp only [Act.put, List.setIfInBounds_toArray, List.set_cons_zero, List.set_cons_succ]
      refine wpAnyL_one (i := 5) (o := ⟨some 47, _, _, _, _, _⟩) (by kernel_rfl) rfl (fun K hK => ?_)
      go_simp
      refine (mul_any _ _ _ _ _ _ _ _ (P : Int) (2 ^ g) _ (HX7.out.below (hbl.trans (hB2.mono hbl.size)) (Nat.le_refl _)) hN2 FP.out FG.out).mono ?_
      rintro e w3 ⟨n3, p3, l3, c3, rfl, hN3, hb3, -⟩
      rw [← HX2.out] at hN3
      have hB3 := hB2.trans (hb3.mono hB2.size)
      have hBK0 := hk0.below hB3 hs0
      have hBK1 := hk1.below hB3 hs1
      have xf : ∀ o, w3.frozen? ⟨s, o, none⟩ = false := fun o => hBK0.frozen o
      have w30 : w3.cell? ⟨s, 0, none⟩ = some (.bool na) := by rw [(bcell hB3).1 _ _ hs0]; exact x0
      have w31 : w3.cell? ⟨s, 1, none⟩ = some (.slice a n c) := by rw [(bcell hB3).1 _ _ hs0]; exact x1
      have w32 : w3.cell? ⟨s + 1, 0, none⟩ = some (.bool nb) := by rw [(bcell hB3).1 _ _ hs1]; exact y0
      have w33 : w3.cell? ⟨s + 1, 1, none⟩ = some (.slice b m d) := by rw [(bcell hB3).1 _ _ hs1]; exact y1
      refine hK.out _ _ (by exact ⟨w30, w31, w32, w33⟩) ?_
      clear hK K hHeld
      intro hHeld
      try simp only [Act.put, List.setIfInBounds_toArray, List.set_cons_zero, List.set_cons_succ]
      refine wpAnyL_last (o := ⟨none, _, _, _, _, _⟩) (by kernel_rfl) (by kernel_rfl) rfl (fun K hK => ?_)
      go_simp
      refine hK _ _ ?_
      clear hK K hHeld
      try simp only [Act.put, List.setIfInBounds_toArray, List.set_cons_zero, List.set_cons_succ]
      obtain ⟨w9, hw9⟩ : ∃ w9, (w3.setCell ⟨s, 0, none⟩ (.bool n3)).setCell ⟨s, 1, none⟩ (.slice p3 l3 c3) = w9 := ⟨_, rfl⟩
      rw [hw9]
      have HK9 : Hid (Blk w9 (s + 1) 61 #[.bool nb, .slice b m d]) := Lib.hid (by rw [← hw9]; exact (hBK1.far (by simp) _).far (by simp) _)
      have HX9 : Hid (NumC w9 n3 p3 l3 c3 (P2 : Int)) := Lib.hid (by rw [← hw9]; exact NumC.set2 hN3 w30 w31 _ _ _ _)
      have HY9 : Hid (NumC w9 nb b m d (Q : Int)) := Lib.hid (by rw [← hw9]; exact NumC.set2 (HY7.out.below (hbl.trans (hB3.mono hbl.size)) (Nat.le_refl _)) w30 w31 _ _ _ _)
      have HKP : Hid (Blk w9 s 61 #[.bool n3, .slice p3 l3 c3]) := Lib.hid (by rw [← hw9]; exact ((hBK0.set_ 0 _).set_ 1 _).to rfl)
      have HB9 : Hid (Below s w w9) := Lib.hid (by rw [← hw9]; exact ((HB7.out.trans ((hbl.trans (hB3.mono hbl.size)).mono (by rw [← HSZ.out]; exact HB7.out.size))).setCell (by simp) _).setCell (by simp) _)
      clear hw9 hbA hB2 hN2 hB3 hN3 hBK0 hBK1 hk0 hk1 xf w20 w21 w22 w23 w30 w31 w32 w33 x0 x1 y0 y1 hs0 hs1 hbl HBW hb2 hb3
      have p0 : w9.cell? ⟨s, 0, none⟩ = some (.bool n3) := HKP.out.cell 0
      have p1 : w9.cell? ⟨s, 1, none⟩ = some (.slice p3 l3 c3) := HKP.out.cell 1
      have q0 : w9.cell? ⟨s + 1, 0, none⟩ = some (.bool nb) := HK9.out.cell 0
      have q1 : w9.cell? ⟨s + 1, 1, none⟩ = some (.slice b m d) := HK9.out.cell 1
      go_wp2_with fail
      refine (div_any _ _ _ _ _ _ _ _ (P2 : Int) (Q : Int) _ HX9.out HY9.out HQ0.out HFD.out).mono ?_
      rintro e w10 ⟨n5, p5, l5, c5, n6, p6, l6, c6, rfl, hZ1, hZ2, hb10⟩
      rw [HDV.out.1] at hZ1
      rw [HDV.out.2] at hZ2
      have HB10 := Lib.hid (HB9.out.trans (hb10.mono (by have := HK9.out.lt; omega)))
      have HK10 := Lib.hid (HK9.out.below hb10 HK9.out.lt)
      have HY10 := Lib.hid (HY9.out.below hb10 (Nat.le_refl _))
      have HZ1 := Lib.hid hZ1
      have HZ2 := Lib.hid hZ2
      clear hZ1 hZ2 hb10 p0 p1 q0 q1 HK9 HY9 HX9 HKP
      go_upto_region 17 with fail
      obtain ⟨hk0, hk1, hbw, hsz⟩ := two_bx w10 61 #[.bool n5, .slice p5 l5 c5] #[.bool n6, .slice p6 l6 c6]
      have HB11 := Lib.hid (HB10.out.trans (hbw.mono (by rw [← HSZ.out]; exact HB10.out.size)))
      have HK11 := Lib.hid (HK10.out.below hbw HK10.out.lt)
      have HY11 := Lib.hid (HY10.out.below hbw (Nat.le_refl _))
      have HZ1' := Lib.hid (HZ1.out.below hbw (Nat.le_refl _))
      have HZ2' := Lib.hid (HZ2.out.below hbw (Nat.le_refl _))
      have HKM := Lib.hid hk0
      have HKL := Lib.hid hk1
      clear hk0 hk1 hbw hsz HB10 HK10 HY10 HZ1 HZ2
      generalize ((w10.alloc (.cells #[.bool n5, .slice p5 l5 c5] 61)).alloc (.cells #[.bool n6, .slice p6 l6 c6] 61)) = w11 at *
      generalize w10.heap.size = u at *
      have l0 : w11.cell? ⟨u + 1, 0, none⟩ = some (.bool n6) := HKL.out.cell 0
      have l1 : w11.cell? ⟨u + 1, 1, none⟩ = some (.slice p6 l6 c6) := HKL.out.cell 1
      have q0 : w11.cell? ⟨s + 1, 0, none⟩ = some (.bool nb) := HK11.out.cell 0
      have q1 : w11.cell? ⟨s + 1, 1, none⟩ = some (.slice b m d) := HK11.out.cell 1
      have hl0 : u + 1 < w11.heap.size := HKL.out.lt
      have hl1 : s + 1 < w11.heap.size := HK11.out.lt
      have hbA : Below w11.heap.size w11 w11.drew := (Below.refl _ _).drew
      go_region_held3 (fun w' => w'.cell? ⟨u + 1, 0, none⟩ = some (.bool n6) ∧ w'.cell? ⟨u + 1, 1, none⟩ = some (.slice p6 l6 c6) ∧ w'.cell? ⟨s + 1, 0, none⟩ = some (.bool nb) ∧ w'.cell? ⟨s + 1, 1, none⟩ = some (.slice b m d)) (go_keep)
        (first
          | (go_at_call 54; refine (add_any _ _ _ _ _ _ _ _ (rm : Int) (rm : Int) _ (HZ2'.out.below hbA (Nat.le_refl _)) (HZ2'.out.below hbA (Nat.le_refl _)) HFR.out HFR.out).mono ?_; rintro e w12 ⟨n7, p7, l7, c7, rfl, hM12, hb12, -⟩; replace hbA := hbA.trans (hb12.mono (Nat.le_trans (by simp) hbA.size)); clear hb12; (try clear bc8 bf8); obtain ⟨bc8, bf8⟩ := bcell hbA)
          | (go_at_call 83; refine (cmp_at _ _ _ _ _ _ _ _ ((rm : Int) + (rm : Int)) (Q : Int) r _ HCMP.out hM12 (HY11.out.below hbA (Nat.le_refl _))).mono ?_; rintro e w13 ⟨rfl, hb13⟩; clear hM12 bc8 bf8; replace hbA := hbA.trans (hb13.mono (Nat.le_trans (by simp) hbA.size)); clear hb13; obtain ⟨bc8, bf8⟩ := bcell hbA))
      all_goals
        clear bc8 bf8 l0 l1 q0 q1
        have HB13 := Lib.hid (HB11.out.trans (hbA.mono (by rw [← HSZ.out]; exact HB11.out.size)))
        have HZ13 := Lib.hid (HZ1'.out.below hbA (Nat.le_refl _))
        have hkm := HKM.out.below hbA HKM.out.lt
        have m0 : w13.cell? ⟨u, 0, none⟩ = some (.bool n5) := hkm.cell 0
        have m1 : w13.cell? ⟨u, 1, none⟩ = some (.slice p5 l5 c5) := hkm.cell 1
        clear hkm hbA
        go_wp2_with fail
        refine (uint_nat _ _ _ _ v _ HZ13.out (by omega)).mono ?_
        rintro e w14 ⟨rfl, hb14⟩
        have HB14 := Lib.hid (HB13.out.trans (hb14.mono (by rw [← HSZ.out]; exact HB13.out.size)))
        clear hb14 m0 m1
        have hv2 : (v : Int) ≤ 9007199254740992 := by omega
        rcases HCS.out with ⟨c1, c2⟩ | ⟨c1, c2, c3, c4⟩ | ⟨c1, c2, c3, c4⟩ | ⟨c1, c2, c4⟩
        · have HT : Hid (∀ w, Calls Tryz.prog 80 #[.float .f64 (floatOfInt .f64 ((v : Int) + 1)), .int .i64 ((t : Int) - 1074)] w fun x w' => x = .returned (.float .f64 (min (t * B52 + rn) INF)) ∧ Below w.heap.size w w') := Lib.hid (fun w => by
            have h := rtimes_near rn t w HR1.out HT5.out HR2.out
            rw [c2] at h ⊢
            exact h)
          clear c2
          go_wp2_with fail
          refine (HT.out _).mono ?_; rintro z w15 ⟨rfl, hb15⟩
          have HB15 := Lib.hid (HB14.out.trans (hb15.mono (by rw [← HSZ.out]; exact HB14.out.size)))
          clear hb15
          go_wp2_with fail
          go_ret
          exact ⟨_, rfl, HNR.out, by rw [HSZ.out]; exact HB15.out⟩
        · have HT : Hid (∀ w, Calls Tryz.prog 80 #[.float .f64 (floatOfInt .f64 ((v : Int) + 1)), .int .i64 ((t : Int) - 1074)] w fun x w' => x = .returned (.float .f64 (min (t * B52 + rn) INF)) ∧ Below w.heap.size w w') := Lib.hid (fun w => by
            have h := rtimes_near rn t w HR1.out HT5.out HR2.out
            rw [c4] at h ⊢
            exact h)
          have c5 : ((v : Int) % 2 == 1) = true := by simp; omega
          clear c4 c3
          go_wp2_with fail
          refine (HT.out _).mono ?_; rintro z w15 ⟨rfl, hb15⟩
          have HB15 := Lib.hid (HB14.out.trans (hb15.mono (by rw [← HSZ.out]; exact HB14.out.size)))
          clear hb15
          go_wp2_with fail
          go_ret
          exact ⟨_, rfl, HNR.out, by rw [HSZ.out]; exact HB15.out⟩
        · have HT : Hid (∀ w, Calls Tryz.prog 80 #[.float .f64 (floatOfInt .f64 (v : Int)), .int .i64 ((t : Int) - 1074)] w fun x w' => x = .returned (.float .f64 (min (t * B52 + rn) INF)) ∧ Below w.heap.size w w') := Lib.hid (fun w => by
            have h := rtimes_near rn t w HR1.out HT5.out HR2.out
            rw [c4] at h ⊢
            exact h)
          have c5 : ((v : Int) % 2 == 1) = false := by simp; omega
          clear c4 c3
          go_wp2_with fail
          refine (HT.out _).mono ?_; rintro z w15 ⟨rfl, hb15⟩
          have HB15 := Lib.hid (HB14.out.trans (hb15.mono (by rw [← HSZ.out]; exact HB14.out.size)))
          clear hb15
          go_wp2_with fail
          go_ret
          exact ⟨_, rfl, HNR.out, by rw [HSZ.out]; exact HB15.out⟩
        · have HT : Hid (∀ w, Calls Tryz.prog 80 #[.float .f64 (floatOfInt .f64 (v : Int)), .int .i64 ((t : Int) - 1074)] w fun x w' => x = .returned (.float .f64 (min (t * B52 + rn) INF)) ∧ Below w.heap.size w w') := Lib.hid (fun w => by
            have h := rtimes_near rn t w HR1.out HT5.out HR2.out
            rw [c4] at h ⊢
            exact h)
          clear c4
          go_wp2_with fail
          refine (HT.out _).mono ?_; rintro z w15 ⟨rfl, hb15⟩
          have HB15 := Lib.hid (HB14.out.trans (hb15.mono (by rw [← HSZ.out]; exact HB14.out.size)))
          clear hb15
          go_wp2_with fail
          go_ret
          exact ⟨_, rfl, HNR.out, by rw [HSZ.out]; exact HB15.out⟩

set_option maxRecDepth 100000 in
set_option maxHeartbeats 8000000 in
theorem rnear_lo0 (na nb : Bool) (a b : Option Addr) (n c m d P Q K : Nat) (e : Int) (A B t g Q2 v rm rn D N : Nat) (w : World) (hx : NumC w na a n c (P : Int)) (hy : NumC w nb b m d (Q : Int)) (hP : P < 2 ^ K) (hQ : Q < 2 ^ K) (hK : K ≤ 30000)
    (hA : e + 1074 = (A : Int) - (B : Int)) (he1 : -9000 ≤ e) (he2 : e ≤ 3000) (hg : (t : Int) - 1074 = e + (g : Int)) (hg0 : 0 < g) (hgG : g ≤ 20000) (r : Int) (ht : t ≤ 2045)
    (hN : P * 2 ^ A = N) (hD : Q * 2 ^ B = D) (hu : Unit N D t) (hX2 : (Q2 : Int) = (Q : Int) * 2 ^ g) (hdv : (P : Int).fdiv (Q2 : Int) = (v : Int) ∧ (P : Int).fmod (Q2 : Int) = (rm : Int)) (hq0 : (Q2 : Int) ≠ 0) (hfd : Fit (((P : Int).natAbs : Int) + 1000 * ((Q2 : Int).natAbs : Int) + 1000)) (hfr : Fit (rm : Int))
    (hcmp : cmpZ ((rm : Int) + (rm : Int)) (Q2 : Int) = r) (hcs : (decide (0 < r) = true ∧ rn = v + 1) ∨ (decide (0 < r) = false ∧ (r == 0) = true ∧ v % 2 = 1 ∧ rn = v + 1) ∨ (decide (0 < r) = false ∧ (r == 0) = true ∧ v % 2 = 0 ∧ rn = v) ∨ (decide (0 < r) = false ∧ (r == 0) = false ∧ rn = v))
    (hv1 : v ≤ 9007199254740992) (hrn1 : rn ≤ 9007199254740992) (hrn2 : t = 0 ∨ B52 ≤ rn) (hnr : IsNear N D (min (t * B52 + rn) INF)) :
    Calls Tryz.prog 56 #[.agg #[.bool na, .slice a n c], .agg #[.bool nb, .slice b m d], .int .i64 e] w (RNear N D w) := by
  have HN := Lib.hid hN
  have HD := Lib.hid hD
  have HA := Lib.hid hA
  have FP := Lib.hid (fit_nat hP (by omega))
  have FQ := Lib.hid (fit_nat hQ (by omega))
  obtain ⟨hk0, hk1, hbw, hsz⟩ := two_bx w 61 #[.bool na, .slice a n c] #[.bool nb, .slice b m d]
  have HB7 := Lib.hid hbw
  have HX7 := Lib.hid (hx.below hbw (Nat.le_refl _))
  have HY7 := Lib.hid (hy.below hbw (Nat.le_refl _))
  have HU := Lib.hid hu
  have HX2 := Lib.hid hX2
  have HDV := Lib.hid hdv
  have HQ0 := Lib.hid hq0
  have HFD := Lib.hid hfd
  have HFR := Lib.hid hfr
  have HCMP := Lib.hid hcmp
  have HCS := Lib.hid hcs
  have HR1 := Lib.hid hrn1
  have HR2 := Lib.hid hrn2
  have HNR := Lib.hid hnr
  have HTW := Lib.hid (fun w => two_any g w (by omega))
  have FG := Lib.hid (fit_two (n := g) (by omega))
  have t1 : decide (3000 < e) = false := by simp; omega
  have t2 : decide (e < -9000) = false := by simp; omega
  have t3 : decide (971 < (t : Int) - 1074) = false := by simp; omega
  have t4 : decide ((t : Int) - 1074 ≤ e) = false := by simp; omega
  have hsub : IntKind.i64.wrap ((t : Int) - 1074 - e) = (g : Int) := by rw [IntWalk.i64_in _ (by omega)]; omega
  have HSUB := Lib.hid hsub
  have HT5 := Lib.hid ht
  clear hN hD hA hx hy hP hQ hbw hu hX2 hdv hq0 hfd hfr hcmp hcs hrn1 hrn2 hnr hg hsub
  go_enter Tryz.func56, Tryz.ntmps56
  go_wp2_with fail
  generalize ((w.alloc (.cells #[.bool na, .slice a n c] 61)).alloc (.cells #[.bool nb, .slice b m d] 61)) = w7 at *
  generalize hsz0 : w.heap.size = s at *
  have HSZ := Lib.hid hsz0
  have HS := Lib.hid hsz
  have HK0 := Lib.hid hk0
  have HK1 := Lib.hid hk1
  clear hsz hk0 hk1 hsz0
  go_loopg [7, 8] 2098 (fun g lo hi wr => ∃ L H : Int, lo = .int .i64 L ∧ hi = .int .i64 H ∧ SearchAt N D L H ∧ -1074 ≤ L ∧ L ≤ H ∧ H ≤ 1024 ∧ H - L ≤ g ∧ Below w7.heap.size w7 wr)
  case atStart => exact ⟨_, _, rfl, rfl, ⟨.inl rfl, .inl rfl⟩, by omega, by omega, by omega, by omega, Below.refl _ _⟩
  case round =>
    obtain ⟨L, H, rfl, rfl, hS, hL0, hLH, hH1, hgk, hbl⟩ := hrel
    have HSR := Lib.hid hS
    have hk0 := HK0.out.below hbl HK0.out.lt
    have hk1 := HK1.out.below hbl HK1.out.lt
    have x0 : wr.cell? ⟨s, 0, none⟩ = some (.bool na) := hk0.cell 0
    have x1 : wr.cell? ⟨s, 1, none⟩ = some (.slice a n c) := hk0.cell 1
    have y0 : wr.cell? ⟨s + 1, 0, none⟩ = some (.bool nb) := hk1.cell 0
    have y1 : wr.cell? ⟨s + 1, 1, none⟩ = some (.slice b m d) := hk1.cell 1
    have hs0 : s < wr.heap.size := hk0.lt
    have hs1 : s + 1 < wr.heap.size := hk1.lt
    have HBW := Lib.hid hbl
    clear hS
    by_cases hlt : L < H
    · obtain ⟨tm, htm⟩ : ∃ tm : Nat, L + (H - L) / 2 + 1074 = (tm : Int) := ⟨(L + (H - L) / 2 + 1074).toNat, by omega⟩
      have HTM := Lib.hid htm
      have hm1 : L ≤ L + (H - L) / 2 := by omega
      have hm2 : L + (H - L) / 2 < H := by omega
      have htm2 : tm ≤ 3000 := by omega
      have hcall := rbelow_near na nb a b n c m d P Q e (L + (H - L) / 2 + 53) A B tm wr (HX7.out.below hbl (Nat.le_refl _)) (HY7.out.below hbl (Nat.le_refl _)) FP.out FQ.out HA.out (by omega) he1 he2 htm2
      rw [HN.out, HD.out] at hcall
      clear hbl hk0 hk1 htm
      by_cases hb : N < D * 2 ^ (tm + 53)
      · rw [decide_eq_true hb] at hcall
        have HC := Lib.hid hcall
        have HSN := Lib.hid (search_dn HSR.out HTM.out hb)
        clear hcall hb
        go_wp2_with fail
        refine HC.out.mono ?_; rintro z w8 ⟨rfl, hb8⟩
        have HB8 := Lib.hid (HBW.out.trans (hb8.mono HBW.out.size))
        clear hb8
        go_wp2_with fail
        go_roundg (gk - 1)
        case measure => omega
        case rel => exact ⟨_, _, rfl, rfl, HSN.out, by omega, by omega, by omega, by omega, HB8.out⟩
      · rw [decide_eq_false hb] at hcall
        have HC := Lib.hid hcall
        have HSN := Lib.hid (search_up HSR.out HTM.out hb)
        clear hcall hb
        go_wp2_with fail
        refine HC.out.mono ?_; rintro z w8 ⟨rfl, hb8⟩
        have HB8 := Lib.hid (HBW.out.trans (hb8.mono HBW.out.size))
        clear hb8
        go_wp2_with fail
        go_roundg (gk - 1)
        case measure => omega
        case rel => exact ⟨_, _, rfl, rfl, HSN.out, by omega, by omega, by omega, by omega, HB8.out⟩
    · obtain rfl : H = L := by omega
      obtain rfl := search_end HU.out HT5.out HSR.out hL0
      have hbA : Below wr.heap.size wr wr.drew := (Below.refl _ _).drew
      clear hlt hLH hgk
      go_wp2_with fail
      refine wp_regionL (fun w' => w'.cell? ⟨s, 0, none⟩ = some (.bool na) ∧ w'.cell? ⟨s, 1, none⟩ = some (.slice a n c) ∧ w'.cell? ⟨s + 1, 0, none⟩ = some (.bool nb) ∧ w'.cell? ⟨s + 1, 1, none⟩ = some (.slice b m d)) 6 (by kernel_rfl) (by exact ⟨x0, x1, y0, y1⟩) (fun hHeld => ?_)
      refine wpAnyL_take (i := 0) (oi := ⟨some 48, _, _, _, _, _⟩) (v := ?_) rfl (by kernel_rfl) (by kernel_rfl) (by kernel_rfl) (by kernel_rfl) (by kernel_rfl) (fun _ _ _ h => h) (Or.inl ⟨by rfl, ?_⟩) (by assumption) ?_
      rotate_left 1
      · (intro w hSw; (try dsimp only at hSw); go_simp; try with_reducible rfl)
      try simp only [Act.put, List.setIfInBounds_toArray, List.set_cons_zero, List.set_cons_succ]
      refine wpAnyL_take (i := 1) (oi := ⟨some 49, _, _, _, _, _⟩) (v := ?_) rfl (by kernel_rfl) (by kernel_rfl) (by kernel_rfl) (by kernel_rfl) (by kernel_rfl) (fun _ _ _ h => h) (Or.inl ⟨by rfl, ?_⟩) (by assumption) ?_
      rotate_left 1
      · (intro w hSw; (try dsimp only at hSw); go_simp; try with_reducible rfl)
      try simp only [Act.put, List.setIfInBounds_toArray, List.set_cons_zero, List.set_cons_succ]
      refine wpAnyL_take (i := 2) (oi := ⟨some 50, _, _, _, _, _⟩) (v := ?_) rfl (by kernel_rfl) (by kernel_rfl) (by kernel_rfl) (by kernel_rfl) (by kernel_rfl) (fun _ _ _ h => h) (Or.inl ⟨by rfl, ?_⟩) (by assumption) ?_
      rotate_left 1
      · (intro w hSw; (try dsimp only at hSw); go_simp; try with_reducible rfl)
      try simp only [Act.put, List.setIfInBounds_toArray, List.set_cons_zero, List.set_cons_succ]
      refine wpAnyL_take (i := 3) (oi := ⟨some 51, _, _, _, _, _⟩) (v := ?_) rfl (by kernel_rfl) (by kernel_rfl) (by kernel_rfl) (by kernel_rfl) (by kernel_rfl) (fun _ _ _ h => h) (Or.inl ⟨by rfl, ?_⟩) (by assumption) ?_
      rotate_left 1
      · (intro w hSw; (try dsimp only at hSw); go_simp; try with_reducible rfl)
      try simp only [Act.put, List.setIfInBounds_toArray, List.set_cons_zero, List.set_cons_succ]
      refine wpAnyL_one (i := 4) (o := ⟨some 52, _, _, _, _, _⟩) (by kernel_rfl) rfl (fun K hK => ?_)
      go_simp
      rw [HSUB.out]
      refine (HTW.out _).mono ?_
      rintro e w2 ⟨n2, p2, l2, c2, rfl, hN2, hb2, -⟩
      have hB2 := hbA.trans (hb2.mono (by exact Nat.le_refl _))
      have w20 : w2.cell? ⟨s, 0, none⟩ = some (.bool na) := by rw [(bcell hB2).1 _ _ hs0]; exact x0
      have w21 : w2.cell? ⟨s, 1, none⟩ = some (.slice a n c) := by rw [(bcell hB2).1 _ _ hs0]; exact x1
      have w22 : w2.cell? ⟨s + 1, 0, none⟩ = some (.bool nb) := by rw [(bcell hB2).1 _ _ hs1]; exact y0
      have w23 : w2.cell? ⟨s + 1, 1, none⟩ = some (.slice b m d) := by rw [(bcell hB2).1 _ _ hs1]; exact y1
      refine hK.out _ _ (by exact ⟨w20, w21, w22, w23⟩) ?_
      clear hK K hHeld
      intro hHeld
      try simp only [Act.put, List.setIfInBounds_toArray, List.set_cons_zero, List.set_cons_succ]
      refine wpAnyL_one (i := 5) (o := ⟨some 53, _, _, _, _, _⟩) (by kernel_rfl) rfl (fun K hK => ?_)
      go_simp
      refine (mul_any _ _ _ _ _ _ _ _ (Q : Int) (2 ^ g) _ (HY7.out.below (hbl.trans (hB2.mono hbl.size)) (Nat.le_refl _)) hN2 FQ.out FG.out).mono ?_
      rintro e w3 ⟨n3, p3, l3, c3, rfl, hN3, hb3, -⟩
      rw [← HX2.out] at hN3
      have hB3 := hB2.trans (hb3.mono hB2.size)
      have hBK0 := hk0.below hB3 hs0
      have hBK1 := hk1.below hB3 hs1
      have xf : ∀ o, w3.frozen? ⟨s + 1, o, none⟩ = false := fun o => hBK1.frozen o
      have w30 : w3.cell? ⟨s, 0, none⟩ = some (.bool na) := by rw [(bcell hB3).1 _ _ hs0]; exact x0
      have w31 : w3.cell? ⟨s, 1, none⟩ = some (.slice a n c) := by rw [(bcell hB3).1 _ _ hs0]; exact x1
      have w32 : w3.cell? ⟨s + 1, 0, none⟩ = some (.bool nb) := by rw [(bcell hB3).1 _ _ hs1]; exact y0
      have w33 : w3.cell? ⟨s + 1, 1, none⟩ = some (.slice b m d) := by rw [(bcell hB3).1 _ _ hs1]; exact y1
      refine hK.out _ _ (by exact ⟨w30, w31, w32, w33⟩) ?_
      clear hK K hHeld
      intro hHeld
      try simp only [Act.put, List.setIfInBounds_toArray, List.set_cons_zero, List.set_cons_succ]
      refine wpAnyL_last (o := ⟨none, _, _, _, _, _⟩) (by kernel_rfl) (by kernel_rfl) rfl (fun K hK => ?_)
      go_simp
      refine hK _ _ ?_
      clear hK K hHeld
      try simp only [Act.put, List.setIfInBounds_toArray, List.set_cons_zero, List.set_cons_succ]
      obtain ⟨w9, hw9⟩ : ∃ w9, (w3.setCell ⟨s + 1, 0, none⟩ (.bool n3)).setCell ⟨s + 1, 1, none⟩ (.slice p3 l3 c3) = w9 := ⟨_, rfl⟩
      rw [hw9]
      have HK9 : Hid (Blk w9 (s + 1) 61 #[.bool n3, .slice p3 l3 c3]) := Lib.hid (by rw [← hw9]; exact ((hBK1.set_ 0 _).set_ 1 _).to rfl)
      have HY9 : Hid (NumC w9 n3 p3 l3 c3 (Q2 : Int)) := Lib.hid (by rw [← hw9]; exact NumC.set2 hN3 w32 w33 _ _ _ _)
      have HX9 : Hid (NumC w9 na a n c (P : Int)) := Lib.hid (by rw [← hw9]; exact NumC.set2 (HX7.out.below (hbl.trans (hB3.mono hbl.size)) (Nat.le_refl _)) w32 w33 _ _ _ _)
      have HKP : Hid (Blk w9 s 61 #[.bool na, .slice a n c]) := Lib.hid (by rw [← hw9]; exact (hBK0.far (by simp) _).far (by simp) _)
      have HB9 : Hid (Below s w w9) := Lib.hid (by rw [← hw9]; exact ((HB7.out.trans ((hbl.trans (hB3.mono hbl.size)).mono (by rw [← HSZ.out]; exact HB7.out.size))).setCell (by simp) _).setCell (by simp) _)
      clear hw9 hbA hB2 hN2 hB3 hN3 hBK0 hBK1 hk0 hk1 xf w20 w21 w22 w23 w30 w31 w32 w33 x0 x1 y0 y1 hs0 hs1 hbl HBW hb2 hb3
      have p0 : w9.cell? ⟨s, 0, none⟩ = some (.bool na) := HKP.out.cell 0
      have p1 : w9.cell? ⟨s, 1, none⟩ = some (.slice a n c) := HKP.out.cell 1
      have q0 : w9.cell? ⟨s + 1, 0, none⟩ = some (.bool n3) := HK9.out.cell 0
      have q1 : w9.cell? ⟨s + 1, 1, none⟩ = some (.slice p3 l3 c3) := HK9.out.cell 1
      go_wp2_with fail
      refine (div_any _ _ _ _ _ _ _ _ (P : Int) (Q2 : Int) _ HX9.out HY9.out HQ0.out HFD.out).mono ?_
      rintro e w10 ⟨n5, p5, l5, c5, n6, p6, l6, c6, rfl, hZ1, hZ2, hb10⟩
      rw [HDV.out.1] at hZ1
      rw [HDV.out.2] at hZ2
      have HB10 := Lib.hid (HB9.out.trans (hb10.mono (by have := HK9.out.lt; omega)))
      have HK10 := Lib.hid (HK9.out.below hb10 HK9.out.lt)
      have HY10 := Lib.hid (HY9.out.below hb10 (Nat.le_refl _))
      have HZ1 := Lib.hid hZ1
      have HZ2 := Lib.hid hZ2
      clear hZ1 hZ2 hb10 p0 p1 q0 q1 HK9 HY9 HX9 HKP
      go_upto_region 17 with fail
      obtain ⟨hk0, hk1, hbw, hsz⟩ := two_bx w10 61 #[.bool n5, .slice p5 l5 c5] #[.bool n6, .slice p6 l6 c6]
      have HB11 := Lib.hid (HB10.out.trans (hbw.mono (by rw [← HSZ.out]; exact HB10.out.size)))
      have HK11 := Lib.hid (HK10.out.below hbw HK10.out.lt)
      have HY11 := Lib.hid (HY10.out.below hbw (Nat.le_refl _))
      have HZ1' := Lib.hid (HZ1.out.below hbw (Nat.le_refl _))
      have HZ2' := Lib.hid (HZ2.out.below hbw (Nat.le_refl _))
      have HKM := Lib.hid hk0
      have HKL := Lib.hid hk1
      clear hk0 hk1 hbw hsz HB10 HK10 HY10 HZ1 HZ2
      generalize ((w10.alloc (.cells #[.bool n5, .slice p5 l5 c5] 61)).alloc (.cells #[.bool n6, .slice p6 l6 c6] 61)) = w11 at *
      generalize w10.heap.size = u at *
      have l0 : w11.cell? ⟨u + 1, 0, none⟩ = some (.bool n6) := HKL.out.cell 0
      have l1 : w11.cell? ⟨u + 1, 1, none⟩ = some (.slice p6 l6 c6) := HKL.out.cell 1
      have q0 : w11.cell? ⟨s + 1, 0, none⟩ = some (.bool n3) := HK11.out.cell 0
      have q1 : w11.cell? ⟨s + 1, 1, none⟩ = some (.slice p3 l3 c3) := HK11.out.cell 1
      have hl0 : u + 1 < w11.heap.size := HKL.out.lt
      have hl1 : s + 1 < w11.heap.size := HK11.out.lt
      have hbA : Below w11.heap.size w11 w11.drew := (Below.refl _ _).drew
      go_region_held3 (fun w' => w'.cell? ⟨u + 1, 0, none⟩ = some (.bool n6) ∧ w'.cell? ⟨u + 1, 1, none⟩ = some (.slice p6 l6 c6) ∧ w'.cell? ⟨s + 1, 0, none⟩ = some (.bool n3) ∧ w'.cell? ⟨s + 1, 1, none⟩ = some (.slice p3 l3 c3)) (go_keep)
        (first
          | (go_at_call 54; refine (add_any _ _ _ _ _ _ _ _ (rm : Int) (rm : Int) _ (HZ2'.out.below hbA (Nat.le_refl _)) (HZ2'.out.below hbA (Nat.le_refl _)) HFR.out HFR.out).mono ?_; rintro e w12 ⟨n7, p7, l7, c7, rfl, hM12, hb12, -⟩; replace hbA := hbA.trans (hb12.mono (Nat.le_trans (by simp) hbA.size)); clear hb12; (try clear bc8 bf8); obtain ⟨bc8, bf8⟩ := bcell hbA)
          | (go_at_call 83; refine (cmp_at _ _ _ _ _ _ _ _ ((rm : Int) + (rm : Int)) (Q2 : Int) r _ HCMP.out hM12 (HY11.out.below hbA (Nat.le_refl _))).mono ?_; rintro e w13 ⟨rfl, hb13⟩; clear hM12 bc8 bf8; replace hbA := hbA.trans (hb13.mono (Nat.le_trans (by simp) hbA.size)); clear hb13; obtain ⟨bc8, bf8⟩ := bcell hbA))
      all_goals
        clear bc8 bf8 l0 l1 q0 q1
        have HB13 := Lib.hid (HB11.out.trans (hbA.mono (by rw [← HSZ.out]; exact HB11.out.size)))
        have HZ13 := Lib.hid (HZ1'.out.below hbA (Nat.le_refl _))
        have hkm := HKM.out.below hbA HKM.out.lt
        have m0 : w13.cell? ⟨u, 0, none⟩ = some (.bool n5) := hkm.cell 0
        have m1 : w13.cell? ⟨u, 1, none⟩ = some (.slice p5 l5 c5) := hkm.cell 1
        clear hkm hbA
        go_wp2_with fail
        refine (uint_nat _ _ _ _ v _ HZ13.out (by omega)).mono ?_
        rintro e w14 ⟨rfl, hb14⟩
        have HB14 := Lib.hid (HB13.out.trans (hb14.mono (by rw [← HSZ.out]; exact HB13.out.size)))
        clear hb14 m0 m1
        have hv2 : (v : Int) ≤ 9007199254740992 := by omega
        rcases HCS.out with ⟨c1, c2⟩ | ⟨c1, c2, c3, c4⟩ | ⟨c1, c2, c3, c4⟩ | ⟨c1, c2, c4⟩
        · have HT : Hid (∀ w, Calls Tryz.prog 80 #[.float .f64 (floatOfInt .f64 ((v : Int) + 1)), .int .i64 ((t : Int) - 1074)] w fun x w' => x = .returned (.float .f64 (min (t * B52 + rn) INF)) ∧ Below w.heap.size w w') := Lib.hid (fun w => by
            have h := rtimes_near rn t w HR1.out HT5.out HR2.out
            rw [c2] at h ⊢
            exact h)
          clear c2
          go_wp2_with fail
          refine (HT.out _).mono ?_; rintro z w15 ⟨rfl, hb15⟩
          have HB15 := Lib.hid (HB14.out.trans (hb15.mono (by rw [← HSZ.out]; exact HB14.out.size)))
          clear hb15
          go_wp2_with fail
          go_ret
          exact ⟨_, rfl, HNR.out, by rw [HSZ.out]; exact HB15.out⟩
        · have HT : Hid (∀ w, Calls Tryz.prog 80 #[.float .f64 (floatOfInt .f64 ((v : Int) + 1)), .int .i64 ((t : Int) - 1074)] w fun x w' => x = .returned (.float .f64 (min (t * B52 + rn) INF)) ∧ Below w.heap.size w w') := Lib.hid (fun w => by
            have h := rtimes_near rn t w HR1.out HT5.out HR2.out
            rw [c4] at h ⊢
            exact h)
          have c5 : ((v : Int) % 2 == 1) = true := by simp; omega
          clear c4 c3
          go_wp2_with fail
          refine (HT.out _).mono ?_; rintro z w15 ⟨rfl, hb15⟩
          have HB15 := Lib.hid (HB14.out.trans (hb15.mono (by rw [← HSZ.out]; exact HB14.out.size)))
          clear hb15
          go_wp2_with fail
          go_ret
          exact ⟨_, rfl, HNR.out, by rw [HSZ.out]; exact HB15.out⟩
        · have HT : Hid (∀ w, Calls Tryz.prog 80 #[.float .f64 (floatOfInt .f64 (v : Int)), .int .i64 ((t : Int) - 1074)] w fun x w' => x = .returned (.float .f64 (min (t * B52 + rn) INF)) ∧ Below w.heap.size w w') := Lib.hid (fun w => by
            have h := rtimes_near rn t w HR1.out HT5.out HR2.out
            rw [c4] at h ⊢
            exact h)
          have c5 : ((v : Int) % 2 == 1) = false := by simp; omega
          clear c4 c3
          go_wp2_with fail
          refine (HT.out _).mono ?_; rintro z w15 ⟨rfl, hb15⟩
          have HB15 := Lib.hid (HB14.out.trans (hb15.mono (by rw [← HSZ.out]; exact HB14.out.size)))
          clear hb15
          go_wp2_with fail
          go_ret
          exact ⟨_, rfl, HNR.out, by rw [HSZ.out]; exact HB15.out⟩
        · have HT : Hid (∀ w, Calls Tryz.prog 80 #[.float .f64 (floatOfInt .f64 (v : Int)), .int .i64 ((t : Int) - 1074)] w fun x w' => x = .returned (.float .f64 (min (t * B52 + rn) INF)) ∧ Below w.heap.size w w') := Lib.hid (fun w => by
            have h := rtimes_near rn t w HR1.out HT5.out HR2.out
            rw [c4] at h ⊢
            exact h)
          clear c4
          go_wp2_with fail
          refine (HT.out _).mono ?_; rintro z w15 ⟨rfl, hb15⟩
          have HB15 := Lib.hid (HB14.out.trans (hb15.mono (by rw [← HSZ.out]; exact HB14.out.size)))
          clear hb15
          go_wp2_with fail
          go_ret
          exact ⟨_, rfl, HNR.out, by rw [HSZ.out]; exact HB15.out⟩

end Go.Proofs.YtdbkgpakpadloaaGreatDoor
/- Contracts of package bushelref03's Nearest and Join. Conditions: the numbers are below 2^30000 (Nearest), 2^7000 (Join). -/
namespace Go.Proofs.YtdbkgpakpadloaaGreatDoor
open Go.RowKit Ieee

theorem NumC.len0 {w : World} {neg : Bool} {a : Option Addr} {n c : Nat} (h : NumC w neg a n c 0) : n = 0 := by
  obtain ⟨xs, hr, hd, ht, hz, hg⟩ := h
  have hp := V_pos (B := 1000) (by decide) hd ht
  have h0 : ¬ 0 < V 1000 xs := by
    intro h1; cases neg <;> simp at hz <;> omega
  have e : xs = [] := Decidable.byContradiction fun h => h0 (hp.2 h)
  subst e; exact hr.1.symm
theorem NumC.lenp {w : World} {neg : Bool} {a : Option Addr} {n c : Nat} {z : Int} (h : NumC w neg a n c z) (hz : z ≠ 0) : 0 < n := by
  obtain ⟨xs, hr, hd, ht, he, hg⟩ := h
  rcases Nat.eq_zero_or_pos n with e | e
  · subst e
    have : xs = [] := List.eq_nil_of_length_eq_zero hr.1
    subst this
    rw [V_nil] at he
    cases neg <;> simp at he <;> omega
  · exact e
theorem rnearest_any (na nb : Bool) (a b : Option Addr) (n c m d P Q K : Nat) (e : Int) (A B : Nat) (w : World) (hx : NumC w na a n c (P : Int)) (hy : NumC w nb b m d (Q : Int)) (hP : P < 2 ^ K) (hQ : Q < 2 ^ K) (hK : K ≤ 30000) (hQ0 : 0 < Q)
    (hA : e + 1074 = (A : Int) - (B : Int)) (he1 : -9000 ≤ e) (he2 : e ≤ 3000) :
    Calls Tryz.prog 56 #[.agg #[.bool na, .slice a n c], .agg #[.bool nb, .slice b m d], .int .i64 e] w (RNear (P * 2 ^ A) (Q * 2 ^ B) w) := by
  have hD0 : 0 < Q * 2 ^ B := Nat.mul_pos hQ0 (Nat.two_pow_pos B)
  obtain ⟨t, ht⟩ := unit_exist (P * 2 ^ A) hD0
  rcases Nat.lt_or_ge 2045 t with h | h
  · refine rnear_inf na nb a b n c m d P Q K e A B (t + 52) w hx hy hP hQ hK hQ0 hA he1 he2 (by omega) ?_
    rcases ht.lo with h1 | h1
    · omega
    · exact h1
  · rcases Int.lt_or_le e ((t : Int) - 1074) with h2 | h2
    · obtain ⟨g, hg⟩ : ∃ g : Nat, (t : Int) - 1074 = e + (g : Int) := ⟨((t : Int) - 1074 - e).toNat, by omega⟩
      have hr2 : P * (Q * 2 ^ B * 2 ^ t) = P * 2 ^ A * (Q * 2 ^ g) := by
        have e1 : B + t = A + g := by omega
        have e2 : P * (Q * 2 ^ B * 2 ^ t) = P * Q * 2 ^ (B + t) := by rw [Nat.pow_add]; ac_rfl
        have e3 : P * 2 ^ A * (Q * 2 ^ g) = P * Q * 2 ^ (A + g) := by rw [Nat.pow_add]; ac_rfl
        rw [e2, e3, e1]
      have hQB : 0 < Q * 2 ^ g := Nat.mul_pos hQ0 (Nat.two_pow_pos g)
      have hrne : rne P (Q * 2 ^ g) = rne (P * 2 ^ A) (Q * 2 ^ B * 2 ^ t) := rne_ratio hQB (Nat.mul_pos hD0 (Nat.two_pow_pos t)) hr2
      have hR1 := ht.rne_le
      rw [← hrne] at hR1
      have hR2 : t = 0 ∨ B52 ≤ rne P (Q * 2 ^ g) := by
        rcases Nat.eq_zero_or_pos t with h | h
        · exact .inl h
        · right; rw [hrne]; exact ht.rne_ge (by omega)
      have hgG : g ≤ 20000 := by omega
      have FP2 : P < 2 ^ (K + 20000) := pow_le_two hP
      have FQ2 : Q * 2 ^ g < 2 ^ (K + 20000) := pow_mul_lt hQ hgG
      obtain ⟨r, hr, hcs⟩ := rne_cases P (Q * 2 ^ g)
      refine rnear_lo0 na nb a b n c m d P Q K e A B t g (Q * 2 ^ g) (P / (Q * 2 ^ g)) (P % (Q * 2 ^ g)) (rne P (Q * 2 ^ g)) (Q * 2 ^ B) (P * 2 ^ A) w hx hy hP hQ hK hA he1 he2 hg (by omega) hgG r h rfl rfl ht (nat_cast_pow Q g)
        ⟨by rw [Int.fdiv_eq_ediv_of_nonneg _ (Int.natCast_nonneg _)]; rfl, by rw [Int.fmod_eq_emod_of_nonneg _ (Int.natCast_nonneg _)]; rfl⟩ (by omega) (fit_divn FP2 FQ2 (by omega)) (fit_nat (Nat.lt_of_lt_of_le (Nat.mod_lt _ hQB) (Nat.le_of_lt FQ2)) (by omega)) hr hcs ?_ hR1 hR2 ⟨t, ht, by rw [hrne]⟩
      refine Nat.le_trans ?_ hR1
      unfold rne
      omega
    · obtain ⟨g, hg⟩ : ∃ g : Nat, e = (t : Int) - 1074 + (g : Int) := ⟨(e - ((t : Int) - 1074)).toNat, by omega⟩
      have hr2 : P * 2 ^ g * (Q * 2 ^ B * 2 ^ t) = P * 2 ^ A * Q := by
        have e1 : g + B + t = A := by omega
        rw [← e1, Nat.pow_add, Nat.pow_add]
        ac_rfl
      have hrne : rne (P * 2 ^ g) Q = rne (P * 2 ^ A) (Q * 2 ^ B * 2 ^ t) := rne_ratio hQ0 (Nat.mul_pos hD0 (Nat.two_pow_pos t)) hr2
      have hR1 := ht.rne_le
      rw [← hrne] at hR1
      have hR2 : t = 0 ∨ B52 ≤ rne (P * 2 ^ g) Q := by
        rcases Nat.eq_zero_or_pos t with h | h
        · exact .inl h
        · right; rw [hrne]; exact ht.rne_ge (by omega)
      have hgG : g ≤ 20000 := by omega
      have FP2 : P * 2 ^ g < 2 ^ (K + 20000) := pow_mul_lt hP hgG
      have FQ2 : Q < 2 ^ (K + 20000) := pow_le_two hQ
      obtain ⟨r, hr, hcs⟩ := rne_cases (P * 2 ^ g) Q
      refine rnear_hi0 na nb a b n c m d P Q K e A B t g (P * 2 ^ g) (P * 2 ^ g / Q) (P * 2 ^ g % Q) (rne (P * 2 ^ g) Q) (Q * 2 ^ B) (P * 2 ^ A) w hx hy hP hQ hK hA he1 he2 hg hgG r h rfl rfl ht (nat_cast_pow P g)
        ⟨by rw [Int.fdiv_eq_ediv_of_nonneg _ (Int.natCast_nonneg _)]; rfl, by rw [Int.fmod_eq_emod_of_nonneg _ (Int.natCast_nonneg _)]; rfl⟩ (by omega) (fit_divn FP2 FQ2 (by omega)) (fit_nat (Nat.lt_of_lt_of_le (Nat.mod_lt _ hQ0) (Nat.le_of_lt FQ2)) (by omega)) hr hcs ?_ hR1 hR2 ⟨t, ht, by rw [hrne]⟩
      refine Nat.le_trans ?_ hR1
      unfold rne
      omega

theorem sign_near (neg : Bool) {X r : Nat} {e : Int} (h : nearN X e = r) : (if neg then flipS r else r) = joinN neg X e := by
  have hl := near_le X e
  rw [h] at hl
  unfold joinN flipS
  rw [h]
  cases neg
  · rfl
  · rw [if_pos rfl, if_pos rfl, if_pos (by unfold INF at hl; unfold S63; omega)]
    omega
theorem rsign_near (neg : Bool) (X : Nat) (e : Int) (r : Nat) (w : World) (h : nearN X e = r) :
    Calls Tryz.prog 23 #[.bool neg, .float .f64 r] w fun x w' => x = .returned (.float .f64 (joinN neg X e)) ∧ w = w' := by
  have hl := near_le X e
  rw [h] at hl
  have := rsign_any neg r w (by unfold INF at hl; omega)
  rw [sign_near neg h] at this
  exact this
theorem join_lt (neg : Bool) (X : Nat) (e : Int) : joinN neg X e < 18446744073709551616 := by
  have hl := near_le X e
  unfold joinN
  unfold INF at hl
  unfold S63
  split <;> omega

set_option maxHeartbeats 2000000 in
theorem rjoin_nul (neg na : Bool) (a : Option Addr) (n c : Nat) (e : Int) (w : World) (hx : NumC w na a n c 0) :
    Calls Tryz.prog 26 #[.bool neg, .agg #[.bool na, .slice a n c], .int .i64 e] w (RJoin (joinN neg 0 e) w) := by
  obtain rfl := hx.len0
  have HS := Lib.hid (fun w => rsign_near neg 0 e 0 w near_zero)
  obtain ⟨hk0, hbw⟩ := one_box w 61 #[.bool na, .slice a 0 c]
  have HB := Lib.hid hbw
  clear hx
  go_enter Tryz.func26, Tryz.ntmps26
  have x1 : (w.alloc (.cells #[.bool na, .slice a 0 c] 61)).cell? ⟨w.heap.size, 1, none⟩ = some (.slice a 0 c) := hk0.cell 1
  go_wp2_with fail
  refine (HS.out _).mono ?_; rintro z w1 ⟨rfl, rfl⟩
  go_wp2_with fail
  go_ret
  exact ⟨rfl, HB.out⟩

set_option maxHeartbeats 2000000 in
theorem rjoin_dn (neg na : Bool) (a : Option Addr) (n c X : Nat) (e : Int) (w : World) (hx : NumC w na a n c (X : Int)) (hX0 : 0 < X) (h : nearN X e = 0) (he : e < -9000) :
    Calls Tryz.prog 26 #[.bool neg, .agg #[.bool na, .slice a n c], .int .i64 e] w (RJoin (joinN neg X e) w) := by
  have hn := hx.lenp (by omega)
  have HS := Lib.hid (fun w => rsign_near neg X e 0 w h)
  obtain ⟨hk0, hbw⟩ := one_box w 61 #[.bool na, .slice a n c]
  have HB := Lib.hid hbw
  have t0 : ((n : Int) == 0) = false := by simp; omega
  have t1 : decide (3000 < e) = false := by simp; omega
  have t2 : decide (e < -9000) = true := by simp; omega
  clear hx h hn
  go_enter Tryz.func26, Tryz.ntmps26
  have x1 : (w.alloc (.cells #[.bool na, .slice a n c] 61)).cell? ⟨w.heap.size, 1, none⟩ = some (.slice a n c) := hk0.cell 1
  go_wp2_with fail
  refine (HS.out _).mono ?_; rintro z w1 ⟨rfl, rfl⟩
  go_wp2_with fail
  go_ret
  exact ⟨rfl, HB.out⟩

set_option maxRecDepth 100000 in
set_option maxHeartbeats 4000000 in
theorem rjoin_mid (neg na : Bool) (a : Option Addr) (n c X K : Nat) (e f : Int) (w : World) (hx : NumC w na a n c (X : Int)) (hX0 : 0 < X) (hX : X < 2 ^ K) (hK : K ≤ 29000) (h : nearN X f = nearN X e) (hf : decide (3000 < e) = true ∧ f = 3000 ∨ decide (3000 < e) = false ∧ f = e ∧ -9000 ≤ e ∧ e ≤ 3000) :
    Calls Tryz.prog 26 #[.bool neg, .agg #[.bool na, .slice a n c], .int .i64 e] w (RJoin (joinN neg X e) w) := by
  have hn := hx.lenp (by omega)
  obtain ⟨r, hr⟩ : ∃ r, nearN X e = r := ⟨_, rfl⟩
  rw [hr] at h
  have HS := Lib.hid (fun w => rsign_near neg X e r w hr)
  obtain ⟨hk0, hbw⟩ := one_box w 61 #[.bool na, .slice a n c]
  have HB := Lib.hid hbw
  have HX7 := Lib.hid (hx.below hbw (Nat.le_refl _))
  have t0 : ((n : Int) == 0) = false := by simp; omega
  have hf1 : -9000 ≤ f := by omega
  have hf2 : f ≤ 3000 := by omega
  have t2 : decide (f < -9000) = false := by simp; omega
  have HNE : Hid (∀ (nb : Bool) (b : Option Addr) (m d : Nat) (w : World), NumC w na a n c (X : Int) → NumC w nb b m d 1 → Calls Tryz.prog 56 #[.agg #[.bool na, .slice a n c], .agg #[.bool nb, .slice b m d], .int .i64 f] w fun z w' => z = .returned (.float .f64 r) ∧ Below w.heap.size w w') := Lib.hid (fun nb b m d w h1 h2 => by
    obtain ⟨A, B, hAB⟩ : ∃ A B : Nat, f + 1074 = (A : Int) - (B : Int) := ⟨(f + 1074).toNat, (-(f + 1074)).toNat, by omega⟩
    refine (rnearest_any na nb a b n c m d X 1 (K + 1) f A B w h1 h2 (pow_le_two hX) (Nat.one_lt_two_pow (by omega)) (by omega) (by decide) hAB hf1 hf2).mono ?_
    rintro z w' ⟨q, rfl, hq, hb⟩
    have hi := near_is hX0 hAB
    rw [Nat.one_mul] at hq
    rw [h] at hi
    rw [hq.one hi]
    exact ⟨rfl, hb⟩)
  clear hx h hn hX hr
  rcases hf with ⟨t1, hff⟩ | ⟨t1, hff, -, -⟩
  all_goals
    have HFF := Lib.hid hff
    clear hff
    go_enter Tryz.func26, Tryz.ntmps26
    have x0 : (w.alloc (.cells #[.bool na, .slice a n c] 61)).cell? ⟨w.heap.size, 0, none⟩ = some (.bool na) := hk0.cell 0
    have x1 : (w.alloc (.cells #[.bool na, .slice a n c] 61)).cell? ⟨w.heap.size, 1, none⟩ = some (.slice a n c) := hk0.cell 1
    have hs0 : w.heap.size < (w.alloc (.cells #[.bool na, .slice a n c] 61)).heap.size := hk0.lt
    rw [HFF.out] at HNE t2
    clear hk0
    go_upto_region 7 with fail
    generalize (w.alloc (.cells #[.bool na, .slice a n c] 61)) = w7 at *
    generalize hsz0 : w.heap.size = s at *
    have HSZ := Lib.hid hsz0
    clear hsz0
    have hbA : Below w7.heap.size w7 w7.drew := (Below.refl _ _).drew
    go_region_held3 (fun w' => w'.cell? ⟨s, 0, none⟩ = some (.bool na) ∧ w'.cell? ⟨s, 1, none⟩ = some (.slice a n c)) (go_keep)
      (first
        | (go_at_call 29; refine (nat_any 1 _ (by omega) (by omega)).mono ?_; rintro e w8 ⟨n8, p8, l8, c8, rfl, hM8, hb8, -⟩; replace hbA := hbA.trans (hb8.mono (Nat.le_trans (by simp) hbA.size)); clear hb8; (try clear bc8 bf8); obtain ⟨bc8, bf8⟩ := bcell hbA)
        | (go_at_call 56; refine (HNE.out _ _ _ _ _ (HX7.out.below hbA (Nat.le_refl _)) hM8).mono ?_; rintro e w9 ⟨rfl, hb9⟩; clear hM8; replace hbA := hbA.trans (hb9.mono (Nat.le_trans (by simp) hbA.size)); clear hb9; (try clear bc8 bf8); obtain ⟨bc8, bf8⟩ := bcell hbA)
        | (go_at_call 23; refine (HS.out _).mono ?_; rintro e w10 ⟨rfl, rfl⟩))
    all_goals
      clear bc8 bf8
      have HBE := Lib.hid (HB.out.trans (hbA.mono (by rw [← HSZ.out]; exact HB.out.size)))
      clear hbA
      go_wp2_with fail
      go_ret
      exact ⟨rfl, by rw [HSZ.out]; exact HBE.out⟩

theorem rjoin_any (neg na : Bool) (a : Option Addr) (n c X K : Nat) (e : Int) (w : World) (hx : NumC w na a n c (X : Int)) (hX : X < 2 ^ K) (hK : K ≤ 7000) :
    Calls Tryz.prog 26 #[.bool neg, .agg #[.bool na, .slice a n c], .int .i64 e] w (RJoin (joinN neg X e) w) := by
  rcases Nat.eq_zero_or_pos X with h | h
  · subst h; exact rjoin_nul neg na a n c e w hx
  · rcases Int.lt_or_le e (-9000) with h1 | h1
    · exact rjoin_dn neg na a n c X e w hx h (near_small hX h (by omega)) h1
    · rcases Int.lt_or_le 3000 e with h2 | h2
      · refine rjoin_mid neg na a n c X K e 3000 w hx h hX (by omega) ?_ (.inl ⟨by simpa using h2, rfl⟩)
        rw [near_big (n := 1) (e := 3000) (by rw [Nat.sub_self, Nat.pow_zero]; exact h) (by omega) (by omega), near_big (n := 1) (e := e) (by rw [Nat.sub_self, Nat.pow_zero]; exact h) (by omega) (by omega)]
      · exact rjoin_mid neg na a n c X K e e w hx h hX (by omega) rfl (.inr ⟨by simpa using h2, rfl, h1, h2⟩)
end Go.Proofs.YtdbkgpakpadloaaGreatDoor
