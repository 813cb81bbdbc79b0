/- Contract of package bushelref03's times. Conditions: a number below the infinity without a minus; a halving that loses nothing; at most 5000 steps. -/
import Derived.Test.YtfanjmgbkmdmfaaFloO
namespace Go.Proofs.Ytfanjmgbkmdmfaa
open Go.RowKit Ieee

theorem scale_rung (q : Nat) : ∀ j : Nat, ∃ x, iv x = iv q * 2 ^ j
  | 0 => ⟨q, by rw [Nat.pow_zero, Nat.mul_one]⟩
  | j + 1 => by
    obtain ⟨x, hx⟩ := scale_rung q j
    obtain ⟨y, hy, -⟩ := twice_rung x
    exact ⟨y, by rw [hy, hx, Nat.pow_succ, Nat.mul_comm (2 ^ j) 2, ← Nat.mul_assoc, Nat.mul_comm 2, Nat.mul_assoc]⟩
theorem iv_eq0 {q : Nat} (h : iv q = 0) : q = 0 := by
  rcases Nat.eq_zero_or_pos q with h1 | h1
  · exact h1
  · have := iv_pos h1; omega

set_option maxRecDepth 100000 in
set_option maxHeartbeats 1000000 in
theorem rtimes_dn (r q e : Nat) (w : World) (hr : r < INF) (hq : iv r = iv q * 2 ^ e) (he : e ≤ 5000) :
    Calls Try.prog 101 #[.float .f64 r, .int .i64 (-(e : Int))] w fun x w' => x = .returned (.float .f64 q) ∧ w = w' := by
  have HQ := Lib.hid hq
  clear hq
  go_enter Try.func101, Try.ntmps101
  go_wp2_with fail
  go_loopg [0, 1] 0 (fun g y x wr => y = .float .f64 r ∧ x = .int .i64 (-(e : Int)) ∧ wr = w)
  case atStart => exact ⟨rfl, rfl, rfl⟩
  case round =>
    obtain ⟨rfl, rfl, hww⟩ := hrel
    subst hww
    have hc : decide (0 < -(e : Int)) = false := by simp
    go_wp2_with fail
    go_loopg [0, 1] e (fun g y x wr2 => ∃ x' : Nat, y = .float .f64 x' ∧ x = .int .i64 (-(g : Int)) ∧ x' < INF ∧ g ≤ 5000 ∧ iv x' = iv q * 2 ^ g ∧ wr2 = wr)
    case atStart => exact ⟨r, rfl, rfl, hr, he, HQ.out, rfl⟩
    case round =>
      obtain ⟨x, rfl, rfl, hx, hg, hv, hww⟩ := hrel
      subst hww
      have HV := Lib.hid hv
      clear hv hc
      rcases Nat.eq_zero_or_pos gk with h0 | h0
      · have hxq : x = q := iv_inj (by rw [HV.out, h0, Nat.pow_zero, Nat.mul_one])
        have HXQ := Lib.hid hxq
        have hc : decide (0 < gk) = false := by simp; omega
        clear h0 hxq
        go_wp2_with fail
        go_ret
        exact ⟨congrArg (fun n => Ending.returned (.float .f64 n)) HXQ.out, rfl⟩
      · have hc : decide (0 < gk) = true := by simp; omega
        have ho := order_pos (r := x) (c := 0) (by omega) (by decide)
        rcases Nat.eq_zero_or_pos x with h1 | h1
        · rw [cmp_same (by omega)] at ho
          have hxq : x = q := by
            have h2 := HV.out
            rw [h1, iv_zero] at h2
            rcases Nat.mul_eq_zero.1 h2.symm with h3 | h3
            · rw [h1, iv_eq0 h3]
            · have := Nat.two_pow_pos gk; omega
          have HXQ := Lib.hid hxq
          clear h1 hxq
          go_wp2_with fail
          go_ret
          exact ⟨congrArg (fun n => Ending.returned (.float .f64 n)) HXQ.out, rfl⟩
        · rw [cmp_gt (by omega)] at ho
          obtain ⟨g, hgg⟩ : ∃ g, gk = g + 1 := ⟨gk - 1, by omega⟩
          obtain ⟨y, hy⟩ := scale_rung q g
          have hxy : iv x = 2 * iv y := by
            rw [HV.out, hgg, Nat.pow_succ, hy, Nat.mul_comm (2 ^ g) 2, ← Nat.mul_assoc, Nat.mul_comm _ 2, Nat.mul_assoc]
          have hyx : y ≤ x := iv_le_of (by rw [hxy]; omega)
          have hm : x % S63 = x := Nat.mod_eq_of_lt (by unfold S63; unfold INF at hx; omega)
          have hd2 := div_two (b := x) (q := y) (by unfold INF at hx; omega) (by rw [hm]; exact hx) (by rw [hm]; exact h1) (by rw [hm]; exact hxy) (by omega)
          rw [show x / S63 = 0 from Nat.div_eq_of_lt (by unfold S63; unfold INF at hx; omega), Nat.zero_mul, Nat.zero_add] at hd2
          have hd := run_float_arith (P := Try.prog) wr .quo 25 .f64 x _ _ hd2
          have hyI : y < INF := by omega
          have HY := Lib.hid hy
          clear hd2 hm hyx hxy hy h1
          go_wp2_with fail
          go_roundg g
          case measure => omega
          case rel => exact ⟨y, rfl, congrArg (Value.int .i64) (by omega), hyI, by omega, HY.out, rfl⟩

set_option maxRecDepth 100000 in
set_option maxHeartbeats 1000000 in
theorem rtimes_up (r q e : Nat) (w : World) (h0 : 0 < r) (hr : r < INF) (hq : iv q = iv r * 2 ^ e) (he : e ≤ 5000) :
    Calls Try.prog 101 #[.float .f64 r, .int .i64 (e : Int)] w fun x w' => x = .returned (.float .f64 (min q INF)) ∧ Below w.heap.size w w' := by
  have HQ := Lib.hid hq
  clear hq
  go_enter Try.func101, Try.ntmps101
  go_wp2_with fail
  go_loopg [0, 1] e (fun g y x wr => ∃ x' z : Nat, y = .float .f64 z ∧ z = min x' INF ∧ x = .int .i64 (g : Int) ∧ 0 < x' ∧ g ≤ 5000 ∧ iv x' * 2 ^ g = iv q ∧ wr = w)
  case atStart => exact ⟨r, r, rfl, (Nat.min_eq_left (by omega)).symm, rfl, h0, he, HQ.out.symm, rfl⟩
  case round =>
    obtain ⟨x, z, rfl, hz, rfl, hx0, hg, hv, hww⟩ := hrel
    subst hww
    have HV := Lib.hid hv
    have hle : x ≤ q := iv_le_of (by
      rw [← hv]
      exact Nat.le_mul_of_pos_right _ (Nat.two_pow_pos _))
    clear hv
    have hc2 : decide ((gk : Int) < 0) = false := by simp
    rcases Nat.eq_zero_or_pos gk with h1 | h1
    · have hxq : x = q := iv_inj (by rw [← HV.out, h1, Nat.pow_zero, Nat.mul_one])
      have hc : decide (0 < gk) = false := by simp; omega
      have HE : Hid (z = min q INF) := Lib.hid (by rw [hz, hxq])
      clear h1 hz hxq hle
      go_wp2_with fail
      go_loopg [0, 1] 0 (fun g y x wr2 => y = .float .f64 z ∧ x = .int .i64 (gk : Int) ∧ wr2 = wr)
      case atStart => exact ⟨rfl, rfl, rfl⟩
      case round =>
        obtain ⟨rfl, rfl, hww⟩ := hrel
        subst hww
        go_wp2_with fail
        go_ret
        exact ⟨congrArg (fun n => Ending.returned (.float .f64 n)) HE.out, Below.refl _ _⟩
    · have hc : decide (0 < gk) = true := by simp; omega
      rcases Nat.lt_or_ge x INF with h2 | h2
      · have hzx : z = x := by rw [hz, Nat.min_eq_left (by omega)]
        subst hzx
        obtain ⟨g, hgg⟩ : ∃ g, gk = g + 1 := ⟨gk - 1, by omega⟩
        obtain ⟨y, hy, -⟩ := twice_rung z
        have hm : z % S63 = z := Nat.mod_eq_of_lt (by unfold S63; unfold INF at h2; omega)
        have hzl : z < 18446744073709551616 := by unfold INF at h2; omega
        have hrun := run_float_arith (P := Try.prog) wr .sub 25 .f64 z z 0 (sub_self_fin hzl (by rw [hm]; exact h2))
        have hrz : FloatKind.f64.format.order 0 0 = some .eq := by decide
        have hd2 := mul_two (b := z) (q := y) hzl (by rw [hm]; exact h2) (by rw [hm]; exact hx0) (by rw [hm]; exact hy)
        rw [show z / S63 = 0 from Nat.div_eq_of_lt (by unfold S63; unfold INF at h2; omega), Nat.zero_mul, Nat.zero_add] at hd2
        have hy0 : 0 < y := by
          rcases Nat.eq_zero_or_pos y with h | h
          · rw [h, iv_zero] at hy
            have := iv_pos hx0
            omega
          · exact h
        have HY : Hid (iv y * 2 ^ g = iv q) := Lib.hid (by
          rw [← HV.out, hgg, Nat.pow_succ, hy, Nat.mul_comm (2 ^ g) 2, ← Nat.mul_assoc, Nat.mul_comm _ 2])
        obtain ⟨z2, hz2⟩ : ∃ z2, min y INF = z2 := ⟨_, rfl⟩
        rw [hz2] at hd2
        have HZ2 := Lib.hid hz2
        have hd := run_float_arith (P := Try.prog) wr .mul 25 .f64 z _ _ hd2
        clear hd2 hm hle hz hy hzl h2 hz2
        go_wp2_with fail
        go_roundg g
        case measure => omega
        case rel => exact ⟨y, z2, rfl, HZ2.out.symm, congrArg (Value.int .i64) (by omega), hy0, by omega, HY.out, rfl⟩
      · have hzx : z = INF := by rw [hz, Nat.min_eq_right h2]
        have HE : Hid (z = min q INF) := Lib.hid (by rw [hzx, Nat.min_eq_right (by omega)])
        have hsi := sub_self_inf (b := z) (by rw [hzx]; decide) (by rw [hzx]; decide)
        obtain ⟨r2, hr0, hr1, hrun⟩ := run_float_nan .sub 25 z z hsi (by simp) wr
        have hrz : FloatKind.f64.format.order r2 0 = none := order_nan (.inl hr1)
        clear hr0 hr1 hsi hzx h2 hz hle
        go_wp2_with fail
        go_loopg [0, 1] 0 (fun g y x wr2 => y = .float .f64 z ∧ x = .int .i64 (gk : Int) ∧ wr2 = wr.drew)
        case atStart => exact ⟨rfl, rfl, rfl⟩
        case round =>
          obtain ⟨rfl, rfl, hww⟩ := hrel
          subst hww
          go_wp2_with fail
          go_ret
          exact ⟨congrArg (fun n => Ending.returned (.float .f64 n)) HE.out, (Below.refl _ _).drew⟩
end Go.Proofs.Ytfanjmgbkmdmfaa
