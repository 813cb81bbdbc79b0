/- Contract of math's Ldexp of a whole number; plain theory of the rounding in package flo's Join. Conditions: at most 2^53; the place is one of the format's. -/
import Derived.Test.YtnbhcemgoifkgaaFloJ
import Derived.Test.YtnbhcemgoifkgaaNatBt
namespace Go.Proofs.Ytnbhcemgoifkgaa
open Go.RowKit Ieee

theorem int_word {v : Nat} (h0 : 0 < v) (h1 : v ≤ 9007199254740992) : ∃ E F, floatOfInt .f64 (v : Int) = E * 4503599627370496 + F ∧ 1023 ≤ E ∧ E ≤ 2046 ∧ F < 4503599627370496 ∧ iv (E * 4503599627370496 + F) = v * 2 ^ K1074 := by
  obtain ⟨q, hq⟩ := rung_ex K1074 v (by unfold B52; omega)
  have hlt : q < INF := by
    apply iv_lt_of
    rw [hq, iv_inf]
    have h2 : (2 : Nat) ^ K2046 = 2 ^ 54 * 2 ^ (K2046 - 54) := by
      rw [← Nat.pow_add]
      exact congrArg (fun x => 2 ^ x) (show K2046 = 54 + (K2046 - 54) by unfold K2046; omega)
    have h3 : (2 : Nat) ^ K1074 ≤ 2 ^ (K2046 - 54) := Nat.pow_le_pow_right (by decide) (by decide)
    have h4 := Nat.two_pow_pos K1074
    rw [h2]
    generalize (2 : Nat) ^ K1074 = P at *
    generalize (2 : Nat) ^ (K2046 - 54) = R at *
    have h5 := Nat.mul_le_mul h1 h3
    unfold B52
    omega
  have hge : 4503599627370496 ≤ q := by
    rcases Nat.lt_or_ge q 4503599627370496 with h | h
    · have h2 : iv q = q := by unfold iv mg sh B52; rw [if_pos h, if_pos h, Nat.pow_zero, Nat.mul_one]
      have h3 : (2 : Nat) ^ 60 ≤ 2 ^ K1074 := Nat.pow_le_pow_right (by decide) (by decide)
      have h4 := Nat.mul_le_mul h0 h3
      rw [hq] at h2
      omega
    · exact h
  have e : q = q / 4503599627370496 * 4503599627370496 + q % 4503599627370496 := by omega
  refine ⟨q / 4503599627370496, q % 4503599627370496, ?_, ?_, ?_, Nat.mod_lt _ (by decide), ?_⟩
  · rw [int_float h0 hq hlt]; exact e
  · have h2 := iv_norm (E := q / 4503599627370496) (F := q % 4503599627370496) (by omega) (Nat.mod_lt _ (by decide))
    rw [← e, hq] at h2
    rcases Nat.lt_or_ge (q / 4503599627370496) 1023 with h3 | h3
    · have h4 : (2 : Nat) ^ (q / 4503599627370496 - 1) ≤ 2 ^ (K1074 - 53) := Nat.pow_le_pow_right (by decide) (by unfold K1074; omega)
      have h5 : (2 : Nat) ^ K1074 = 2 ^ 53 * 2 ^ (K1074 - 53) := by
        rw [← Nat.pow_add]
        exact congrArg (fun x => 2 ^ x) (show K1074 = 53 + (K1074 - 53) by unfold K1074; omega)
      have h6 := Nat.two_pow_pos (K1074 - 53)
      rw [h5] at h2
      generalize (2 : Nat) ^ (q / 4503599627370496 - 1) = R at *
      generalize (2 : Nat) ^ (K1074 - 53) = P at *
      have h7 : (4503599627370496 + q % 4503599627370496) * R < 2 ^ 53 * P := by
        have h8 : 4503599627370496 + q % 4503599627370496 < 2 ^ 53 := by omega
        exact Nat.lt_of_le_of_lt (Nat.mul_le_mul_left _ h4) (Nat.mul_lt_mul_of_pos_right h8 h6)
      rw [← h2] at h7
      have h9 := Nat.mul_le_mul_right (2 ^ 53 * P) h0
      omega
    · exact h3
  · unfold INF at hlt; omega
  · rw [← e]; exact hq

set_option maxHeartbeats 400000 in
theorem ldexp_int (v U : Nat) (w : World) (h1 : v ≤ 9007199254740992) (hU : U ≤ 6000) (h2 : U = 0 ∨ 4503599627370496 ≤ v) :
    Calls Try.prog 94 #[.float .f64 (floatOfInt .f64 (v : Int)), .int .i64 ((U : Int) - 1074)] w fun e w' => e = .returned (.float .f64 (min (U * 4503599627370496 + v) INF)) ∧ w = w' := by
  rcases Nat.eq_zero_or_pos v with h0 | h0
  · subst h0
    have hu : U = 0 := by omega
    subst hu
    rw [show floatOfInt .f64 ((0 : Nat) : Int) = 0 from int_float0, show min (0 * 4503599627370496 + 0) INF = 0 from by decide]
    have hz : FloatKind.f64.format.order 0 0 = some .eq := by decide
    go_enter Try.func94, Try.ntmps94
    go_wp2_with fail
    go_ret
    exact ⟨rfl, rfl⟩
  · obtain ⟨E, F, hf, hE1, hE2, hF, hiv⟩ := int_word h0 h1
    rw [hf]
    have hq : iv (U * 4503599627370496 + v) = v * 2 ^ U := rung_of (by unfold B52; omega) h2
    exact ldexp_any E F (U * 4503599627370496 + v) ((U : Int) - 1074) K1074 U w (by omega) hE2 hF rfl (by omega) (by omega) (by rw [hq, hiv, Nat.mul_right_comm])
theorem ldexp_all (v U : Nat) (w : World) (h1 : v ≤ 9007199254740992) (hU : U ≤ 6000) (h2 : U = 0 ∨ 4503599627370496 ≤ v) :
    Calls Try.prog 82 #[.float .f64 (floatOfInt .f64 (v : Int)), .int .i64 ((U : Int) - 1074)] w fun e w' => e = .returned (.float .f64 (min (U * 4503599627370496 + v) INF)) ∧ w = w' := by
  have h := Lib.hid (ldexp_int v U w h1 hU h2)
  generalize (U : Int) - 1074 = x at *
  generalize floatOfInt .f64 (v : Int) = f at *
  clear h1 hU h2
  go_enter Try.func82, Try.ntmps82
  go_wp2_with fail
  refine h.out.mono ?_; rintro e w1 ⟨rfl, rfl⟩
  go_wp2_with fail
  go_ret
  exact ⟨rfl, rfl⟩

/-- the rung nearest to X 2^e -/
def nearN (X : Nat) (e : Int) : Nat := double.nearest false X e
theorem near_zero {e : Int} : nearN 0 e = 0 := rfl
theorem near_big {X n : Nat} {e : Int} (hX : 2 ^ (n - 1) ≤ X) (hn : 1 ≤ n) (h : 1023 < (n : Int) - 1 + e) : nearN X e = INF := by
  unfold nearN
  have hpos := Nat.two_pow_pos (n - 1)
  -- the unit by the number's own length
  have hl1 : 2 ^ X.log2 ≤ X := Nat.log2_self_le (by omega)
  have hl2 : X < 2 ^ (X.log2 + 1) := Nat.lt_log2_self
  have hlog : n - 1 ≤ X.log2 := by
    have : n - 1 < X.log2 + 1 := two_pow_lt (Nat.lt_of_le_of_lt hX hl2)
    omega
  obtain ⟨t, ht⟩ : ∃ t : Nat, e + (X.log2 : Int) + 1074 - 52 = (t : Int) := ⟨(e + (X.log2 : Int) + 1074 - 52).toNat, by omega⟩
  obtain ⟨a, b, hab, ha⟩ : ∃ a b : Nat, e + 1074 = (a : Int) - (b : Int) ∧ (a = 0 ∨ b = 0) := ⟨(e + 1074).toNat, (-(e + 1074)).toNat, by omega, by omega⟩
  have hu : Unit (X * 2 ^ a) (2 ^ b) t := by
    refine ⟨Nat.two_pow_pos _, ?_, .inr ?_⟩
    · rw [← Nat.pow_add]
      have e1 : b + (t + 53) = X.log2 + 1 + a := by omega
      rw [e1, Nat.pow_add]
      exact Nat.mul_lt_mul_of_pos_right hl2 (Nat.two_pow_pos _)
    · rw [← Nat.pow_add]
      have e1 : b + (t + 52) = X.log2 + a := by omega
      rw [e1, Nat.pow_add]
      exact Nat.mul_le_mul_right _ hl1
  rw [nearest_of (a := a) (b := b) false hu (by omega) hab rfl]
  have hr : B52 ≤ rne (X * 2 ^ a) (2 ^ b * 2 ^ t) := by
    unfold rne
    have h5 : B52 ≤ X * 2 ^ a / (2 ^ b * 2 ^ t) := by
      rw [Nat.le_div_iff_mul_le (Nat.mul_pos (Nat.two_pow_pos _) (Nat.two_pow_pos _)), ← Nat.pow_add]
      show 2 ^ 52 * 2 ^ (b + t) ≤ _
      rw [← Nat.pow_add]
      have e1 : 52 + (b + t) = X.log2 + a := by omega
      rw [e1, Nat.pow_add]
      exact Nat.mul_le_mul_right _ hl1
    omega
  have : INF ≤ t * B52 + rne (X * 2 ^ a) (2 ^ b * 2 ^ t) := by unfold INF; unfold B52 at *; omega
  rw [Nat.min_eq_right this]
  exact word_pos _
theorem near_small {X n : Nat} {e : Int} (hX : X < 2 ^ n) (h0 : 0 < X) (h : (n : Int) - 1 + e < -1076) : nearN X e = 0 := by
  unfold nearN
  obtain ⟨b, hb⟩ : ∃ b : Nat, e + 1074 = -(b : Int) := ⟨(-(e + 1074)).toNat, by omega⟩
  have h2 : X * 4 ≤ 2 ^ b := by
    have h3 : (2 : Nat) ^ (n + 2) ≤ 2 ^ b := Nat.pow_le_pow_right (by decide) (by omega)
    rw [Nat.pow_add] at h3
    omega
  have hu : Unit X (2 ^ b) 0 := by
    refine ⟨Nat.two_pow_pos _, ?_, .inl rfl⟩
    have h3 := Nat.two_pow_pos b
    have h4 : 1 ≤ 2 ^ (0 + 53) := by decide
    have h5 := Nat.mul_le_mul_left (2 ^ b) h4
    omega
  rw [nearest_of (a := 0) (b := b) false hu h0 (by omega) (by rw [Nat.pow_zero, Nat.mul_one])]
  have hr : rne X (2 ^ b * 2 ^ 0) = 0 := by
    rw [Nat.pow_zero, Nat.mul_one]
    unfold rne
    rw [Nat.div_eq_of_lt (by omega), Nat.mod_eq_of_lt (by omega)]
    have h3 : decide (2 ^ b < 2 * X) = false := by simp; omega
    have h4 : decide (2 ^ b = 2 * X) = false := by simp; omega
    rw [h3, h4]
    rfl
  rw [hr]
  exact word_pos _
/-- the rounding by cutting bits off -/
theorem near_cut {X n U c : Nat} {e : Int} (hX : X < 2 ^ n) (h0 : 0 < X) (hc : e + 1074 = (U : Int) - (c : Int)) (hn : n ≤ c + 53) (hlo : U = 0 ∨ 2 ^ (c + 52) ≤ X) :
    nearN X e = min (U * B52 + rne X (2 ^ c)) INF := by
  unfold nearN
  have hu : Unit (X * 2 ^ U) (2 ^ c) U := by
    refine ⟨Nat.two_pow_pos _, ?_, ?_⟩
    · rw [Nat.add_comm U, Nat.pow_add 2 53, ← Nat.mul_assoc, ← Nat.pow_add]
      exact Nat.mul_lt_mul_of_pos_right (Nat.lt_of_lt_of_le hX (Nat.pow_le_pow_right (by decide) hn)) (Nat.two_pow_pos _)
    · rcases hlo with h | h
      · exact .inl h
      · right
        rw [Nat.add_comm U, Nat.pow_add 2 52, ← Nat.mul_assoc, ← Nat.pow_add]
        exact Nat.mul_le_mul_right _ h
  rw [nearest_of (a := U) (b := c) false hu h0 hc rfl, rne_scale (Nat.two_pow_pos U)]
  exact word_pos _
/-- the same with bits added -/
theorem near_add {X n U c : Nat} {e : Int} (hX : X < 2 ^ n) (h0 : 0 < X) (hc : e + 1074 = (U : Int) + (c : Int)) (hn : n + c ≤ 53) (hlo : U = 0 ∨ 2 ^ 52 ≤ X * 2 ^ c) :
    nearN X e = min (U * B52 + X * 2 ^ c) INF := by
  have hv : X * 2 ^ c < 2 ^ 53 := by
    have h1 : X * 2 ^ c < 2 ^ n * 2 ^ c := Nat.mul_lt_mul_of_pos_right hX (Nat.two_pow_pos _)
    rw [← Nat.pow_add] at h1
    exact Nat.lt_of_lt_of_le h1 (Nat.pow_le_pow_right (by decide) hn)
  have hq : iv (U * B52 + X * 2 ^ c) = X * 2 ^ c * 2 ^ U := rung_of (by unfold B52; omega) hlo
  unfold nearN
  rw [nearest_iv (q := U * B52 + X * 2 ^ c) (a := U + c) (b := 0) false h0 (by omega) (by rw [hq, Nat.pow_zero, Nat.mul_one, Nat.mul_assoc, ← Nat.pow_add, Nat.add_comm U])]
  exact word_pos _
end Go.Proofs.Ytnbhcemgoifkgaa
