/- Contract of package bushelref03's Split. Conditions: a word below 2^64. -/
import Derived.Test.YtdbkgpakpadloaaMFloB
import Derived.Test.YtdbkgpakpadloaaMRef02
import Derived.Test.YtdbkgpakpadloaaMRat1
import Derived.Test.YtdbkgpakpadloaaMReg
import Derived.IntWalk
namespace Go.Proofs.Ytdbkgpakpadloaa
open Go.RowKit Ieee

abbrev R53 : Nat := 4845873199050653696
theorem iv_up (t : Nat) : iv ((t + 1) * B52 + B52) = 2 * B52 * 2 ^ t := by
  have h := rung_of (m := B52) (t := t + 1) (by decide) (.inr (Nat.le_refl _))
  rw [h, Nat.pow_succ]
  generalize (2 : Nat) ^ t = P
  unfold B52
  omega
theorem r53_eq : R53 = (K1074 + 1) * B52 + B52 := by unfold K1074 B52 R53; omega
theorem iv_r53 : iv R53 = 2 * B52 * 2 ^ K1074 := (congrArg iv r53_eq).trans (iv_up K1074)
theorem half_rung {r : Nat} (h : 2 * B52 ≤ r) : iv r = 2 * iv (r - B52) := by
  unfold iv mg sh B52 at *
  rw [if_neg (by omega), if_neg (by omega), if_neg (by omega), if_neg (by omega)]
  have e1 : (r - 4503599627370496) % 4503599627370496 = r % 4503599627370496 := by omega
  have e2 : r / 4503599627370496 - 1 = ((r - 4503599627370496) / 4503599627370496 - 1) + 1 := by omega
  rw [e1, e2, Nat.pow_succ]
  generalize (2 : Nat) ^ ((r - 4503599627370496) / 4503599627370496 - 1) = P
  rw [Nat.mul_comm P 2, ← Nat.mul_assoc, Nat.mul_comm _ 2, Nat.mul_assoc]
theorem twice_rung (r : Nat) : ∃ q, iv q = 2 * iv r ∧ q ≤ r + B52 := by
  rcases Nat.lt_or_ge r B52 with h | h
  · refine ⟨2 * r, ?_, by omega⟩
    have h1 := rung_of (m := 2 * r) (t := 0) (by omega) (.inl rfl)
    rw [Nat.zero_mul, Nat.zero_add, Nat.pow_zero, Nat.mul_one] at h1
    have h2 : iv r = r := by unfold iv mg sh; rw [if_pos h, if_pos h, Nat.pow_zero, Nat.mul_one]
    rw [h1, h2]
  · exact ⟨r + B52, by rw [half_rung (r := r + B52) (by omega), Nat.add_sub_cancel], Nat.le_refl _⟩
theorem order_pos {r c : Nat} (hr : r ≤ INF) (hc : c ≤ INF) : FloatKind.f64.format.order r c = some (compare (r : Int) (c : Int)) := by
  show double.order r c = _
  have h1 : r % S63 = r := Nat.mod_eq_of_lt (by unfold S63; unfold INF at hr; omega)
  have h2 : c % S63 = c := Nat.mod_eq_of_lt (by unfold S63; unfold INF at hc; omega)
  rw [order_num (by unfold INF at hr; omega) (by unfold INF at hc; omega) (by rw [h1]; exact hr) (by rw [h2]; exact hc)]
  unfold sk sg
  rw [h1, h2, if_neg (by unfold S63; unfold INF at hr; simp; omega), if_neg (by unfold S63; unfold INF at hc; simp; omega)]
/-- a number below 2^53 and its whole part -/
theorem whole_part {r u : Nat} (h : r < R53) (hu : iv r / 2 ^ K1074 = u) : u < 9007199254740992 ∧ ∃ q, floatOfInt .f64 (u : Int) = q ∧ q ≤ r ∧ (q = r ↔ iv r = u * 2 ^ K1074) := by
  have h1 : iv r < 2 * B52 * 2 ^ K1074 := by rw [← iv_r53]; exact iv_lt h
  have hub : u < 9007199254740992 := by
    have h2 := (Nat.div_lt_iff_lt_mul (Nat.two_pow_pos K1074)).2 h1
    rw [hu] at h2
    exact h2
  have hle : u * 2 ^ K1074 ≤ iv r := by rw [← hu]; exact Nat.div_mul_le_self _ _
  refine ⟨hub, ?_⟩
  rcases Nat.eq_zero_or_pos u with h0 | h0
  · refine ⟨0, by rw [h0]; exact int_float0, Nat.zero_le _, ?_⟩
    rw [h0, Nat.zero_mul]
    constructor
    · intro e; rw [← e]; exact iv_zero
    · intro e
      rcases Nat.eq_zero_or_pos r with h2 | h2
      · exact h2.symm
      · have := iv_pos h2; omega
  · obtain ⟨q, hq⟩ := rung_ex K1074 u (by unfold B52; omega)
    have hqr : q ≤ r := iv_le_of (by rw [hq]; exact hle)
    refine ⟨q, int_float h0 hq (by unfold INF; unfold R53 at h; omega), hqr, ?_⟩
    rw [← hq]
    exact ⟨fun e => by rw [e], fun e => (iv_inj e).symm⟩
theorem odd_fin {N M n p : Nat} (h : M * 2 ^ (K1074 + p) = N * 2 ^ n) (ho : M % 2 = 1) : ∃ k : Nat, (k : Int) = 1074 + (p : Int) - (n : Int) ∧ OddOf N M k := by
  have hle : n ≤ K1074 + p := by
    rcases Nat.lt_or_ge (K1074 + p) n with h1 | h1
    · exfalso
      obtain ⟨d, rfl⟩ : ∃ d, n = K1074 + p + 1 + d := ⟨n - (K1074 + p) - 1, by omega⟩
      have e : M = N * 2 ^ d * 2 := by
        apply Nat.eq_of_mul_eq_mul_right (Nat.two_pow_pos (K1074 + p))
        rw [h, Nat.pow_add 2 (K1074 + p + 1), Nat.pow_succ]
        generalize (2 : Nat) ^ (K1074 + p) = P
        ac_rfl
      omega
    · exact h1
  refine ⟨K1074 + p - n, by unfold K1074 at *; omega, ?_, ho⟩
  apply Nat.eq_of_mul_eq_mul_right (Nat.two_pow_pos n)
  rw [← h, Nat.mul_assoc, ← Nat.pow_add, Nat.sub_add_cancel hle]
theorem div_two_pos {r : Nat} (h : 2 * B52 ≤ r) (hI : r < INF) : floatBits .quo .f64 r 4611686018427387904 = some (r - B52) := by
  have hm : r % S63 = r := Nat.mod_eq_of_lt (by unfold S63; unfold INF at hI; omega)
  have h1 := div_two (b := r) (q := r - B52) (by unfold INF at hI; omega) (by rw [hm]; exact hI) (by rw [hm]; unfold B52 at h; omega) (by rw [hm]; exact half_rung h) (by omega)
  rw [h1, show r / S63 = 0 from Nat.div_eq_of_lt (by unfold S63; unfold INF at hI; omega), Nat.zero_mul, Nat.zero_add]
theorem mul_two_pos {r q : Nat} (h0 : 0 < r) (hI : r < INF) (hq : iv q = 2 * iv r) (hqi : q < INF) : floatBits .mul .f64 r 4611686018427387904 = some q := by
  have hm : r % S63 = r := Nat.mod_eq_of_lt (by unfold S63; unfold INF at hI; omega)
  have h1 := mul_two (b := r) (q := q) (by unfold INF at hI; omega) (by rw [hm]; exact hI) (by rw [hm]; exact h0) (by rw [hm]; exact hq)
  rw [h1, show r / S63 = 0 from Nat.div_eq_of_lt (by unfold S63; unfold INF at hI; omega), Nat.zero_mul, Nat.zero_add, Nat.min_eq_left (by omega)]
theorem non_int {q u : Nat} (hu : iv q / 2 ^ K1074 = u) (h : ¬ iv q = u * 2 ^ K1074) : 2 * iv q < iv R53 := by
  rw [iv_r53]
  rcases Nat.lt_or_ge (sh q) K1074 with h1 | h1
  · have h2 : (2 : Nat) ^ (sh q + 1) ≤ 2 ^ K1074 := Nat.pow_le_pow_right (by decide) (by omega)
    rw [Nat.pow_succ] at h2
    have h3 := mg_lt q
    have h4 := Nat.two_pow_pos (sh q)
    unfold iv
    generalize (2 : Nat) ^ K1074 = P at *
    generalize (2 : Nat) ^ sh q = R at *
    have h5 : mg q * R < 2 * B52 * R := Nat.mul_lt_mul_of_pos_right h3 h4
    have h6 : B52 * (R * 2) ≤ B52 * P := Nat.mul_le_mul_left _ h2
    have e1 : 2 * B52 * R = B52 * (R * 2) := by rw [Nat.mul_comm 2, Nat.mul_assoc, Nat.mul_comm 2]
    have e2 : 2 * B52 * P = 2 * (B52 * P) := Nat.mul_assoc _ _ _
    rw [e2]
    omega
  · exfalso
    apply h
    rw [← hu]
    have e : iv q = mg q * 2 ^ (sh q - K1074) * 2 ^ K1074 := by
      unfold iv
      rw [Nat.mul_assoc, ← Nat.pow_add, Nat.sub_add_cancel h1]
    rw [e, Nat.mul_div_cancel _ (Nat.two_pow_pos _)]
theorem int_of_dvd {q : Nat} (h : 2 ^ K1074 ∣ iv q * 2 ^ 0) : iv q = iv q / 2 ^ K1074 * 2 ^ K1074 := by
  rw [Nat.pow_zero, Nat.mul_one] at h
  exact (Nat.div_mul_cancel h).symm
def RSplitB (b : Nat) (w : World) (e : Ending) (w' : World) : Prop := ∃ neg m x, e = .returned (.tuple #[.bool neg, .int .u64 m, .int .i64 x]) ∧ SplitOut b neg m x ∧ Below w.heap.size w w'

end Go.Proofs.Ytdbkgpakpadloaa
/- Contract of package bushelref03's times. Conditions: a number below the infinity without a minus; a halving that loses nothing; at most 5000 steps. -/
namespace Go.Proofs.Ytdbkgpakpadloaa
open Go.RowKit Ieee

theorem scale_rung (q : Nat) : ∀ j : Nat, ∃ x, iv x = iv q * 2 ^ j
  | 0 => ⟨q, by rw [Nat.pow_zero, Nat.mul_one]⟩
  | j + 1 => by
    obtain ⟨x, hx⟩ := scale_rung q j
    obtain ⟨y, hy, -⟩ := twice_rung x
    exact ⟨y, by rw [hy, hx, Nat.pow_succ, Nat.mul_comm (2 ^ j) 2, ← Nat.mul_assoc, Nat.mul_comm 2, Nat.mul_assoc]⟩
theorem iv_eq0 {q : Nat} (h : iv q = 0) : q = 0 := by
  rcases Nat.eq_zero_or_pos q with h1 | h1
  · exact h1
  · have := iv_pos h1; omega

end Go.Proofs.Ytdbkgpakpadloaa
/- Contract of package bushelref03's below. Conditions: the number that is multiplied fits; at most 100000 places apart. -/
namespace Go.Proofs.Ytdbkgpakpadloaa
open Go.RowKit Ieee

end Go.Proofs.Ytdbkgpakpadloaa
/- Contracts of package bushelref03's below and times, as its Nearest calls them. Conditions: numbers that fit, powers from -9000 to 3000; a whole number of at most 2^53. -/
namespace Go.Proofs.Ytdbkgpakpadloaa
open Go.RowKit Ieee

theorem nat_cast_pow (Q g : Nat) : ((Q * 2 ^ g : Nat) : Int) = (Q : Int) * 2 ^ g := by
  rw [Int.natCast_mul, Int.natCast_pow]; rfl

end Go.Proofs.Ytdbkgpakpadloaa
/- Contract of package bushelref03's Nearest. Conditions: both numbers are above 0 and below 2^30000; the power is from -9000 to 3000. -/
namespace Go.Proofs.Ytdbkgpakpadloaa
open Go.RowKit Ieee

def RNear (N D : Nat) (w : World) (e : Ending) (w' : World) : Prop := ∃ z, e = .returned (.float .f64 z) ∧ IsNear N D z ∧ Below w.heap.size w w'
def SearchAt (N D : Nat) (L H : Int) : Prop := (L = -1074 ∨ D * 2 ^ ((L + 1074).toNat + 52) ≤ N) ∧ (H = 1024 ∨ N < D * 2 ^ ((H + 1074).toNat + 53))
theorem search_dn {N D tm : Nat} {L H M : Int} (h : SearchAt N D L H) (hM : M + 1074 = (tm : Int)) (hb : N < D * 2 ^ (tm + 53)) : SearchAt N D L M :=
  ⟨h.1, .inr (by rw [show (M + 1074).toNat = tm from by omega]; exact hb)⟩
theorem search_up {N D tm : Nat} {L H M : Int} (h : SearchAt N D L H) (hM : M + 1074 = (tm : Int)) (hb : ¬ N < D * 2 ^ (tm + 53)) : SearchAt N D (M + 1) H :=
  ⟨.inr (by rw [show (M + 1 + 1074).toNat + 52 = tm + 53 from by omega]; omega), h.2⟩
theorem search_end {N D t : Nat} {L : Int} (hu : Unit N D t) (ht : t ≤ 2045) (h : SearchAt N D L L) (h0 : -1074 ≤ L) : L = (t : Int) - 1074 := by
  have h1 : N < D * 2 ^ ((L + 1074).toNat + 53) := by
    rcases h.2 with h2 | h2
    · refine Nat.lt_of_lt_of_le hu.hi (Nat.mul_le_mul_left _ (Nat.pow_le_pow_right (by decide) (by omega)))
    · exact h2
  have h3 : Unit N D (L + 1074).toNat := ⟨hu.hD, h1, by
    rcases h.1 with h2 | h2
    · exact .inl (by omega)
    · exact .inr h2⟩
  have := hu.one h3
  omega
theorem search_inf {N D k : Nat} {L : Int} (hk : 2098 ≤ k) (hb : D * 2 ^ k ≤ N) (h : SearchAt N D L L) (h0 : -1074 ≤ L) : 971 < L := by
  rcases h.2 with h2 | h2
  · omega
  · have := two_pow_lt (Nat.lt_of_mul_lt_mul_left (Nat.lt_of_le_of_lt hb h2))
    omega
theorem fit_nat {P K : Nat} (hP : P < 2 ^ K) (hK : K ≤ 900000) : Fit (P : Int) := Fit.of_pow2 (k := K) (by rw [Int.natAbs_natCast]; exact hP) (by omega)
theorem fit_divn {P Q K : Nat} (hP : P < 2 ^ K) (hQ : Q < 2 ^ K) (hK : K ≤ 800000) : Fit ((((P : Int)).natAbs : Int) + 1000 * (((Q : Int)).natAbs : Int) + 1000) := by
  rw [Int.natAbs_natCast, Int.natAbs_natCast]
  have h := fit_nat (P := P + 1000 * Q + 1000) (K := K + 11) (by rw [Nat.pow_add]; omega) (by omega)
  rw [show ((P + 1000 * Q + 1000 : Nat) : Int) = (P : Int) + 1000 * (Q : Int) + 1000 from by omega] at h
  exact h
theorem pow_mul_lt {P K g G : Nat} (hP : P < 2 ^ K) (hg : g ≤ G) : P * 2 ^ g < 2 ^ (K + G) := by
  rw [Nat.pow_add]
  exact Nat.lt_of_lt_of_le (Nat.mul_lt_mul_of_pos_right hP (Nat.two_pow_pos g)) (Nat.mul_le_mul_left _ (Nat.pow_le_pow_right (by decide) hg))
theorem pow_le_two {P K G : Nat} (hP : P < 2 ^ K) : P < 2 ^ (K + G) := Nat.lt_of_lt_of_le hP (Nat.pow_le_pow_right (by decide) (by omega))
/-- the rounding, by cases -/
theorem rne_cases (P Q : Nat) : ∃ r : Int, cmpZ ((P % Q : Nat) + (P % Q : Nat) : Int) Q = r ∧
    ((decide (0 < r) = true ∧ rne P Q = P / Q + 1) ∨ (decide (0 < r) = false ∧ (r == 0) = true ∧ P / Q % 2 = 1 ∧ rne P Q = P / Q + 1) ∨ (decide (0 < r) = false ∧ (r == 0) = true ∧ P / Q % 2 = 0 ∧ rne P Q = P / Q) ∨ (decide (0 < r) = false ∧ (r == 0) = false ∧ rne P Q = P / Q)) := by
  refine ⟨_, rfl, ?_⟩
  unfold rne
  rcases Nat.lt_trichotomy Q (2 * (P % Q)) with h | h | h
  · left
    rw [cmpZ_gt (by omega), decide_eq_true h]
    exact ⟨rfl, rfl⟩
  · rw [cmpZ_eq (by omega), show decide (Q < 2 * (P % Q)) = false from by simp; omega, decide_eq_true h]
    rcases Nat.mod_two_eq_zero_or_one (P / Q) with h1 | h1
    · right; right; left
      exact ⟨rfl, rfl, h1, by rw [show decide (P / Q % 2 = 1) = false from by simp; omega]; rfl⟩
    · right; left
      exact ⟨rfl, rfl, h1, by rw [decide_eq_true h1]; rfl⟩
  · right; right; right
    rw [cmpZ_lt (by omega), show decide (Q < 2 * (P % Q)) = false from by simp; omega, show decide (Q = 2 * (P % Q)) = false from by simp; omega]
    exact ⟨rfl, rfl, rfl⟩

end Go.Proofs.Ytdbkgpakpadloaa
/- Contracts of package bushelref03's Nearest and Join. Conditions: the numbers are below 2^30000 (Nearest), 2^7000 (Join). -/
namespace Go.Proofs.Ytdbkgpakpadloaa
open Go.RowKit Ieee

theorem NumC.len0 {w : World} {neg : Bool} {a : Option Addr} {n c : Nat} (h : NumC w neg a n c 0) : n = 0 := by
  obtain ⟨xs, hr, hd, ht, hz, hg⟩ := h
  have hp := V_pos (B := 1000) (by decide) hd ht
  have h0 : ¬ 0 < V 1000 xs := by
    intro h1; cases neg <;> simp at hz <;> omega
  have e : xs = [] := Decidable.byContradiction fun h => h0 (hp.2 h)
  subst e; exact hr.1.symm
theorem NumC.lenp {w : World} {neg : Bool} {a : Option Addr} {n c : Nat} {z : Int} (h : NumC w neg a n c z) (hz : z ≠ 0) : 0 < n := by
  obtain ⟨xs, hr, hd, ht, he, hg⟩ := h
  rcases Nat.eq_zero_or_pos n with e | e
  · subst e
    have : xs = [] := List.eq_nil_of_length_eq_zero hr.1
    subst this
    rw [V_nil] at he
    cases neg <;> simp at he <;> omega
  · exact e
theorem sign_near (neg : Bool) {X r : Nat} {e : Int} (h : nearN X e = r) : (if neg then flipS r else r) = joinN neg X e := by
  have hl := near_le X e
  rw [h] at hl
  unfold joinN flipS
  rw [h]
  cases neg
  · rfl
  · rw [if_pos rfl, if_pos rfl, if_pos (by unfold INF at hl; unfold S63; omega)]
    omega
theorem join_lt (neg : Bool) (X : Nat) (e : Int) : joinN neg X e < 18446744073709551616 := by
  have hl := near_le X e
  unfold joinN
  unfold INF at hl
  unfold S63
  split <;> omega

end Go.Proofs.Ytdbkgpakpadloaa
