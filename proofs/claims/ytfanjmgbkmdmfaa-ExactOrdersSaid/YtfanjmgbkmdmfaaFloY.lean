/- Contracts of package bushelref03's Nearest and Join. Conditions: the numbers are below 2^30000 (Nearest), 2^7000 (Join). -/
import Derived.Test.YtfanjmgbkmdmfaaFloX
namespace Go.Proofs.Ytfanjmgbkmdmfaa
open Go.RowKit Ieee

theorem NumC.len0 {w : World} {neg : Bool} {a : Option Addr} {n c : Nat} (h : NumC w neg a n c 0) : n = 0 := by
  obtain ⟨xs, hr, hd, ht, hz, hg⟩ := h
  have hp := V_pos (B := 1000) (by decide) hd ht
  have h0 : ¬ 0 < V 1000 xs := by
    intro h1; cases neg <;> simp at hz <;> omega
  have e : xs = [] := Decidable.byContradiction fun h => h0 (hp.2 h)
  subst e; exact hr.1.symm
theorem NumC.lenp {w : World} {neg : Bool} {a : Option Addr} {n c : Nat} {z : Int} (h : NumC w neg a n c z) (hz : z ≠ 0) : 0 < n := by
  obtain ⟨xs, hr, hd, ht, he, hg⟩ := h
  rcases Nat.eq_zero_or_pos n with e | e
  · subst e
    have : xs = [] := List.eq_nil_of_length_eq_zero hr.1
    subst this
    rw [V_nil] at he
    cases neg <;> simp at he <;> omega
  · exact e
theorem rnearest_any (na nb : Bool) (a b : Option Addr) (n c m d P Q K : Nat) (e : Int) (A B : Nat) (w : World) (hx : NumC w na a n c (P : Int)) (hy : NumC w nb b m d (Q : Int)) (hP : P < 2 ^ K) (hQ : Q < 2 ^ K) (hK : K ≤ 30000) (hQ0 : 0 < Q)
    (hA : e + 1074 = (A : Int) - (B : Int)) (he1 : -9000 ≤ e) (he2 : e ≤ 3000) :
    Calls Try.prog 83 #[.agg #[.bool na, .slice a n c], .agg #[.bool nb, .slice b m d], .int .i64 e] w (RNear (P * 2 ^ A) (Q * 2 ^ B) w) := by
  have hD0 : 0 < Q * 2 ^ B := Nat.mul_pos hQ0 (Nat.two_pow_pos B)
  obtain ⟨t, ht⟩ := unit_exist (P * 2 ^ A) hD0
  rcases Nat.lt_or_ge 2045 t with h | h
  · refine rnear_inf na nb a b n c m d P Q K e A B (t + 52) w hx hy hP hQ hK hQ0 hA he1 he2 (by omega) ?_
    rcases ht.lo with h1 | h1
    · omega
    · exact h1
  · rcases Int.lt_or_le e ((t : Int) - 1074) with h2 | h2
    · obtain ⟨g, hg⟩ : ∃ g : Nat, (t : Int) - 1074 = e + (g : Int) := ⟨((t : Int) - 1074 - e).toNat, by omega⟩
      have hr2 : P * (Q * 2 ^ B * 2 ^ t) = P * 2 ^ A * (Q * 2 ^ g) := by
        have e1 : B + t = A + g := by omega
        have e2 : P * (Q * 2 ^ B * 2 ^ t) = P * Q * 2 ^ (B + t) := by rw [Nat.pow_add]; ac_rfl
        have e3 : P * 2 ^ A * (Q * 2 ^ g) = P * Q * 2 ^ (A + g) := by rw [Nat.pow_add]; ac_rfl
        rw [e2, e3, e1]
      have hQB : 0 < Q * 2 ^ g := Nat.mul_pos hQ0 (Nat.two_pow_pos g)
      have hrne : rne P (Q * 2 ^ g) = rne (P * 2 ^ A) (Q * 2 ^ B * 2 ^ t) := rne_ratio hQB (Nat.mul_pos hD0 (Nat.two_pow_pos t)) hr2
      have hR1 := ht.rne_le
      rw [← hrne] at hR1
      have hR2 : t = 0 ∨ B52 ≤ rne P (Q * 2 ^ g) := by
        rcases Nat.eq_zero_or_pos t with h | h
        · exact .inl h
        · right; rw [hrne]; exact ht.rne_ge (by omega)
      have hgG : g ≤ 20000 := by omega
      have FP2 : P < 2 ^ (K + 20000) := pow_le_two hP
      have FQ2 : Q * 2 ^ g < 2 ^ (K + 20000) := pow_mul_lt hQ hgG
      obtain ⟨r, hr, hcs⟩ := rne_cases P (Q * 2 ^ g)
      refine rnear_lo0 na nb a b n c m d P Q K e A B t g (Q * 2 ^ g) (P / (Q * 2 ^ g)) (P % (Q * 2 ^ g)) (rne P (Q * 2 ^ g)) (Q * 2 ^ B) (P * 2 ^ A) w hx hy hP hQ hK hA he1 he2 hg (by omega) hgG r h rfl rfl ht (nat_cast_pow Q g)
        ⟨by rw [Int.fdiv_eq_ediv_of_nonneg _ (Int.natCast_nonneg _)]; rfl, by rw [Int.fmod_eq_emod_of_nonneg _ (Int.natCast_nonneg _)]; rfl⟩ (by omega) (fit_divn FP2 FQ2 (by omega)) (fit_nat (Nat.lt_of_lt_of_le (Nat.mod_lt _ hQB) (Nat.le_of_lt FQ2)) (by omega)) hr hcs ?_ hR1 hR2 ⟨t, ht, by rw [hrne]⟩
      refine Nat.le_trans ?_ hR1
      unfold rne
      omega
    · obtain ⟨g, hg⟩ : ∃ g : Nat, e = (t : Int) - 1074 + (g : Int) := ⟨(e - ((t : Int) - 1074)).toNat, by omega⟩
      have hr2 : P * 2 ^ g * (Q * 2 ^ B * 2 ^ t) = P * 2 ^ A * Q := by
        have e1 : g + B + t = A := by omega
        rw [← e1, Nat.pow_add, Nat.pow_add]
        ac_rfl
      have hrne : rne (P * 2 ^ g) Q = rne (P * 2 ^ A) (Q * 2 ^ B * 2 ^ t) := rne_ratio hQ0 (Nat.mul_pos hD0 (Nat.two_pow_pos t)) hr2
      have hR1 := ht.rne_le
      rw [← hrne] at hR1
      have hR2 : t = 0 ∨ B52 ≤ rne (P * 2 ^ g) Q := by
        rcases Nat.eq_zero_or_pos t with h | h
        · exact .inl h
        · right; rw [hrne]; exact ht.rne_ge (by omega)
      have hgG : g ≤ 20000 := by omega
      have FP2 : P * 2 ^ g < 2 ^ (K + 20000) := pow_mul_lt hP hgG
      have FQ2 : Q < 2 ^ (K + 20000) := pow_le_two hQ
      obtain ⟨r, hr, hcs⟩ := rne_cases (P * 2 ^ g) Q
      refine rnear_hi0 na nb a b n c m d P Q K e A B t g (P * 2 ^ g) (P * 2 ^ g / Q) (P * 2 ^ g % Q) (rne (P * 2 ^ g) Q) (Q * 2 ^ B) (P * 2 ^ A) w hx hy hP hQ hK hA he1 he2 hg hgG r h rfl rfl ht (nat_cast_pow P g)
        ⟨by rw [Int.fdiv_eq_ediv_of_nonneg _ (Int.natCast_nonneg _)]; rfl, by rw [Int.fmod_eq_emod_of_nonneg _ (Int.natCast_nonneg _)]; rfl⟩ (by omega) (fit_divn FP2 FQ2 (by omega)) (fit_nat (Nat.lt_of_lt_of_le (Nat.mod_lt _ hQ0) (Nat.le_of_lt FQ2)) (by omega)) hr hcs ?_ hR1 hR2 ⟨t, ht, by rw [hrne]⟩
      refine Nat.le_trans ?_ hR1
      unfold rne
      omega

theorem sign_near (neg : Bool) {X r : Nat} {e : Int} (h : nearN X e = r) : (if neg then flipS r else r) = joinN neg X e := by
  have hl := near_le X e
  rw [h] at hl
  unfold joinN flipS
  rw [h]
  cases neg
  · rfl
  · rw [if_pos rfl, if_pos rfl, if_pos (by unfold INF at hl; unfold S63; omega)]
    omega
theorem rsign_near (neg : Bool) (X : Nat) (e : Int) (r : Nat) (w : World) (h : nearN X e = r) :
    Calls Try.prog 80 #[.bool neg, .float .f64 r] w fun x w' => x = .returned (.float .f64 (joinN neg X e)) ∧ w = w' := by
  have hl := near_le X e
  rw [h] at hl
  have := rsign_any neg r w (by unfold INF at hl; omega)
  rw [sign_near neg h] at this
  exact this
theorem join_lt (neg : Bool) (X : Nat) (e : Int) : joinN neg X e < 18446744073709551616 := by
  have hl := near_le X e
  unfold joinN
  unfold INF at hl
  unfold S63
  split <;> omega

set_option maxHeartbeats 2000000 in
theorem rjoin_nul (neg na : Bool) (a : Option Addr) (n c : Nat) (e : Int) (w : World) (hx : NumC w na a n c 0) :
    Calls Try.prog 60 #[.bool neg, .agg #[.bool na, .slice a n c], .int .i64 e] w (RJoin (joinN neg 0 e) w) := by
  obtain rfl := hx.len0
  have HS := Lib.hid (fun w => rsign_near neg 0 e 0 w near_zero)
  obtain ⟨hk0, hbw⟩ := one_box w 30 #[.bool na, .slice a 0 c]
  have HB := Lib.hid hbw
  clear hx
  go_enter Try.func60, Try.ntmps60
  have x1 : (w.alloc (.cells #[.bool na, .slice a 0 c] 30)).cell? ⟨w.heap.size, 1, none⟩ = some (.slice a 0 c) := hk0.cell 1
  go_wp2_with fail
  refine (HS.out _).mono ?_; rintro z w1 ⟨rfl, rfl⟩
  go_wp2_with fail
  go_ret
  exact ⟨rfl, HB.out⟩

set_option maxHeartbeats 2000000 in
theorem rjoin_dn (neg na : Bool) (a : Option Addr) (n c X : Nat) (e : Int) (w : World) (hx : NumC w na a n c (X : Int)) (hX0 : 0 < X) (h : nearN X e = 0) (he : e < -9000) :
    Calls Try.prog 60 #[.bool neg, .agg #[.bool na, .slice a n c], .int .i64 e] w (RJoin (joinN neg X e) w) := by
  have hn := hx.lenp (by omega)
  have HS := Lib.hid (fun w => rsign_near neg X e 0 w h)
  obtain ⟨hk0, hbw⟩ := one_box w 30 #[.bool na, .slice a n c]
  have HB := Lib.hid hbw
  have t0 : ((n : Int) == 0) = false := by simp; omega
  have t1 : decide (3000 < e) = false := by simp; omega
  have t2 : decide (e < -9000) = true := by simp; omega
  clear hx h hn
  go_enter Try.func60, Try.ntmps60
  have x1 : (w.alloc (.cells #[.bool na, .slice a n c] 30)).cell? ⟨w.heap.size, 1, none⟩ = some (.slice a n c) := hk0.cell 1
  go_wp2_with fail
  refine (HS.out _).mono ?_; rintro z w1 ⟨rfl, rfl⟩
  go_wp2_with fail
  go_ret
  exact ⟨rfl, HB.out⟩

set_option maxRecDepth 100000 in
set_option maxHeartbeats 4000000 in
theorem rjoin_mid (neg na : Bool) (a : Option Addr) (n c X K : Nat) (e f : Int) (w : World) (hx : NumC w na a n c (X : Int)) (hX0 : 0 < X) (hX : X < 2 ^ K) (hK : K ≤ 29000) (h : nearN X f = nearN X e) (hf : decide (3000 < e) = true ∧ f = 3000 ∨ decide (3000 < e) = false ∧ f = e ∧ -9000 ≤ e ∧ e ≤ 3000) :
    Calls Try.prog 60 #[.bool neg, .agg #[.bool na, .slice a n c], .int .i64 e] w (RJoin (joinN neg X e) w) := by
  have hn := hx.lenp (by omega)
  obtain ⟨r, hr⟩ : ∃ r, nearN X e = r := ⟨_, rfl⟩
  rw [hr] at h
  have HS := Lib.hid (fun w => rsign_near neg X e r w hr)
  obtain ⟨hk0, hbw⟩ := one_box w 30 #[.bool na, .slice a n c]
  have HB := Lib.hid hbw
  have HX7 := Lib.hid (hx.below hbw (Nat.le_refl _))
  have t0 : ((n : Int) == 0) = false := by simp; omega
  have hf1 : -9000 ≤ f := by omega
  have hf2 : f ≤ 3000 := by omega
  have t2 : decide (f < -9000) = false := by simp; omega
  have HNE : Hid (∀ (nb : Bool) (b : Option Addr) (m d : Nat) (w : World), NumC w na a n c (X : Int) → NumC w nb b m d 1 → Calls Try.prog 83 #[.agg #[.bool na, .slice a n c], .agg #[.bool nb, .slice b m d], .int .i64 f] w fun z w' => z = .returned (.float .f64 r) ∧ Below w.heap.size w w') := Lib.hid (fun nb b m d w h1 h2 => by
    obtain ⟨A, B, hAB⟩ : ∃ A B : Nat, f + 1074 = (A : Int) - (B : Int) := ⟨(f + 1074).toNat, (-(f + 1074)).toNat, by omega⟩
    refine (rnearest_any na nb a b n c m d X 1 (K + 1) f A B w h1 h2 (pow_le_two hX) (Nat.one_lt_two_pow (by omega)) (by omega) (by decide) hAB hf1 hf2).mono ?_
    rintro z w' ⟨q, rfl, hq, hb⟩
    have hi := near_is hX0 hAB
    rw [Nat.one_mul] at hq
    rw [h] at hi
    rw [hq.one hi]
    exact ⟨rfl, hb⟩)
  clear hx h hn hX hr
  rcases hf with ⟨t1, hff⟩ | ⟨t1, hff, -, -⟩
  all_goals
    have HFF := Lib.hid hff
    clear hff
    go_enter Try.func60, Try.ntmps60
    have x0 : (w.alloc (.cells #[.bool na, .slice a n c] 30)).cell? ⟨w.heap.size, 0, none⟩ = some (.bool na) := hk0.cell 0
    have x1 : (w.alloc (.cells #[.bool na, .slice a n c] 30)).cell? ⟨w.heap.size, 1, none⟩ = some (.slice a n c) := hk0.cell 1
    have hs0 : w.heap.size < (w.alloc (.cells #[.bool na, .slice a n c] 30)).heap.size := hk0.lt
    rw [HFF.out] at HNE t2
    clear hk0
    go_upto_region 7 with fail
    generalize (w.alloc (.cells #[.bool na, .slice a n c] 30)) = w7 at *
    generalize hsz0 : w.heap.size = s at *
    have HSZ := Lib.hid hsz0
    clear hsz0
    have hbA : Below w7.heap.size w7 w7.drew := (Below.refl _ _).drew
    go_region_held3 (fun w' => w'.cell? ⟨s, 0, none⟩ = some (.bool na) ∧ w'.cell? ⟨s, 1, none⟩ = some (.slice a n c)) (go_keep)
      (first
        | (go_at_call 58; refine (nat_any 1 _ (by omega) (by omega)).mono ?_; rintro e w8 ⟨n8, p8, l8, c8, rfl, hM8, hb8, -⟩; replace hbA := hbA.trans (hb8.mono (Nat.le_trans (by simp) hbA.size)); clear hb8; (try clear bc8 bf8); obtain ⟨bc8, bf8⟩ := bcell hbA)
        | (go_at_call 83; refine (HNE.out _ _ _ _ _ (HX7.out.below hbA (Nat.le_refl _)) hM8).mono ?_; rintro e w9 ⟨rfl, hb9⟩; clear hM8; replace hbA := hbA.trans (hb9.mono (Nat.le_trans (by simp) hbA.size)); clear hb9; (try clear bc8 bf8); obtain ⟨bc8, bf8⟩ := bcell hbA)
        | (go_at_call 80; refine (HS.out _).mono ?_; rintro e w10 ⟨rfl, rfl⟩))
    all_goals
      clear bc8 bf8
      have HBE := Lib.hid (HB.out.trans (hbA.mono (by rw [← HSZ.out]; exact HB.out.size)))
      clear hbA
      go_wp2_with fail
      go_ret
      exact ⟨rfl, by rw [HSZ.out]; exact HBE.out⟩

theorem rjoin_any (neg na : Bool) (a : Option Addr) (n c X K : Nat) (e : Int) (w : World) (hx : NumC w na a n c (X : Int)) (hX : X < 2 ^ K) (hK : K ≤ 7000) :
    Calls Try.prog 60 #[.bool neg, .agg #[.bool na, .slice a n c], .int .i64 e] w (RJoin (joinN neg X e) w) := by
  rcases Nat.eq_zero_or_pos X with h | h
  · subst h; exact rjoin_nul neg na a n c e w hx
  · rcases Int.lt_or_le e (-9000) with h1 | h1
    · exact rjoin_dn neg na a n c X e w hx h (near_small hX h (by omega)) h1
    · rcases Int.lt_or_le 3000 e with h2 | h2
      · refine rjoin_mid neg na a n c X K e 3000 w hx h hX (by omega) ?_ (.inl ⟨by simpa using h2, rfl⟩)
        rw [near_big (n := 1) (e := 3000) (by rw [Nat.sub_self, Nat.pow_zero]; exact h) (by omega) (by omega), near_big (n := 1) (e := e) (by rw [Nat.sub_self, Nat.pow_zero]; exact h) (by omega) (by omega)]
      · exact rjoin_mid neg na a n c X K e e w hx h hX (by omega) rfl (.inr ⟨by simpa using h2, rfl, h1, h2⟩)
end Go.Proofs.Ytfanjmgbkmdmfaa
