/- Contract of package bushelref03's Nearest. Conditions: both numbers are above 0 and below 2^30000; the power is from -9000 to 3000. -/
import Derived.Test.YtfanjmgbkmdmfaaFloW
import Derived.Test.YtfanjmgbkmdmfaaRegL
import Derived.IntWalk
namespace Go.Proofs.Ytfanjmgbkmdmfaa
open Go.RowKit Ieee

def RNear (N D : Nat) (w : World) (e : Ending) (w' : World) : Prop := ∃ z, e = .returned (.float .f64 z) ∧ IsNear N D z ∧ Below w.heap.size w w'
def SearchAt (N D : Nat) (L H : Int) : Prop := (L = -1074 ∨ D * 2 ^ ((L + 1074).toNat + 52) ≤ N) ∧ (H = 1024 ∨ N < D * 2 ^ ((H + 1074).toNat + 53))
theorem search_dn {N D tm : Nat} {L H M : Int} (h : SearchAt N D L H) (hM : M + 1074 = (tm : Int)) (hb : N < D * 2 ^ (tm + 53)) : SearchAt N D L M :=
  ⟨h.1, .inr (by rw [show (M + 1074).toNat = tm from by omega]; exact hb)⟩
theorem search_up {N D tm : Nat} {L H M : Int} (h : SearchAt N D L H) (hM : M + 1074 = (tm : Int)) (hb : ¬ N < D * 2 ^ (tm + 53)) : SearchAt N D (M + 1) H :=
  ⟨.inr (by rw [show (M + 1 + 1074).toNat + 52 = tm + 53 from by omega]; omega), h.2⟩
theorem search_end {N D t : Nat} {L : Int} (hu : Unit N D t) (ht : t ≤ 2045) (h : SearchAt N D L L) (h0 : -1074 ≤ L) : L = (t : Int) - 1074 := by
  have h1 : N < D * 2 ^ ((L + 1074).toNat + 53) := by
    rcases h.2 with h2 | h2
    · refine Nat.lt_of_lt_of_le hu.hi (Nat.mul_le_mul_left _ (Nat.pow_le_pow_right (by decide) (by omega)))
    · exact h2
  have h3 : Unit N D (L + 1074).toNat := ⟨hu.hD, h1, by
    rcases h.1 with h2 | h2
    · exact .inl (by omega)
    · exact .inr h2⟩
  have := hu.one h3
  omega
theorem search_inf {N D k : Nat} {L : Int} (hk : 2098 ≤ k) (hb : D * 2 ^ k ≤ N) (h : SearchAt N D L L) (h0 : -1074 ≤ L) : 971 < L := by
  rcases h.2 with h2 | h2
  · omega
  · have := two_pow_lt (Nat.lt_of_mul_lt_mul_left (Nat.lt_of_le_of_lt hb h2))
    omega
theorem uint_nat (na : Bool) (a : Option Addr) (n c v : Nat) (w : World) (hx : NumC w na a n c (v : Int)) (hl : v ≤ 18446744073709551615) :
    Calls Try.prog 103 #[.agg #[.bool na, .slice a n c]] w fun e w' => e = .returned (.int .u64 (v : Int)) ∧ Below w.heap.size w w' := by
  have h := uint_any na a n c (v : Int) w hx (by omega)
  rw [Int.natAbs_natCast] at h
  exact h
theorem fit_nat {P K : Nat} (hP : P < 2 ^ K) (hK : K ≤ 900000) : Fit (P : Int) := Fit.of_pow2 (k := K) (by rw [Int.natAbs_natCast]; exact hP) (by omega)
theorem fit_divn {P Q K : Nat} (hP : P < 2 ^ K) (hQ : Q < 2 ^ K) (hK : K ≤ 800000) : Fit ((((P : Int)).natAbs : Int) + 1000 * (((Q : Int)).natAbs : Int) + 1000) := by
  rw [Int.natAbs_natCast, Int.natAbs_natCast]
  have h := fit_nat (P := P + 1000 * Q + 1000) (K := K + 11) (by rw [Nat.pow_add]; omega) (by omega)
  rw [show ((P + 1000 * Q + 1000 : Nat) : Int) = (P : Int) + 1000 * (Q : Int) + 1000 from by omega] at h
  exact h
theorem pow_mul_lt {P K g G : Nat} (hP : P < 2 ^ K) (hg : g ≤ G) : P * 2 ^ g < 2 ^ (K + G) := by
  rw [Nat.pow_add]
  exact Nat.lt_of_lt_of_le (Nat.mul_lt_mul_of_pos_right hP (Nat.two_pow_pos g)) (Nat.mul_le_mul_left _ (Nat.pow_le_pow_right (by decide) hg))
theorem pow_le_two {P K G : Nat} (hP : P < 2 ^ K) : P < 2 ^ (K + G) := Nat.lt_of_lt_of_le hP (Nat.pow_le_pow_right (by decide) (by omega))
/-- the rounding, by cases -/
theorem rne_cases (P Q : Nat) : ∃ r : Int, cmpZ ((P % Q : Nat) + (P % Q : Nat) : Int) Q = r ∧
    ((decide (0 < r) = true ∧ rne P Q = P / Q + 1) ∨ (decide (0 < r) = false ∧ (r == 0) = true ∧ P / Q % 2 = 1 ∧ rne P Q = P / Q + 1) ∨ (decide (0 < r) = false ∧ (r == 0) = true ∧ P / Q % 2 = 0 ∧ rne P Q = P / Q) ∨ (decide (0 < r) = false ∧ (r == 0) = false ∧ rne P Q = P / Q)) := by
  refine ⟨_, rfl, ?_⟩
  unfold rne
  rcases Nat.lt_trichotomy Q (2 * (P % Q)) with h | h | h
  · left
    rw [cmpZ_gt (by omega), decide_eq_true h]
    exact ⟨rfl, rfl⟩
  · rw [cmpZ_eq (by omega), show decide (Q < 2 * (P % Q)) = false from by simp; omega, decide_eq_true h]
    rcases Nat.mod_two_eq_zero_or_one (P / Q) with h1 | h1
    · right; right; left
      exact ⟨rfl, rfl, h1, by rw [show decide (P / Q % 2 = 1) = false from by simp; omega]; rfl⟩
    · right; left
      exact ⟨rfl, rfl, h1, by rw [decide_eq_true h1]; rfl⟩
  · right; right; right
    rw [cmpZ_lt (by omega), show decide (Q < 2 * (P % Q)) = false from by simp; omega, show decide (Q = 2 * (P % Q)) = false from by simp; omega]
    exact ⟨rfl, rfl, rfl⟩

set_option maxRecDepth 100000 in
set_option maxHeartbeats 8000000 in
theorem rnear_inf (na nb : Bool) (a b : Option Addr) (n c m d P Q K : Nat) (e : Int) (A B k : Nat) (w : World) (hx : NumC w na a n c (P : Int)) (hy : NumC w nb b m d (Q : Int)) (hP : P < 2 ^ K) (hQ : Q < 2 ^ K) (hK : K ≤ 30000) (hQ0 : 0 < Q)
    (hA : e + 1074 = (A : Int) - (B : Int)) (he1 : -9000 ≤ e) (he2 : e ≤ 3000) (hk : 2098 ≤ k) (hu : Q * 2 ^ B * 2 ^ k ≤ P * 2 ^ A) :
    Calls Try.prog 83 #[.agg #[.bool na, .slice a n c], .agg #[.bool nb, .slice b m d], .int .i64 e] w (RNear (P * 2 ^ A) (Q * 2 ^ B) w) := by
  have HN0 : ∃ N, P * 2 ^ A = N := ⟨_, rfl⟩
  have HD0 : ∃ D, Q * 2 ^ B = D := ⟨_, rfl⟩
  obtain ⟨N, hN⟩ := HN0
  obtain ⟨D, hD⟩ := HD0
  rw [hN, hD]
  have HN := Lib.hid hN
  have HD := Lib.hid hD
  have HA := Lib.hid hA
  have FP := Lib.hid (fit_nat hP (by omega))
  have FQ := Lib.hid (fit_nat hQ (by omega))
  obtain ⟨hk0, hk1, hbw, hsz⟩ := two_bx w 30 #[.bool na, .slice a n c] #[.bool nb, .slice b m d]
  have HB7 := Lib.hid hbw
  have HX7 := Lib.hid (hx.below hbw (Nat.le_refl _))
  have HY7 := Lib.hid (hy.below hbw (Nat.le_refl _))
  have HP := Lib.hid hP
  have HQ := Lib.hid hQ
  have t1 : decide (3000 < e) = false := by simp; omega
  have t2 : decide (e < -9000) = false := by simp; omega
  rw [hN, hD] at hu
  have HNR := Lib.hid (IsNear.inf (by rw [← hD]; exact Nat.mul_pos hQ0 (Nat.two_pow_pos B)) hk hu)
  have HU := Lib.hid hu
  clear hN hD hA hx hy hP hQ hbw hu
  go_enter Try.func83, Try.ntmps83
  go_wp2_with fail
  generalize ((w.alloc (.cells #[.bool na, .slice a n c] 30)).alloc (.cells #[.bool nb, .slice b m d] 30)) = w7 at *
  generalize hsz0 : w.heap.size = s at *
  have HSZ := Lib.hid hsz0
  have HS := Lib.hid hsz
  have HK0 := Lib.hid hk0
  have HK1 := Lib.hid hk1
  clear hsz hk0 hk1 hsz0
  go_loopg [7, 8] 2098 (fun g lo hi wr => ∃ L H : Int, lo = .int .i64 L ∧ hi = .int .i64 H ∧ SearchAt N D L H ∧ -1074 ≤ L ∧ L ≤ H ∧ H ≤ 1024 ∧ H - L ≤ g ∧ Below w7.heap.size w7 wr)
  case atStart => exact ⟨_, _, rfl, rfl, ⟨.inl rfl, .inl rfl⟩, by omega, by omega, by omega, by omega, Below.refl _ _⟩
  case round =>
    obtain ⟨L, H, rfl, rfl, hS, hL0, hLH, hH1, hgk, hbl⟩ := hrel
    have HSR := Lib.hid hS
    have hk0 := HK0.out.below hbl HK0.out.lt
    have hk1 := HK1.out.below hbl HK1.out.lt
    have x0 : wr.cell? ⟨s, 0, none⟩ = some (.bool na) := hk0.cell 0
    have x1 : wr.cell? ⟨s, 1, none⟩ = some (.slice a n c) := hk0.cell 1
    have y0 : wr.cell? ⟨s + 1, 0, none⟩ = some (.bool nb) := hk1.cell 0
    have y1 : wr.cell? ⟨s + 1, 1, none⟩ = some (.slice b m d) := hk1.cell 1
    have hs0 : s < wr.heap.size := hk0.lt
    have hs1 : s + 1 < wr.heap.size := hk1.lt
    have HBW := Lib.hid hbl
    clear hS
    by_cases hlt : L < H
    · obtain ⟨tm, htm⟩ : ∃ tm : Nat, L + (H - L) / 2 + 1074 = (tm : Int) := ⟨(L + (H - L) / 2 + 1074).toNat, by omega⟩
      have HTM := Lib.hid htm
      have hm1 : L ≤ L + (H - L) / 2 := by omega
      have hm2 : L + (H - L) / 2 < H := by omega
      have htm2 : tm ≤ 3000 := by omega
      have hcall := rbelow_near na nb a b n c m d P Q e (L + (H - L) / 2 + 53) A B tm wr (HX7.out.below hbl (Nat.le_refl _)) (HY7.out.below hbl (Nat.le_refl _)) FP.out FQ.out HA.out (by omega) he1 he2 htm2
      rw [HN.out, HD.out] at hcall
      clear hbl hk0 hk1 htm
      by_cases hb : N < D * 2 ^ (tm + 53)
      · rw [decide_eq_true hb] at hcall
        have HC := Lib.hid hcall
        have HSN := Lib.hid (search_dn HSR.out HTM.out hb)
        clear hcall hb
        go_wp2_with fail
        refine HC.out.mono ?_; rintro z w8 ⟨rfl, hb8⟩
        have HB8 := Lib.hid (HBW.out.trans (hb8.mono HBW.out.size))
        clear hb8
        go_wp2_with fail
        go_roundg (gk - 1)
        case measure => omega
        case rel => exact ⟨_, _, rfl, rfl, HSN.out, by omega, by omega, by omega, by omega, HB8.out⟩
      · rw [decide_eq_false hb] at hcall
        have HC := Lib.hid hcall
        have HSN := Lib.hid (search_up HSR.out HTM.out hb)
        clear hcall hb
        go_wp2_with fail
        refine HC.out.mono ?_; rintro z w8 ⟨rfl, hb8⟩
        have HB8 := Lib.hid (HBW.out.trans (hb8.mono HBW.out.size))
        clear hb8
        go_wp2_with fail
        go_roundg (gk - 1)
        case measure => omega
        case rel => exact ⟨_, _, rfl, rfl, HSN.out, by omega, by omega, by omega, by omega, HB8.out⟩
    · obtain rfl : H = L := by omega
      have h9 := search_inf hk HU.out HSR.out hL0
      have t3 : decide (971 < H) = true := by simpa using h9
      clear hbl hk0 hk1 hlt
      go_wp2_with fail
      refine (rtimes_inf _).mono ?_; rintro z w8 ⟨rfl, hb8⟩
      have HB8 := Lib.hid (HB7.out.trans ((HBW.out.trans (hb8.mono HBW.out.size)).mono (by rw [← HSZ.out]; exact HB7.out.size)))
      clear hb8
      go_wp2_with fail
      go_ret
      exact ⟨_, rfl, HNR.out, by rw [HSZ.out]; exact HB8.out⟩

set_option maxRecDepth 100000 in
set_option maxHeartbeats 8000000 in
theorem rnear_hi0 (na nb : Bool) (a b : Option Addr) (n c m d P Q K : Nat) (e : Int) (A B t g P2 v rm rn D N : Nat) (w : World) (hx : NumC w na a n c (P : Int)) (hy : NumC w nb b m d (Q : Int)) (hP : P < 2 ^ K) (hQ : Q < 2 ^ K) (hK : K ≤ 30000)
    (hA : e + 1074 = (A : Int) - (B : Int)) (he1 : -9000 ≤ e) (he2 : e ≤ 3000) (hg : e = (t : Int) - 1074 + (g : Int)) (hgG : g ≤ 20000) (r : Int) (ht : t ≤ 2045)
    (hN : P * 2 ^ A = N) (hD : Q * 2 ^ B = D) (hu : Unit N D t) (hX2 : (P2 : Int) = (P : Int) * 2 ^ g) (hdv : (P2 : Int).fdiv (Q : Int) = (v : Int) ∧ (P2 : Int).fmod (Q : Int) = (rm : Int)) (hq0 : (Q : Int) ≠ 0) (hfd : Fit (((P2 : Int).natAbs : Int) + 1000 * ((Q : Int).natAbs : Int) + 1000)) (hfr : Fit (rm : Int))
    (hcmp : cmpZ ((rm : Int) + (rm : Int)) (Q : Int) = r) (hcs : (decide (0 < r) = true ∧ rn = v + 1) ∨ (decide (0 < r) = false ∧ (r == 0) = true ∧ v % 2 = 1 ∧ rn = v + 1) ∨ (decide (0 < r) = false ∧ (r == 0) = true ∧ v % 2 = 0 ∧ rn = v) ∨ (decide (0 < r) = false ∧ (r == 0) = false ∧ rn = v))
    (hv1 : v ≤ 9007199254740992) (hrn1 : rn ≤ 9007199254740992) (hrn2 : t = 0 ∨ B52 ≤ rn) (hnr : IsNear N D (min (t * B52 + rn) INF)) :
    Calls Try.prog 83 #[.agg #[.bool na, .slice a n c], .agg #[.bool nb, .slice b m d], .int .i64 e] w (RNear N D w) := by
  have HN := Lib.hid hN
  have HD := Lib.hid hD
  have HA := Lib.hid hA
  have FP := Lib.hid (fit_nat hP (by omega))
  have FQ := Lib.hid (fit_nat hQ (by omega))
  obtain ⟨hk0, hk1, hbw, hsz⟩ := two_bx w 30 #[.bool na, .slice a n c] #[.bool nb, .slice b m d]
  have HB7 := Lib.hid hbw
  have HX7 := Lib.hid (hx.below hbw (Nat.le_refl _))
  have HY7 := Lib.hid (hy.below hbw (Nat.le_refl _))
  have HU := Lib.hid hu
  have HX2 := Lib.hid hX2
  have HDV := Lib.hid hdv
  have HQ0 := Lib.hid hq0
  have HFD := Lib.hid hfd
  have HFR := Lib.hid hfr
  have HCMP := Lib.hid hcmp
  have HCS := Lib.hid hcs
  have HR1 := Lib.hid hrn1
  have HR2 := Lib.hid hrn2
  have HNR := Lib.hid hnr
  have HTW := Lib.hid (fun w => two_any g w (by omega))
  have FG := Lib.hid (fit_two (n := g) (by omega))
  have t1 : decide (3000 < e) = false := by simp; omega
  have t2 : decide (e < -9000) = false := by simp; omega
  have t3 : decide (971 < (t : Int) - 1074) = false := by simp; omega
  have t4 : decide ((t : Int) - 1074 ≤ e) = true := by simp; omega
  have hsub : IntKind.i64.wrap (e - ((t : Int) - 1074)) = (g : Int) := by rw [IntWalk.i64_in _ (by omega)]; omega
  have HSUB := Lib.hid hsub
  have HT5 := Lib.hid ht
  clear hN hD hA hx hy hP hQ hbw hu hX2 hdv hq0 hfd hfr hcmp hcs hrn1 hrn2 hnr hg hsub
  go_enter Try.func83, Try.ntmps83
  go_wp2_with fail
  generalize ((w.alloc (.cells #[.bool na, .slice a n c] 30)).alloc (.cells #[.bool nb, .slice b m d] 30)) = w7 at *
  generalize hsz0 : w.heap.size = s at *
  have HSZ := Lib.hid hsz0
  have HS := Lib.hid hsz
  have HK0 := Lib.hid hk0
  have HK1 := Lib.hid hk1
  clear hsz hk0 hk1 hsz0
  go_loopg [7, 8] 2098 (fun g lo hi wr => ∃ L H : Int, lo = .int .i64 L ∧ hi = .int .i64 H ∧ SearchAt N D L H ∧ -1074 ≤ L ∧ L ≤ H ∧ H ≤ 1024 ∧ H - L ≤ g ∧ Below w7.heap.size w7 wr)
  case atStart => exact ⟨_, _, rfl, rfl, ⟨.inl rfl, .inl rfl⟩, by omega, by omega, by omega, by omega, Below.refl _ _⟩
  case round =>
    obtain ⟨L, H, rfl, rfl, hS, hL0, hLH, hH1, hgk, hbl⟩ := hrel
    have HSR := Lib.hid hS
    have hk0 := HK0.out.below hbl HK0.out.lt
    have hk1 := HK1.out.below hbl HK1.out.lt
    have x0 : wr.cell? ⟨s, 0, none⟩ = some (.bool na) := hk0.cell 0
    have x1 : wr.cell? ⟨s, 1, none⟩ = some (.slice a n c) := hk0.cell 1
    have y0 : wr.cell? ⟨s + 1, 0, none⟩ = some (.bool nb) := hk1.cell 0
    have y1 : wr.cell? ⟨s + 1, 1, none⟩ = some (.slice b m d) := hk1.cell 1
    have hs0 : s < wr.heap.size := hk0.lt
    have hs1 : s + 1 < wr.heap.size := hk1.lt
    have HBW := Lib.hid hbl
    clear hS
    by_cases hlt : L < H
    · obtain ⟨tm, htm⟩ : ∃ tm : Nat, L + (H - L) / 2 + 1074 = (tm : Int) := ⟨(L + (H - L) / 2 + 1074).toNat, by omega⟩
      have HTM := Lib.hid htm
      have hm1 : L ≤ L + (H - L) / 2 := by omega
      have hm2 : L + (H - L) / 2 < H := by omega
      have htm2 : tm ≤ 3000 := by omega
      have hcall := rbelow_near na nb a b n c m d P Q e (L + (H - L) / 2 + 53) A B tm wr (HX7.out.below hbl (Nat.le_refl _)) (HY7.out.below hbl (Nat.le_refl _)) FP.out FQ.out HA.out (by omega) he1 he2 htm2
      rw [HN.out, HD.out] at hcall
      clear hbl hk0 hk1 htm
      by_cases hb : N < D * 2 ^ (tm + 53)
      · rw [decide_eq_true hb] at hcall
        have HC := Lib.hid hcall
        have HSN := Lib.hid (search_dn HSR.out HTM.out hb)
        clear hcall hb
        go_wp2_with fail
        refine HC.out.mono ?_; rintro z w8 ⟨rfl, hb8⟩
        have HB8 := Lib.hid (HBW.out.trans (hb8.mono HBW.out.size))
        clear hb8
        go_wp2_with fail
        go_roundg (gk - 1)
        case measure => omega
        case rel => exact ⟨_, _, rfl, rfl, HSN.out, by omega, by omega, by omega, by omega, HB8.out⟩
      · rw [decide_eq_false hb] at hcall
        have HC := Lib.hid hcall
        have HSN := Lib.hid (search_up HSR.out HTM.out hb)
        clear hcall hb
        go_wp2_with fail
        refine HC.out.mono ?_; rintro z w8 ⟨rfl, hb8⟩
        have HB8 := Lib.hid (HBW.out.trans (hb8.mono HBW.out.size))
        clear hb8
        go_wp2_with fail
        go_roundg (gk - 1)
        case measure => omega
        case rel => exact ⟨_, _, rfl, rfl, HSN.out, by omega, by omega, by omega, by omega, HB8.out⟩
    · obtain rfl : H = L := by omega
      obtain rfl := search_end HU.out HT5.out HSR.out hL0
      have hbA : Below wr.heap.size wr wr.drew := (Below.refl _ _).drew
      clear hlt hLH hgk
      go_wp2_with fail
      refine wp_regionL (fun w' => w'.cell? ⟨s, 0, none⟩ = some (.bool na) ∧ w'.cell? ⟨s, 1, none⟩ = some (.slice a n c) ∧ w'.cell? ⟨s + 1, 0, none⟩ = some (.bool nb) ∧ w'.cell? ⟨s + 1, 1, none⟩ = some (.slice b m d)) 6 (by kernel_rfl) (by exact ⟨x0, x1, y0, y1⟩) (fun hHeld => ?_)
      refine wpAnyL_take (i := 0) (oi := ⟨some 42, _, _, _, _, _⟩) (v := ?_) rfl (by kernel_rfl) (by kernel_rfl) (by kernel_rfl) (by kernel_rfl) (by kernel_rfl) (fun _ _ _ h => h) (Or.inl ⟨by rfl, ?_⟩) (by assumption) ?_
      rotate_left 1
      · (intro w hSw; (try dsimp only at hSw); go_simp; try with_reducible rfl)
      try simp only [Act.put, List.setIfInBounds_toArray, List.set_cons_zero, List.set_cons_succ]
      refine wpAnyL_take (i := 1) (oi := ⟨some 43, _, _, _, _, _⟩) (v := ?_) rfl (by kernel_rfl) (by kernel_rfl) (by kernel_rfl) (by kernel_rfl) (by kernel_rfl) (fun _ _ _ h => h) (Or.inl ⟨by rfl, ?_⟩) (by assumption) ?_
      rotate_left 1
      · (intro w hSw; (try dsimp only at hSw); go_simp; try with_reducible rfl)
      try simp only [Act.put, List.setIfInBounds_toArray, List.set_cons_zero, List.set_cons_succ]
      refine wpAnyL_take (i := 2) (oi := ⟨some 44, _, _, _, _, _⟩) (v := ?_) rfl (by kernel_rfl) (by kernel_rfl) (by kernel_rfl) (by kernel_rfl) (by kernel_rfl) (fun _ _ _ h => h) (Or.inl ⟨by rfl, ?_⟩) (by assumption) ?_
      rotate_left 1
      · (intro w hSw; (try dsimp only at hSw); go_simp; try with_reducible rfl)
      try simp only [Act.put, List.setIfInBounds_toArray, List.set_cons_zero, List.set_cons_succ]
      refine wpAnyL_take (i := 3) (oi := ⟨some 45, _, _, _, _, _⟩) (v := ?_) rfl (by kernel_rfl) (by kernel_rfl) (by kernel_rfl) (by kernel_rfl) (by kernel_rfl) (fun _ _ _ h => h) (Or.inl ⟨by rfl, ?_⟩) (by assumption) ?_
      rotate_left 1
      · (intro w hSw; (try dsimp only at hSw); go_simp; try with_reducible rfl)
      try simp only [Act.put, List.setIfInBounds_toArray, List.set_cons_zero, List.set_cons_succ]
      refine wpAnyL_one (i := 4) (o := ⟨some 46, _, _, _, _, _⟩) (by kernel_rfl) rfl (fun K hK => ?_)
      go_simp
      rw [HSUB.out]
      refine (HTW.out _).mono ?_
      rintro e w2 ⟨n2, p2, l2, c2, rfl, hN2, hb2, -⟩
      have hB2 := hbA.trans (hb2.mono (by exact Nat.le_refl _))
      have w20 : w2.cell? ⟨s, 0, none⟩ = some (.bool na) := by rw [(bcell hB2).1 _ _ hs0]; exact x0
      have w21 : w2.cell? ⟨s, 1, none⟩ = some (.slice a n c) := by rw [(bcell hB2).1 _ _ hs0]; exact x1
      have w22 : w2.cell? ⟨s + 1, 0, none⟩ = some (.bool nb) := by rw [(bcell hB2).1 _ _ hs1]; exact y0
      have w23 : w2.cell? ⟨s + 1, 1, none⟩ = some (.slice b m d) := by rw [(bcell hB2).1 _ _ hs1]; exact y1
      refine hK.out _ _ (by exact ⟨w20, w21, w22, w23⟩) ?_
      clear hK K hHeld
      intro hHeld
      try simp only [Act.put, List.setIfInBounds_toArray, List.set_cons_zero, List.set_cons_succ]
      refine wpAnyL_one (i := 5) (o := ⟨some 47, _, _, _, _, _⟩) (by kernel_rfl) rfl (fun K hK => ?_)
      go_simp
      refine (mul_any _ _ _ _ _ _ _ _ (P : Int) (2 ^ g) _ (HX7.out.below (hbl.trans (hB2.mono hbl.size)) (Nat.le_refl _)) hN2 FP.out FG.out).mono ?_
      rintro e w3 ⟨n3, p3, l3, c3, rfl, hN3, hb3, -⟩
      rw [← HX2.out] at hN3
      have hB3 := hB2.trans (hb3.mono hB2.size)
      have hBK0 := hk0.below hB3 hs0
      have hBK1 := hk1.below hB3 hs1
      have xf : ∀ o, w3.frozen? ⟨s, o, none⟩ = false := fun o => hBK0.frozen o
      have w30 : w3.cell? ⟨s, 0, none⟩ = some (.bool na) := by rw [(bcell hB3).1 _ _ hs0]; exact x0
      have w31 : w3.cell? ⟨s, 1, none⟩ = some (.slice a n c) := by rw [(bcell hB3).1 _ _ hs0]; exact x1
      have w32 : w3.cell? ⟨s + 1, 0, none⟩ = some (.bool nb) := by rw [(bcell hB3).1 _ _ hs1]; exact y0
      have w33 : w3.cell? ⟨s + 1, 1, none⟩ = some (.slice b m d) := by rw [(bcell hB3).1 _ _ hs1]; exact y1
      refine hK.out _ _ (by exact ⟨w30, w31, w32, w33⟩) ?_
      clear hK K hHeld
      intro hHeld
      try simp only [Act.put, List.setIfInBounds_toArray, List.set_cons_zero, List.set_cons_succ]
      refine wpAnyL_last (o := ⟨none, _, _, _, _, _⟩) (by kernel_rfl) (by kernel_rfl) rfl (fun K hK => ?_)
      go_simp
      refine hK _ _ ?_
      clear hK K hHeld
      try simp only [Act.put, List.setIfInBounds_toArray, List.set_cons_zero, List.set_cons_succ]
      obtain ⟨w9, hw9⟩ : ∃ w9, (w3.setCell ⟨s, 0, none⟩ (.bool n3)).setCell ⟨s, 1, none⟩ (.slice p3 l3 c3) = w9 := ⟨_, rfl⟩
      rw [hw9]
      have HK9 : Hid (Blk w9 (s + 1) 30 #[.bool nb, .slice b m d]) := Lib.hid (by rw [← hw9]; exact (hBK1.far (by simp) _).far (by simp) _)
      have HX9 : Hid (NumC w9 n3 p3 l3 c3 (P2 : Int)) := Lib.hid (by rw [← hw9]; exact NumC.set2 hN3 w30 w31 _ _ _ _)
      have HY9 : Hid (NumC w9 nb b m d (Q : Int)) := Lib.hid (by rw [← hw9]; exact NumC.set2 (HY7.out.below (hbl.trans (hB3.mono hbl.size)) (Nat.le_refl _)) w30 w31 _ _ _ _)
      have HKP : Hid (Blk w9 s 30 #[.bool n3, .slice p3 l3 c3]) := Lib.hid (by rw [← hw9]; exact ((hBK0.set_ 0 _).set_ 1 _).to rfl)
      have HB9 : Hid (Below s w w9) := Lib.hid (by rw [← hw9]; exact ((HB7.out.trans ((hbl.trans (hB3.mono hbl.size)).mono (by rw [← HSZ.out]; exact HB7.out.size))).setCell (by simp) _).setCell (by simp) _)
      clear hw9 hbA hB2 hN2 hB3 hN3 hBK0 hBK1 hk0 hk1 xf w20 w21 w22 w23 w30 w31 w32 w33 x0 x1 y0 y1 hs0 hs1 hbl HBW hb2 hb3
      have p0 : w9.cell? ⟨s, 0, none⟩ = some (.bool n3) := HKP.out.cell 0
      have p1 : w9.cell? ⟨s, 1, none⟩ = some (.slice p3 l3 c3) := HKP.out.cell 1
      have q0 : w9.cell? ⟨s + 1, 0, none⟩ = some (.bool nb) := HK9.out.cell 0
      have q1 : w9.cell? ⟨s + 1, 1, none⟩ = some (.slice b m d) := HK9.out.cell 1
      go_wp2_with fail
      refine (div_any _ _ _ _ _ _ _ _ (P2 : Int) (Q : Int) _ HX9.out HY9.out HQ0.out HFD.out).mono ?_
      rintro e w10 ⟨n5, p5, l5, c5, n6, p6, l6, c6, rfl, hZ1, hZ2, hb10⟩
      rw [HDV.out.1] at hZ1
      rw [HDV.out.2] at hZ2
      have HB10 := Lib.hid (HB9.out.trans (hb10.mono (by have := HK9.out.lt; omega)))
      have HK10 := Lib.hid (HK9.out.below hb10 HK9.out.lt)
      have HY10 := Lib.hid (HY9.out.below hb10 (Nat.le_refl _))
      have HZ1 := Lib.hid hZ1
      have HZ2 := Lib.hid hZ2
      clear hZ1 hZ2 hb10 p0 p1 q0 q1 HK9 HY9 HX9 HKP
      go_upto_region 17 with fail
      obtain ⟨hk0, hk1, hbw, hsz⟩ := two_bx w10 30 #[.bool n5, .slice p5 l5 c5] #[.bool n6, .slice p6 l6 c6]
      have HB11 := Lib.hid (HB10.out.trans (hbw.mono (by rw [← HSZ.out]; exact HB10.out.size)))
      have HK11 := Lib.hid (HK10.out.below hbw HK10.out.lt)
      have HY11 := Lib.hid (HY10.out.below hbw (Nat.le_refl _))
      have HZ1' := Lib.hid (HZ1.out.below hbw (Nat.le_refl _))
      have HZ2' := Lib.hid (HZ2.out.below hbw (Nat.le_refl _))
      have HKM := Lib.hid hk0
      have HKL := Lib.hid hk1
      clear hk0 hk1 hbw hsz HB10 HK10 HY10 HZ1 HZ2
      generalize ((w10.alloc (.cells #[.bool n5, .slice p5 l5 c5] 30)).alloc (.cells #[.bool n6, .slice p6 l6 c6] 30)) = w11 at *
      generalize w10.heap.size = u at *
      have l0 : w11.cell? ⟨u + 1, 0, none⟩ = some (.bool n6) := HKL.out.cell 0
      have l1 : w11.cell? ⟨u + 1, 1, none⟩ = some (.slice p6 l6 c6) := HKL.out.cell 1
      have q0 : w11.cell? ⟨s + 1, 0, none⟩ = some (.bool nb) := HK11.out.cell 0
      have q1 : w11.cell? ⟨s + 1, 1, none⟩ = some (.slice b m d) := HK11.out.cell 1
      have hl0 : u + 1 < w11.heap.size := HKL.out.lt
      have hl1 : s + 1 < w11.heap.size := HK11.out.lt
      have hbA : Below w11.heap.size w11 w11.drew := (Below.refl _ _).drew
      go_region_held3 (fun w' => w'.cell? ⟨u + 1, 0, none⟩ = some (.bool n6) ∧ w'.cell? ⟨u + 1, 1, none⟩ = some (.slice p6 l6 c6) ∧ w'.cell? ⟨s + 1, 0, none⟩ = some (.bool nb) ∧ w'.cell? ⟨s + 1, 1, none⟩ = some (.slice b m d)) (go_keep)
        (first
          | (go_at_call 21; refine (add_any _ _ _ _ _ _ _ _ (rm : Int) (rm : Int) _ (HZ2'.out.below hbA (Nat.le_refl _)) (HZ2'.out.below hbA (Nat.le_refl _)) HFR.out HFR.out).mono ?_; rintro e w12 ⟨n7, p7, l7, c7, rfl, hM12, hb12, -⟩; replace hbA := hbA.trans (hb12.mono (Nat.le_trans (by simp) hbA.size)); clear hb12; (try clear bc8 bf8); obtain ⟨bc8, bf8⟩ := bcell hbA)
          | (go_at_call 66; refine (cmp_at _ _ _ _ _ _ _ _ ((rm : Int) + (rm : Int)) (Q : Int) r _ HCMP.out hM12 (HY11.out.below hbA (Nat.le_refl _))).mono ?_; rintro e w13 ⟨rfl, hb13⟩; clear hM12 bc8 bf8; replace hbA := hbA.trans (hb13.mono (Nat.le_trans (by simp) hbA.size)); clear hb13; obtain ⟨bc8, bf8⟩ := bcell hbA))
      all_goals
        clear bc8 bf8 l0 l1 q0 q1
        have HB13 := Lib.hid (HB11.out.trans (hbA.mono (by rw [← HSZ.out]; exact HB11.out.size)))
        have HZ13 := Lib.hid (HZ1'.out.below hbA (Nat.le_refl _))
        have hkm := HKM.out.below hbA HKM.out.lt
        have m0 : w13.cell? ⟨u, 0, none⟩ = some (.bool n5) := hkm.cell 0
        have m1 : w13.cell? ⟨u, 1, none⟩ = some (.slice p5 l5 c5) := hkm.cell 1
        clear hkm hbA
        go_wp2_with fail
        refine (uint_nat _ _ _ _ v _ HZ13.out (by omega)).mono ?_
        rintro e w14 ⟨rfl, hb14⟩
        have HB14 := Lib.hid (HB13.out.trans (hb14.mono (by rw [← HSZ.out]; exact HB13.out.size)))
        clear hb14 m0 m1
        have hv2 : (v : Int) ≤ 9007199254740992 := by omega
        rcases HCS.out with ⟨c1, c2⟩ | ⟨c1, c2, c3, c4⟩ | ⟨c1, c2, c3, c4⟩ | ⟨c1, c2, c4⟩
        · have HT : Hid (∀ w, Calls Try.prog 101 #[.float .f64 (floatOfInt .f64 ((v : Int) + 1)), .int .i64 ((t : Int) - 1074)] w fun x w' => x = .returned (.float .f64 (min (t * B52 + rn) INF)) ∧ Below w.heap.size w w') := Lib.hid (fun w => by
            have h := rtimes_near rn t w HR1.out HT5.out HR2.out
            rw [c2] at h ⊢
            exact h)
          clear c2
          go_wp2_with fail
          refine (HT.out _).mono ?_; rintro z w15 ⟨rfl, hb15⟩
          have HB15 := Lib.hid (HB14.out.trans (hb15.mono (by rw [← HSZ.out]; exact HB14.out.size)))
          clear hb15
          go_wp2_with fail
          go_ret
          exact ⟨_, rfl, HNR.out, by rw [HSZ.out]; exact HB15.out⟩
        · have HT : Hid (∀ w, Calls Try.prog 101 #[.float .f64 (floatOfInt .f64 ((v : Int) + 1)), .int .i64 ((t : Int) - 1074)] w fun x w' => x = .returned (.float .f64 (min (t * B52 + rn) INF)) ∧ Below w.heap.size w w') := Lib.hid (fun w => by
            have h := rtimes_near rn t w HR1.out HT5.out HR2.out
            rw [c4] at h ⊢
            exact h)
          have c5 : ((v : Int) % 2 == 1) = true := by simp; omega
          clear c4 c3
          go_wp2_with fail
          refine (HT.out _).mono ?_; rintro z w15 ⟨rfl, hb15⟩
          have HB15 := Lib.hid (HB14.out.trans (hb15.mono (by rw [← HSZ.out]; exact HB14.out.size)))
          clear hb15
          go_wp2_with fail
          go_ret
          exact ⟨_, rfl, HNR.out, by rw [HSZ.out]; exact HB15.out⟩
        · have HT : Hid (∀ w, Calls Try.prog 101 #[.float .f64 (floatOfInt .f64 (v : Int)), .int .i64 ((t : Int) - 1074)] w fun x w' => x = .returned (.float .f64 (min (t * B52 + rn) INF)) ∧ Below w.heap.size w w') := Lib.hid (fun w => by
            have h := rtimes_near rn t w HR1.out HT5.out HR2.out
            rw [c4] at h ⊢
            exact h)
          have c5 : ((v : Int) % 2 == 1) = false := by simp; omega
          clear c4 c3
          go_wp2_with fail
          refine (HT.out _).mono ?_; rintro z w15 ⟨rfl, hb15⟩
          have HB15 := Lib.hid (HB14.out.trans (hb15.mono (by rw [← HSZ.out]; exact HB14.out.size)))
          clear hb15
          go_wp2_with fail
          go_ret
          exact ⟨_, rfl, HNR.out, by rw [HSZ.out]; exact HB15.out⟩
        · have HT : Hid (∀ w, Calls Try.prog 101 #[.float .f64 (floatOfInt .f64 (v : Int)), .int .i64 ((t : Int) - 1074)] w fun x w' => x = .returned (.float .f64 (min (t * B52 + rn) INF)) ∧ Below w.heap.size w w') := Lib.hid (fun w => by
            have h := rtimes_near rn t w HR1.out HT5.out HR2.out
            rw [c4] at h ⊢
            exact h)
          clear c4
          go_wp2_with fail
          refine (HT.out _).mono ?_; rintro z w15 ⟨rfl, hb15⟩
          have HB15 := Lib.hid (HB14.out.trans (hb15.mono (by rw [← HSZ.out]; exact HB14.out.size)))
          clear hb15
          go_wp2_with fail
          go_ret
          exact ⟨_, rfl, HNR.out, by rw [HSZ.out]; exact HB15.out⟩

set_option maxRecDepth 100000 in
set_option maxHeartbeats 8000000 in
theorem rnear_lo0 (na nb : Bool) (a b : Option Addr) (n c m d P Q K : Nat) (e : Int) (A B t g Q2 v rm rn D N : Nat) (w : World) (hx : NumC w na a n c (P : Int)) (hy : NumC w nb b m d (Q : Int)) (hP : P < 2 ^ K) (hQ : Q < 2 ^ K) (hK : K ≤ 30000)
    (hA : e + 1074 = (A : Int) - (B : Int)) (he1 : -9000 ≤ e) (he2 : e ≤ 3000) (hg : (t : Int) - 1074 = e + (g : Int)) (hg0 : 0 < g) (hgG : g ≤ 20000) (r : Int) (ht : t ≤ 2045)
    (hN : P * 2 ^ A = N) (hD : Q * 2 ^ B = D) (hu : Unit N D t) (hX2 : (Q2 : Int) = (Q : Int) * 2 ^ g) (hdv : (P : Int).fdiv (Q2 : Int) = (v : Int) ∧ (P : Int).fmod (Q2 : Int) = (rm : Int)) (hq0 : (Q2 : Int) ≠ 0) (hfd : Fit (((P : Int).natAbs : Int) + 1000 * ((Q2 : Int).natAbs : Int) + 1000)) (hfr : Fit (rm : Int))
    (hcmp : cmpZ ((rm : Int) + (rm : Int)) (Q2 : Int) = r) (hcs : (decide (0 < r) = true ∧ rn = v + 1) ∨ (decide (0 < r) = false ∧ (r == 0) = true ∧ v % 2 = 1 ∧ rn = v + 1) ∨ (decide (0 < r) = false ∧ (r == 0) = true ∧ v % 2 = 0 ∧ rn = v) ∨ (decide (0 < r) = false ∧ (r == 0) = false ∧ rn = v))
    (hv1 : v ≤ 9007199254740992) (hrn1 : rn ≤ 9007199254740992) (hrn2 : t = 0 ∨ B52 ≤ rn) (hnr : IsNear N D (min (t * B52 + rn) INF)) :
    Calls Try.prog 83 #[.agg #[.bool na, .slice a n c], .agg #[.bool nb, .slice b m d], .int .i64 e] w (RNear N D w) := by
  have HN := Lib.hid hN
  have HD := Lib.hid hD
  have HA := Lib.hid hA
  have FP := Lib.hid (fit_nat hP (by omega))
  have FQ := Lib.hid (fit_nat hQ (by omega))
  obtain ⟨hk0, hk1, hbw, hsz⟩ := two_bx w 30 #[.bool na, .slice a n c] #[.bool nb, .slice b m d]
  have HB7 := Lib.hid hbw
  have HX7 := Lib.hid (hx.below hbw (Nat.le_refl _))
  have HY7 := Lib.hid (hy.below hbw (Nat.le_refl _))
  have HU := Lib.hid hu
  have HX2 := Lib.hid hX2
  have HDV := Lib.hid hdv
  have HQ0 := Lib.hid hq0
  have HFD := Lib.hid hfd
  have HFR := Lib.hid hfr
  have HCMP := Lib.hid hcmp
  have HCS := Lib.hid hcs
  have HR1 := Lib.hid hrn1
  have HR2 := Lib.hid hrn2
  have HNR := Lib.hid hnr
  have HTW := Lib.hid (fun w => two_any g w (by omega))
  have FG := Lib.hid (fit_two (n := g) (by omega))
  have t1 : decide (3000 < e) = false := by simp; omega
  have t2 : decide (e < -9000) = false := by simp; omega
  have t3 : decide (971 < (t : Int) - 1074) = false := by simp; omega
  have t4 : decide ((t : Int) - 1074 ≤ e) = false := by simp; omega
  have hsub : IntKind.i64.wrap ((t : Int) - 1074 - e) = (g : Int) := by rw [IntWalk.i64_in _ (by omega)]; omega
  have HSUB := Lib.hid hsub
  have HT5 := Lib.hid ht
  clear hN hD hA hx hy hP hQ hbw hu hX2 hdv hq0 hfd hfr hcmp hcs hrn1 hrn2 hnr hg hsub
  go_enter Try.func83, Try.ntmps83
  go_wp2_with fail
  generalize ((w.alloc (.cells #[.bool na, .slice a n c] 30)).alloc (.cells #[.bool nb, .slice b m d] 30)) = w7 at *
  generalize hsz0 : w.heap.size = s at *
  have HSZ := Lib.hid hsz0
  have HS := Lib.hid hsz
  have HK0 := Lib.hid hk0
  have HK1 := Lib.hid hk1
  clear hsz hk0 hk1 hsz0
  go_loopg [7, 8] 2098 (fun g lo hi wr => ∃ L H : Int, lo = .int .i64 L ∧ hi = .int .i64 H ∧ SearchAt N D L H ∧ -1074 ≤ L ∧ L ≤ H ∧ H ≤ 1024 ∧ H - L ≤ g ∧ Below w7.heap.size w7 wr)
  case atStart => exact ⟨_, _, rfl, rfl, ⟨.inl rfl, .inl rfl⟩, by omega, by omega, by omega, by omega, Below.refl _ _⟩
  case round =>
    obtain ⟨L, H, rfl, rfl, hS, hL0, hLH, hH1, hgk, hbl⟩ := hrel
    have HSR := Lib.hid hS
    have hk0 := HK0.out.below hbl HK0.out.lt
    have hk1 := HK1.out.below hbl HK1.out.lt
    have x0 : wr.cell? ⟨s, 0, none⟩ = some (.bool na) := hk0.cell 0
    have x1 : wr.cell? ⟨s, 1, none⟩ = some (.slice a n c) := hk0.cell 1
    have y0 : wr.cell? ⟨s + 1, 0, none⟩ = some (.bool nb) := hk1.cell 0
    have y1 : wr.cell? ⟨s + 1, 1, none⟩ = some (.slice b m d) := hk1.cell 1
    have hs0 : s < wr.heap.size := hk0.lt
    have hs1 : s + 1 < wr.heap.size := hk1.lt
    have HBW := Lib.hid hbl
    clear hS
    by_cases hlt : L < H
    · obtain ⟨tm, htm⟩ : ∃ tm : Nat, L + (H - L) / 2 + 1074 = (tm : Int) := ⟨(L + (H - L) / 2 + 1074).toNat, by omega⟩
      have HTM := Lib.hid htm
      have hm1 : L ≤ L + (H - L) / 2 := by omega
      have hm2 : L + (H - L) / 2 < H := by omega
      have htm2 : tm ≤ 3000 := by omega
      have hcall := rbelow_near na nb a b n c m d P Q e (L + (H - L) / 2 + 53) A B tm wr (HX7.out.below hbl (Nat.le_refl _)) (HY7.out.below hbl (Nat.le_refl _)) FP.out FQ.out HA.out (by omega) he1 he2 htm2
      rw [HN.out, HD.out] at hcall
      clear hbl hk0 hk1 htm
      by_cases hb : N < D * 2 ^ (tm + 53)
      · rw [decide_eq_true hb] at hcall
        have HC := Lib.hid hcall
        have HSN := Lib.hid (search_dn HSR.out HTM.out hb)
        clear hcall hb
        go_wp2_with fail
        refine HC.out.mono ?_; rintro z w8 ⟨rfl, hb8⟩
        have HB8 := Lib.hid (HBW.out.trans (hb8.mono HBW.out.size))
        clear hb8
        go_wp2_with fail
        go_roundg (gk - 1)
        case measure => omega
        case rel => exact ⟨_, _, rfl, rfl, HSN.out, by omega, by omega, by omega, by omega, HB8.out⟩
      · rw [decide_eq_false hb] at hcall
        have HC := Lib.hid hcall
        have HSN := Lib.hid (search_up HSR.out HTM.out hb)
        clear hcall hb
        go_wp2_with fail
        refine HC.out.mono ?_; rintro z w8 ⟨rfl, hb8⟩
        have HB8 := Lib.hid (HBW.out.trans (hb8.mono HBW.out.size))
        clear hb8
        go_wp2_with fail
        go_roundg (gk - 1)
        case measure => omega
        case rel => exact ⟨_, _, rfl, rfl, HSN.out, by omega, by omega, by omega, by omega, HB8.out⟩
    · obtain rfl : H = L := by omega
      obtain rfl := search_end HU.out HT5.out HSR.out hL0
      have hbA : Below wr.heap.size wr wr.drew := (Below.refl _ _).drew
      clear hlt hLH hgk
      go_wp2_with fail
      refine wp_regionL (fun w' => w'.cell? ⟨s, 0, none⟩ = some (.bool na) ∧ w'.cell? ⟨s, 1, none⟩ = some (.slice a n c) ∧ w'.cell? ⟨s + 1, 0, none⟩ = some (.bool nb) ∧ w'.cell? ⟨s + 1, 1, none⟩ = some (.slice b m d)) 6 (by kernel_rfl) (by exact ⟨x0, x1, y0, y1⟩) (fun hHeld => ?_)
      refine wpAnyL_take (i := 0) (oi := ⟨some 48, _, _, _, _, _⟩) (v := ?_) rfl (by kernel_rfl) (by kernel_rfl) (by kernel_rfl) (by kernel_rfl) (by kernel_rfl) (fun _ _ _ h => h) (Or.inl ⟨by rfl, ?_⟩) (by assumption) ?_
      rotate_left 1
      · (intro w hSw; (try dsimp only at hSw); go_simp; try with_reducible rfl)
      try simp only [Act.put, List.setIfInBounds_toArray, List.set_cons_zero, List.set_cons_succ]
      refine wpAnyL_take (i := 1) (oi := ⟨some 49, _, _, _, _, _⟩) (v := ?_) rfl (by kernel_rfl) (by kernel_rfl) (by kernel_rfl) (by kernel_rfl) (by kernel_rfl) (fun _ _ _ h => h) (Or.inl ⟨by rfl, ?_⟩) (by assumption) ?_
      rotate_left 1
      · (intro w hSw; (try dsimp only at hSw); go_simp; try with_reducible rfl)
      try simp only [Act.put, List.setIfInBounds_toArray, List.set_cons_zero, List.set_cons_succ]
      refine wpAnyL_take (i := 2) (oi := ⟨some 50, _, _, _, _, _⟩) (v := ?_) rfl (by kernel_rfl) (by kernel_rfl) (by kernel_rfl) (by kernel_rfl) (by kernel_rfl) (fun _ _ _ h => h) (Or.inl ⟨by rfl, ?_⟩) (by assumption) ?_
      rotate_left 1
      · (intro w hSw; (try dsimp only at hSw); go_simp; try with_reducible rfl)
      try simp only [Act.put, List.setIfInBounds_toArray, List.set_cons_zero, List.set_cons_succ]
      refine wpAnyL_take (i := 3) (oi := ⟨some 51, _, _, _, _, _⟩) (v := ?_) rfl (by kernel_rfl) (by kernel_rfl) (by kernel_rfl) (by kernel_rfl) (by kernel_rfl) (fun _ _ _ h => h) (Or.inl ⟨by rfl, ?_⟩) (by assumption) ?_
      rotate_left 1
      · (intro w hSw; (try dsimp only at hSw); go_simp; try with_reducible rfl)
      try simp only [Act.put, List.setIfInBounds_toArray, List.set_cons_zero, List.set_cons_succ]
      refine wpAnyL_one (i := 4) (o := ⟨some 52, _, _, _, _, _⟩) (by kernel_rfl) rfl (fun K hK => ?_)
      go_simp
      rw [HSUB.out]
      refine (HTW.out _).mono ?_
      rintro e w2 ⟨n2, p2, l2, c2, rfl, hN2, hb2, -⟩
      have hB2 := hbA.trans (hb2.mono (by exact Nat.le_refl _))
      have w20 : w2.cell? ⟨s, 0, none⟩ = some (.bool na) := by rw [(bcell hB2).1 _ _ hs0]; exact x0
      have w21 : w2.cell? ⟨s, 1, none⟩ = some (.slice a n c) := by rw [(bcell hB2).1 _ _ hs0]; exact x1
      have w22 : w2.cell? ⟨s + 1, 0, none⟩ = some (.bool nb) := by rw [(bcell hB2).1 _ _ hs1]; exact y0
      have w23 : w2.cell? ⟨s + 1, 1, none⟩ = some (.slice b m d) := by rw [(bcell hB2).1 _ _ hs1]; exact y1
      refine hK.out _ _ (by exact ⟨w20, w21, w22, w23⟩) ?_
      clear hK K hHeld
      intro hHeld
      try simp only [Act.put, List.setIfInBounds_toArray, List.set_cons_zero, List.set_cons_succ]
      refine wpAnyL_one (i := 5) (o := ⟨some 53, _, _, _, _, _⟩) (by kernel_rfl) rfl (fun K hK => ?_)
      go_simp
      refine (mul_any _ _ _ _ _ _ _ _ (Q : Int) (2 ^ g) _ (HY7.out.below (hbl.trans (hB2.mono hbl.size)) (Nat.le_refl _)) hN2 FQ.out FG.out).mono ?_
      rintro e w3 ⟨n3, p3, l3, c3, rfl, hN3, hb3, -⟩
      rw [← HX2.out] at hN3
      have hB3 := hB2.trans (hb3.mono hB2.size)
      have hBK0 := hk0.below hB3 hs0
      have hBK1 := hk1.below hB3 hs1
      have xf : ∀ o, w3.frozen? ⟨s + 1, o, none⟩ = false := fun o => hBK1.frozen o
      have w30 : w3.cell? ⟨s, 0, none⟩ = some (.bool na) := by rw [(bcell hB3).1 _ _ hs0]; exact x0
      have w31 : w3.cell? ⟨s, 1, none⟩ = some (.slice a n c) := by rw [(bcell hB3).1 _ _ hs0]; exact x1
      have w32 : w3.cell? ⟨s + 1, 0, none⟩ = some (.bool nb) := by rw [(bcell hB3).1 _ _ hs1]; exact y0
      have w33 : w3.cell? ⟨s + 1, 1, none⟩ = some (.slice b m d) := by rw [(bcell hB3).1 _ _ hs1]; exact y1
      refine hK.out _ _ (by exact ⟨w30, w31, w32, w33⟩) ?_
      clear hK K hHeld
      intro hHeld
      try simp only [Act.put, List.setIfInBounds_toArray, List.set_cons_zero, List.set_cons_succ]
      refine wpAnyL_last (o := ⟨none, _, _, _, _, _⟩) (by kernel_rfl) (by kernel_rfl) rfl (fun K hK => ?_)
      go_simp
      refine hK _ _ ?_
      clear hK K hHeld
      try simp only [Act.put, List.setIfInBounds_toArray, List.set_cons_zero, List.set_cons_succ]
      obtain ⟨w9, hw9⟩ : ∃ w9, (w3.setCell ⟨s + 1, 0, none⟩ (.bool n3)).setCell ⟨s + 1, 1, none⟩ (.slice p3 l3 c3) = w9 := ⟨_, rfl⟩
      rw [hw9]
      have HK9 : Hid (Blk w9 (s + 1) 30 #[.bool n3, .slice p3 l3 c3]) := Lib.hid (by rw [← hw9]; exact ((hBK1.set_ 0 _).set_ 1 _).to rfl)
      have HY9 : Hid (NumC w9 n3 p3 l3 c3 (Q2 : Int)) := Lib.hid (by rw [← hw9]; exact NumC.set2 hN3 w32 w33 _ _ _ _)
      have HX9 : Hid (NumC w9 na a n c (P : Int)) := Lib.hid (by rw [← hw9]; exact NumC.set2 (HX7.out.below (hbl.trans (hB3.mono hbl.size)) (Nat.le_refl _)) w32 w33 _ _ _ _)
      have HKP : Hid (Blk w9 s 30 #[.bool na, .slice a n c]) := Lib.hid (by rw [← hw9]; exact (hBK0.far (by simp) _).far (by simp) _)
      have HB9 : Hid (Below s w w9) := Lib.hid (by rw [← hw9]; exact ((HB7.out.trans ((hbl.trans (hB3.mono hbl.size)).mono (by rw [← HSZ.out]; exact HB7.out.size))).setCell (by simp) _).setCell (by simp) _)
      clear hw9 hbA hB2 hN2 hB3 hN3 hBK0 hBK1 hk0 hk1 xf w20 w21 w22 w23 w30 w31 w32 w33 x0 x1 y0 y1 hs0 hs1 hbl HBW hb2 hb3
      have p0 : w9.cell? ⟨s, 0, none⟩ = some (.bool na) := HKP.out.cell 0
      have p1 : w9.cell? ⟨s, 1, none⟩ = some (.slice a n c) := HKP.out.cell 1
      have q0 : w9.cell? ⟨s + 1, 0, none⟩ = some (.bool n3) := HK9.out.cell 0
      have q1 : w9.cell? ⟨s + 1, 1, none⟩ = some (.slice p3 l3 c3) := HK9.out.cell 1
      go_wp2_with fail
      refine (div_any _ _ _ _ _ _ _ _ (P : Int) (Q2 : Int) _ HX9.out HY9.out HQ0.out HFD.out).mono ?_
      rintro e w10 ⟨n5, p5, l5, c5, n6, p6, l6, c6, rfl, hZ1, hZ2, hb10⟩
      rw [HDV.out.1] at hZ1
      rw [HDV.out.2] at hZ2
      have HB10 := Lib.hid (HB9.out.trans (hb10.mono (by have := HK9.out.lt; omega)))
      have HK10 := Lib.hid (HK9.out.below hb10 HK9.out.lt)
      have HY10 := Lib.hid (HY9.out.below hb10 (Nat.le_refl _))
      have HZ1 := Lib.hid hZ1
      have HZ2 := Lib.hid hZ2
      clear hZ1 hZ2 hb10 p0 p1 q0 q1 HK9 HY9 HX9 HKP
      go_upto_region 17 with fail
      obtain ⟨hk0, hk1, hbw, hsz⟩ := two_bx w10 30 #[.bool n5, .slice p5 l5 c5] #[.bool n6, .slice p6 l6 c6]
      have HB11 := Lib.hid (HB10.out.trans (hbw.mono (by rw [← HSZ.out]; exact HB10.out.size)))
      have HK11 := Lib.hid (HK10.out.below hbw HK10.out.lt)
      have HY11 := Lib.hid (HY10.out.below hbw (Nat.le_refl _))
      have HZ1' := Lib.hid (HZ1.out.below hbw (Nat.le_refl _))
      have HZ2' := Lib.hid (HZ2.out.below hbw (Nat.le_refl _))
      have HKM := Lib.hid hk0
      have HKL := Lib.hid hk1
      clear hk0 hk1 hbw hsz HB10 HK10 HY10 HZ1 HZ2
      generalize ((w10.alloc (.cells #[.bool n5, .slice p5 l5 c5] 30)).alloc (.cells #[.bool n6, .slice p6 l6 c6] 30)) = w11 at *
      generalize w10.heap.size = u at *
      have l0 : w11.cell? ⟨u + 1, 0, none⟩ = some (.bool n6) := HKL.out.cell 0
      have l1 : w11.cell? ⟨u + 1, 1, none⟩ = some (.slice p6 l6 c6) := HKL.out.cell 1
      have q0 : w11.cell? ⟨s + 1, 0, none⟩ = some (.bool n3) := HK11.out.cell 0
      have q1 : w11.cell? ⟨s + 1, 1, none⟩ = some (.slice p3 l3 c3) := HK11.out.cell 1
      have hl0 : u + 1 < w11.heap.size := HKL.out.lt
      have hl1 : s + 1 < w11.heap.size := HK11.out.lt
      have hbA : Below w11.heap.size w11 w11.drew := (Below.refl _ _).drew
      go_region_held3 (fun w' => w'.cell? ⟨u + 1, 0, none⟩ = some (.bool n6) ∧ w'.cell? ⟨u + 1, 1, none⟩ = some (.slice p6 l6 c6) ∧ w'.cell? ⟨s + 1, 0, none⟩ = some (.bool n3) ∧ w'.cell? ⟨s + 1, 1, none⟩ = some (.slice p3 l3 c3)) (go_keep)
        (first
          | (go_at_call 21; refine (add_any _ _ _ _ _ _ _ _ (rm : Int) (rm : Int) _ (HZ2'.out.below hbA (Nat.le_refl _)) (HZ2'.out.below hbA (Nat.le_refl _)) HFR.out HFR.out).mono ?_; rintro e w12 ⟨n7, p7, l7, c7, rfl, hM12, hb12, -⟩; replace hbA := hbA.trans (hb12.mono (Nat.le_trans (by simp) hbA.size)); clear hb12; (try clear bc8 bf8); obtain ⟨bc8, bf8⟩ := bcell hbA)
          | (go_at_call 66; refine (cmp_at _ _ _ _ _ _ _ _ ((rm : Int) + (rm : Int)) (Q2 : Int) r _ HCMP.out hM12 (HY11.out.below hbA (Nat.le_refl _))).mono ?_; rintro e w13 ⟨rfl, hb13⟩; clear hM12 bc8 bf8; replace hbA := hbA.trans (hb13.mono (Nat.le_trans (by simp) hbA.size)); clear hb13; obtain ⟨bc8, bf8⟩ := bcell hbA))
      all_goals
        clear bc8 bf8 l0 l1 q0 q1
        have HB13 := Lib.hid (HB11.out.trans (hbA.mono (by rw [← HSZ.out]; exact HB11.out.size)))
        have HZ13 := Lib.hid (HZ1'.out.below hbA (Nat.le_refl _))
        have hkm := HKM.out.below hbA HKM.out.lt
        have m0 : w13.cell? ⟨u, 0, none⟩ = some (.bool n5) := hkm.cell 0
        have m1 : w13.cell? ⟨u, 1, none⟩ = some (.slice p5 l5 c5) := hkm.cell 1
        clear hkm hbA
        go_wp2_with fail
        refine (uint_nat _ _ _ _ v _ HZ13.out (by omega)).mono ?_
        rintro e w14 ⟨rfl, hb14⟩
        have HB14 := Lib.hid (HB13.out.trans (hb14.mono (by rw [← HSZ.out]; exact HB13.out.size)))
        clear hb14 m0 m1
        have hv2 : (v : Int) ≤ 9007199254740992 := by omega
        rcases HCS.out with ⟨c1, c2⟩ | ⟨c1, c2, c3, c4⟩ | ⟨c1, c2, c3, c4⟩ | ⟨c1, c2, c4⟩
        · have HT : Hid (∀ w, Calls Try.prog 101 #[.float .f64 (floatOfInt .f64 ((v : Int) + 1)), .int .i64 ((t : Int) - 1074)] w fun x w' => x = .returned (.float .f64 (min (t * B52 + rn) INF)) ∧ Below w.heap.size w w') := Lib.hid (fun w => by
            have h := rtimes_near rn t w HR1.out HT5.out HR2.out
            rw [c2] at h ⊢
            exact h)
          clear c2
          go_wp2_with fail
          refine (HT.out _).mono ?_; rintro z w15 ⟨rfl, hb15⟩
          have HB15 := Lib.hid (HB14.out.trans (hb15.mono (by rw [← HSZ.out]; exact HB14.out.size)))
          clear hb15
          go_wp2_with fail
          go_ret
          exact ⟨_, rfl, HNR.out, by rw [HSZ.out]; exact HB15.out⟩
        · have HT : Hid (∀ w, Calls Try.prog 101 #[.float .f64 (floatOfInt .f64 ((v : Int) + 1)), .int .i64 ((t : Int) - 1074)] w fun x w' => x = .returned (.float .f64 (min (t * B52 + rn) INF)) ∧ Below w.heap.size w w') := Lib.hid (fun w => by
            have h := rtimes_near rn t w HR1.out HT5.out HR2.out
            rw [c4] at h ⊢
            exact h)
          have c5 : ((v : Int) % 2 == 1) = true := by simp; omega
          clear c4 c3
          go_wp2_with fail
          refine (HT.out _).mono ?_; rintro z w15 ⟨rfl, hb15⟩
          have HB15 := Lib.hid (HB14.out.trans (hb15.mono (by rw [← HSZ.out]; exact HB14.out.size)))
          clear hb15
          go_wp2_with fail
          go_ret
          exact ⟨_, rfl, HNR.out, by rw [HSZ.out]; exact HB15.out⟩
        · have HT : Hid (∀ w, Calls Try.prog 101 #[.float .f64 (floatOfInt .f64 (v : Int)), .int .i64 ((t : Int) - 1074)] w fun x w' => x = .returned (.float .f64 (min (t * B52 + rn) INF)) ∧ Below w.heap.size w w') := Lib.hid (fun w => by
            have h := rtimes_near rn t w HR1.out HT5.out HR2.out
            rw [c4] at h ⊢
            exact h)
          have c5 : ((v : Int) % 2 == 1) = false := by simp; omega
          clear c4 c3
          go_wp2_with fail
          refine (HT.out _).mono ?_; rintro z w15 ⟨rfl, hb15⟩
          have HB15 := Lib.hid (HB14.out.trans (hb15.mono (by rw [← HSZ.out]; exact HB14.out.size)))
          clear hb15
          go_wp2_with fail
          go_ret
          exact ⟨_, rfl, HNR.out, by rw [HSZ.out]; exact HB15.out⟩
        · have HT : Hid (∀ w, Calls Try.prog 101 #[.float .f64 (floatOfInt .f64 (v : Int)), .int .i64 ((t : Int) - 1074)] w fun x w' => x = .returned (.float .f64 (min (t * B52 + rn) INF)) ∧ Below w.heap.size w w') := Lib.hid (fun w => by
            have h := rtimes_near rn t w HR1.out HT5.out HR2.out
            rw [c4] at h ⊢
            exact h)
          clear c4
          go_wp2_with fail
          refine (HT.out _).mono ?_; rintro z w15 ⟨rfl, hb15⟩
          have HB15 := Lib.hid (HB14.out.trans (hb15.mono (by rw [← HSZ.out]; exact HB14.out.size)))
          clear hb15
          go_wp2_with fail
          go_ret
          exact ⟨_, rfl, HNR.out, by rw [HSZ.out]; exact HB15.out⟩

end Go.Proofs.Ytfanjmgbkmdmfaa
