/- Contract of package bushelref04's Root. Conditions: numbers below 2^3000. -/
import Derived.Test.YtdbkgpakpadloaaGreatRatI
namespace Go.Proofs.YtdbkgpakpadloaaGreat
open Go.RowKit Ieee

theorem fits_hi_eq {M Q t g K : Nat} (h : t = g + K) : M * M * Q * 2 ^ (2 * g) * (2 ^ K * 2 ^ K) = Q * (M * 2 ^ t * (M * 2 ^ t)) := by
 rw [h, pow_dbl, Nat.pow_add]
 ac_rfl
theorem fits_lo_eq {M Q t : Nat} : M * M * Q * (2 ^ t * 2 ^ t) = Q * (M * 2 ^ t * (M * 2 ^ t)) := by ac_rfl
theorem fits_lo_eq2 {P t g K : Nat} (h : t + g = K) : P * 2 ^ (2 * g) * (2 ^ t * 2 ^ t) = P * (2 ^ K * 2 ^ K) := by
 rw [← h, pow_dbl, Nat.pow_add]
 ac_rfl
theorem fit_mm {M K : Nat} (hM : M < 2 ^ K) (hK : K ≤ 10000) : Fit ((M * M : Nat) : Int) := by
 refine fit_nat (K := K + K) ?_ (by omega)
 rw [Nat.pow_add]
 exact Nat.mul_lt_mul_of_lt_of_lt hM hM
theorem fit_mmq {M Q K : Nat} (hM : M < 2 ^ K) (hQ : Q < 2 ^ K) (hK : K ≤ 10000) : Fit ((M * M * Q : Nat) : Int) := by
 refine fit_nat (K := K + K + K) ?_ (by omega)
 rw [Nat.pow_add, Nat.pow_add]
 exact Nat.mul_lt_mul_of_lt_of_lt (Nat.mul_lt_mul_of_lt_of_lt hM hM) hQ

theorem cmpZ_le_iff {x y : Int} : cmpZ x y ≤ 0 ↔ x ≤ y := by
 unfold cmpZ
 split
 ·omega
 ·split <;> omega
theorem rfits_any (nm na nb : Bool) (f a b : Option Addr) (k1 k2 n c m d M P Q K : Nat) (u : Int) (t : Nat) (w : World) (hm : NumC w nm f k1 k2 (M : Int)) (hx : NumC w na a n c (P : Int)) (hy : NumC w nb b m d (Q : Int)) (hM : M < 2 ^ K) (hP : P < 2 ^ K) (hQ : Q < 2 ^ K) (hK : K ≤ 10000) (hu : u = (t : Int) - 1074) (ht : t ≤ 3000) :
  Calls Tryz.prog 103 #[.agg #[.bool nm, .slice f k1 k2], .int .i64 u, .agg #[.bool na, .slice a n c], .agg #[.bool nb, .slice b m d]] w fun z w' => z = .returned (.bool (decide (Q * (M * 2 ^ t * (M * 2 ^ t)) ≤ P * (2 ^ K1074 * 2 ^ K1074)))) ∧ Below w.heap.size w w' := by
 have hK1 : K1074 = 1074 := rfl
 rcases Nat.lt_or_ge t 1074 with h | h
 ·obtain ⟨g, hg⟩ : ∃ g, t + g = K1074 := ⟨1074 - t, by omega⟩
  refine (rfits_lo nm na nb f a b k1 k2 n c m d M P Q g u _ w hm hx hy (fit_nat hM (by omega)) (fit_mm hM hK) (fit_mmq hM hQ hK) (fit_nat hP (by omega)) (fit_nat hQ (by omega)) (by rw [IntWalk.i64_in _ (by omega)]; omega) (by simp; omega) (by omega) rfl).mono ?_
  rintro z w' ⟨rfl, hb⟩
  refine ⟨ret_bool ?_, hb⟩
  rw [← fits_lo_eq, ← fits_lo_eq2 hg, Bool.eq_iff_iff]
  simp only [decide_eq_true_eq]
  rw [Nat.mul_le_mul_right_iff (pp_pos t), ← Int.ofNat_le]
  exact cmpZ_le_iff
 ·obtain ⟨g, hg⟩ : ∃ g, t = g + K1074 := ⟨t - 1074, by omega⟩
  refine (rfits_hi nm na nb f a b k1 k2 n c m d M P Q g u _ w hm hx hy (fit_nat hM (by omega)) (fit_mm hM hK) (fit_mmq hM hQ hK) (fit_nat hP (by omega)) (fit_nat hQ (by omega)) (by rw [IntWalk.i64_in _ (by omega)]; omega) (by simp; omega) (by omega) rfl).mono ?_
  rintro z w' ⟨rfl, hb⟩
  refine ⟨ret_bool ?_, hb⟩
  rw [← fits_hi_eq hg, Bool.eq_iff_iff]
  simp only [decide_eq_true_eq]
  rw [Nat.mul_le_mul_right_iff (pp_pos K1074), ← Int.ofNat_le]
  exact cmpZ_le_iff
theorem rfits0_any (nm na nb : Bool) (f a b : Option Addr) (k1 k2 n c m d M P Q K : Nat) (u : Int) (t : Nat) (w : World) (hm : NumC w nm f k1 k2 (M : Int)) (hx : NumC w na a n c (P : Int)) (hy : NumC w nb b m d (Q : Int)) (hM : M < 2 ^ K) (hP : P < 2 ^ K) (hQ : Q < 2 ^ K) (hK : K ≤ 10000) (hu : u = (t : Int) - 1074) (ht : t ≤ 3000) :
  Calls Tryz.prog 104 #[.agg #[.bool nm, .slice f k1 k2], .int .i64 u, .agg #[.bool na, .slice a n c], .agg #[.bool nb, .slice b m d]] w fun z w' => z = .returned (.bool (decide (Q * (M * 2 ^ t * (M * 2 ^ t)) = P * (2 ^ K1074 * 2 ^ K1074)))) ∧ Below w.heap.size w w' := by
 have hK1 : K1074 = 1074 := rfl
 rcases Nat.lt_or_ge t 1074 with h | h
 ·obtain ⟨g, hg⟩ : ∃ g, t + g = K1074 := ⟨1074 - t, by omega⟩
  refine (rfits0_lo nm na nb f a b k1 k2 n c m d M P Q g u _ w hm hx hy (fit_nat hM (by omega)) (fit_mm hM hK) (fit_mmq hM hQ hK) (fit_nat hP (by omega)) (fit_nat hQ (by omega)) (by rw [IntWalk.i64_in _ (by omega)]; omega) (by simp; omega) (by omega) rfl).mono ?_
  rintro z w' ⟨rfl, hb⟩
  refine ⟨ret_bool ?_, hb⟩
  rw [← fits_lo_eq, ← fits_lo_eq2 hg, Bool.eq_iff_iff]
  simp only [beq_iff_eq, decide_eq_true_eq]
  rw [cmpZ_nul, Int.ofNat_inj]
  exact ⟨fun h => by rw [h], fun h => Nat.eq_of_mul_eq_mul_right (pp_pos t) h⟩
 ·obtain ⟨g, hg⟩ : ∃ g, t = g + K1074 := ⟨t - 1074, by omega⟩
  refine (rfits0_hi nm na nb f a b k1 k2 n c m d M P Q g u _ w hm hx hy (fit_nat hM (by omega)) (fit_mm hM hK) (fit_mmq hM hQ hK) (fit_nat hP (by omega)) (fit_nat hQ (by omega)) (by rw [IntWalk.i64_in _ (by omega)]; omega) (by simp; omega) (by omega) rfl).mono ?_
  rintro z w' ⟨rfl, hb⟩
  refine ⟨ret_bool ?_, hb⟩
  rw [← fits_hi_eq hg, Bool.eq_iff_iff]
  simp only [beq_iff_eq, decide_eq_true_eq]
  rw [cmpZ_nul, Int.ofNat_inj]
  exact ⟨fun h => by rw [h], fun h => Nat.eq_of_mul_eq_mul_right (pp_pos K1074) h⟩
def RSearch (N D : Nat) (L H : Int) : Prop := (L = -1074 ∨ D * (2 ^ ((L + 1074).toNat + 52) * 2 ^ ((L + 1074).toNat + 52)) ≤ N) ∧ (H = 1600 ∨ N < D * (2 ^ ((H + 1074).toNat + 53) * 2 ^ ((H + 1074).toNat + 53)))
theorem p53 (t : Nat) : 9007199254740992 * 2 ^ t = 2 ^ (t + 53) := by
 rw [Nat.add_comm, Nat.pow_add]
theorem rsearch_dn {N D tm : Nat} {L H M : Int} (h : RSearch N D L H) (hM : M + 1074 = (tm : Int)) (hb : ¬ D * (9007199254740992 * 2 ^ tm * (9007199254740992 * 2 ^ tm)) ≤ N) : RSearch N D L M := by
 rw [p53] at hb
 exact ⟨h.1, .inr (by rw [show (M + 1074).toNat = tm from by omega]; omega)⟩
theorem rsearch_up {N D tm : Nat} {L H M : Int} (h : RSearch N D L H) (hM : M + 1074 = (tm : Int)) (hb : D * (9007199254740992 * 2 ^ tm * (9007199254740992 * 2 ^ tm)) ≤ N) : RSearch N D (M + 1) H := by
 rw [p53] at hb
 exact ⟨.inr (by rw [show (M + 1 + 1074).toNat + 52 = tm + 53 from by omega]; exact hb), h.2⟩
theorem rsearch_end {N D t : Nat} {L : Int} (hu : RUnit N D t) (ht : t ≤ 2600) (h : RSearch N D L L) (h0 : -1074 ≤ L) : L = (t : Int) - 1074 := by
 have h1 : N < D * (2 ^ ((L + 1074).toNat + 53) * 2 ^ ((L + 1074).toNat + 53)) := by
  rcases h.2 with h2 | h2
  ·refine Nat.lt_of_lt_of_le hu.hi (Nat.mul_le_mul_left _ (sq_le.2 (Nat.pow_le_pow_right (by decide) (by omega))))
  ·exact h2
 have h3 : RUnit N D (L + 1074).toNat := ⟨hu.hD, h1, by
  rcases h.1 with h2 | h2
  ·exact .inl (by omega)
  ·exact .inr h2⟩
 have := hu.one h3
 omega
theorem runit_le {p q t K k : Nat} (hu : RUnit (p * (2 ^ k * 2 ^ k)) q t) (hp : p < 2 ^ K) (hK : K ≤ 3000) (hk : k = 1074) : t ≤ 2600 := by
 rcases hu.lo with h | h
 ·omega
 ·have h1 : 2 ^ (t + 52) * 2 ^ (t + 52) ≤ q * (2 ^ (t + 52) * 2 ^ (t + 52)) := Nat.le_mul_of_pos_left _ hu.hD
  have h2 : p * (2 ^ k * 2 ^ k) < 2 ^ K * (2 ^ k * 2 ^ k) := Nat.mul_lt_mul_of_pos_right hp (pp_pos k)
  have h3 := Nat.lt_of_le_of_lt (Nat.le_trans h1 h) h2
  rw [← Nat.pow_add, ← Nat.pow_add, ← Nat.pow_add] at h3
  have := two_pow_lt h3
  omega
/-- a whole number of units is its own nearest number -/
theorem near_int {m t : Nat} (hm : m ≤ 9007199254740992) (h : t = 0 ∨ 4503599627370496 ≤ m) : nearN m ((t : Int) - 1074) = min (t * B52 + m) INF := by
 rcases Nat.eq_zero_or_pos m with h0 | h0
 ·subst h0
  have ht : t = 0 := by omega
  subst ht
  rw [near_zero]
  rfl
 ·have hq : iv (t * B52 + m) = m * 2 ^ t := rung_of (by unfold B52; omega) h
  unfold nearN
  rw [nearest_iv (q := t * B52 + m) (a := t) (b := 0) false h0 (by omega) (by rw [hq, Nat.pow_zero, Nat.mul_one])]
  exact word_pos _
theorem upR_eq {N D t m : Nat} (A B : Bool) (hA : decide (D * ((2 * m + 1) * 2 ^ t * ((2 * m + 1) * 2 ^ t)) ≤ 4 * N) = A) (hB : decide (D * ((2 * m + 1) * 2 ^ t * ((2 * m + 1) * 2 ^ t)) = 4 * N) = B) :
  upR N D t m = (A && (decide (m % 2 = 1) || !B)) := by
 unfold upR
 rw [← hA, ← hB]
 generalize D * ((2 * m + 1) * 2 ^ t * ((2 * m + 1) * 2 ^ t)) = U
 rcases Nat.lt_trichotomy U (4 * N) with h | h | h
 ·rw [decide_eq_true h, decide_eq_true (show U ≤ 4 * N by omega), show decide (U = 4 * N) = false from by simp; omega]
  simp
 ·rw [h]
  simp
 ·rw [show decide (U < 4 * N) = false from by simp; omega, show decide (U ≤ 4 * N) = false from by simp; omega, show decide (U = 4 * N) = false from by simp; omega]
  simp

set_option maxRecDepth 100000 in
set_option maxHeartbeats 8000000 in
theorem rroot_any (na nb : Bool) (a b : Option Addr) (n c m d p q K : Nat) (w : World) (hx : NumC w na a n c (p : Int)) (hy : NumC w nb b m d (q : Int)) (hp : p < 2 ^ K) (hq : q < 2 ^ K) (hK : K ≤ 3000) :
  Calls Tryz.prog 63 #[.agg #[.bool na, .slice a n c], .agg #[.bool nb, .slice b m d]] w (RRoot p q w) := by
 have HLO := Lib.hid (fun w (hx : NumC w na a n c (p : Int)) (hy : NumC w nb b m d (q : Int)) => rlong_no na nb a b n c m d p q K w hx hy hp hq hK)
 have hlp := hx.lenb
 have hlq := hy.lenb
 have FP := Lib.hid (fit_nat hp (by omega))
 have F4 : Hid (Fit 4) := Lib.hid (fit_nat (P := 4) (K := 3) (by decide) (by decide))
 obtain ⟨hk0, hk1, hbw, -⟩ := two_bx w 74 #[.bool na, .slice a n c] #[.bool nb, .slice b m d]
 have HB7 := Lib.hid hbw
 have HP7 := Lib.hid (hx.below hbw (Nat.le_refl _))
 have HQ7 := Lib.hid (hy.below hbw (Nat.le_refl _))
 have HP := Lib.hid hp
 have HQ := Lib.hid hq
 clear hx hy hbw hp hq
 go_enter Tryz.func63, Tryz.ntmps63
 go_wp2_with fail
 generalize ((w.alloc (.cells #[.bool na, .slice a n c] 74)).alloc (.cells #[.bool nb, .slice b m d] 74)) = w7 at *
 generalize hsz0 : w.heap.size = s at *
 have HSZ := Lib.hid hsz0
 have x0 : w7.cell? ⟨s, 0, none⟩ = some (.bool na) := hk0.cell 0
 have x1 : w7.cell? ⟨s, 1, none⟩ = some (.slice a n c) := hk0.cell 1
 have y0 : w7.cell? ⟨s + 1, 0, none⟩ = some (.bool nb) := hk1.cell 0
 have y1 : w7.cell? ⟨s + 1, 1, none⟩ = some (.slice b m d) := hk1.cell 1
 have HK0 := Lib.hid hk0
 have HK1 := Lib.hid hk1
 clear hsz0 hk0 hk1
 go_wp2_with fail
 refine (HLO.out w7 HP7.out HQ7.out).mono ?_; rintro z w8 ⟨rfl, hb8⟩
 have HB8 := Lib.hid (HB7.out.trans (hb8.mono (by rw [← HSZ.out]; exact HB7.out.size)))
 have hk0 := HK0.out.below hb8 HK0.out.lt
 have hk1 := HK1.out.below hb8 HK1.out.lt
 have HP8 := Lib.hid (HP7.out.below hb8 (Nat.le_refl _))
 have HQ8 := Lib.hid (HQ7.out.below hb8 (Nat.le_refl _))
 clear x0 x1 y0 y1 hb8 HK0 HK1
 have x0 : w8.cell? ⟨s, 0, none⟩ = some (.bool na) := hk0.cell 0
 have x1 : w8.cell? ⟨s, 1, none⟩ = some (.slice a n c) := hk0.cell 1
 have y0 : w8.cell? ⟨s + 1, 0, none⟩ = some (.bool nb) := hk1.cell 0
 have y1 : w8.cell? ⟨s + 1, 1, none⟩ = some (.slice b m d) := hk1.cell 1
 have HK0 := Lib.hid hk0
 have HK1 := Lib.hid hk1
 clear hk0 hk1
 rcases hlp with ⟨l1, p0, rfl⟩ | ⟨l1, p0⟩ <;> rcases hlq with ⟨l2, q0, rfl⟩ | ⟨l2, q0⟩
 ·have HP0 := Lib.hid p0
  have HQ0 := Lib.hid q0
  clear p0 q0
  go_wp2_with fail
  refine (rnone_any w8).mono ?_; rintro z w9 ⟨r, rfl, hr1, hr2, hb9⟩
  have HB9 := Lib.hid (HB8.out.trans (hb9.mono (by rw [← HSZ.out]; exact HB8.out.size)))
  have HR1 := Lib.hid hr1
  have HR2 := Lib.hid hr2
  clear hb9 hr1 hr2
  go_wp2_with fail
  go_ret
  exact ⟨_, rfl, ⟨HR1.out, .inl ⟨HP0.out, HQ0.out, HR2.out⟩⟩, by rw [HSZ.out]; exact HB9.out⟩
 ·have HP0 := Lib.hid p0
  have HQ0 := Lib.hid q0
  clear p0 q0
  go_wp2_with fail
  go_ret
  exact ⟨_, rfl, ⟨by decide, .inr (.inr (.inl ⟨HP0.out, by have := HQ0.out; omega, rfl⟩))⟩, by rw [HSZ.out]; exact HB8.out⟩
 ·have HP0 := Lib.hid p0
  have HQ0 := Lib.hid q0
  have HI := Lib.hid (fun w => rinfinity_any w)
  obtain ⟨qi, hqi⟩ : ∃ q : Nat, q = INF := ⟨_, rfl⟩
  rw [← hqi] at HI
  have HQI := Lib.hid hqi
  clear p0 q0 hqi
  go_wp2_with fail
  refine (HI.out _).mono ?_; rintro z w9 ⟨rfl, rfl⟩
  go_wp2_with fail
  go_ret
  exact ⟨_, rfl, ⟨by rw [HQI.out]; decide, .inr (.inl ⟨by have := HP0.out; omega, HQ0.out, HQI.out⟩)⟩, by rw [HSZ.out]; exact HB8.out⟩
 ·have HP0 := Lib.hid p0
  have HQ0 := Lib.hid q0
  obtain ⟨t, ht⟩ := runit_exist (p * (2 ^ K1074 * 2 ^ K1074)) q0
  have ht2 := runit_le ht HP.out hK rfl
  have HT2 := Lib.hid ht2
  obtain ⟨N, hN⟩ : ∃ N, p * (2 ^ K1074 * 2 ^ K1074) = N := ⟨_, rfl⟩
  have HFT : Hid (∀ (nm : Bool) (f : Option Addr) (k1 k2 M : Nat) (u : Int) (tt : Nat) (w : World), NumC w nm f k1 k2 (M : Int) → NumC w na a n c (p : Int) → NumC w nb b m d (q : Int) → M ≤ 9007199254740992 → u = (tt : Int) - 1074 → tt ≤ 3000 →
    Calls Tryz.prog 103 #[.agg #[.bool nm, .slice f k1 k2], .int .i64 u, .agg #[.bool na, .slice a n c], .agg #[.bool nb, .slice b m d]] w fun z w' => z = .returned (.bool (decide (q * (M * 2 ^ tt * (M * 2 ^ tt)) ≤ N))) ∧ Below w.heap.size w w') := Lib.hid (fun nm f k1 k2 M u tt w h1 h2 h3 h4 h5 h6 => by
   rw [← hN]
   exact rfits_any nm na nb f a b k1 k2 n c m d M p q (K + 60) u tt w h1 h2 h3 (Nat.lt_of_le_of_lt h4 (Nat.lt_of_lt_of_le (show 9007199254740992 < 2 ^ 60 by decide) (Nat.pow_le_pow_right (by decide) (by omega)))) (pow_le_two HP.out) (pow_le_two HQ.out) (by omega) h5 h6)
  rw [hN] at ht
  have HU := Lib.hid ht
  have HN := Lib.hid hN
  clear p0 q0 ht ht2 hN
  go_wp2_with fail
  go_loopg [5, 6] 2674 (fun g lo hi wr => ∃ L H : Int, lo = .int .i64 L ∧ hi = .int .i64 H ∧ RSearch N q L H ∧ -1074 ≤ L ∧ L ≤ H ∧ H ≤ 1600 ∧ H - L ≤ g ∧ Below w8.heap.size w8 wr)
  case atStart => exact ⟨_, _, rfl, rfl, ⟨.inl rfl, .inl rfl⟩, by omega, by omega, by omega, by omega, Below.refl _ _⟩
  case round =>
   obtain ⟨L, H, rfl, rfl, hS, hL0, hLH, hH1, hgk, hbl⟩ := hrel
   have HSR := Lib.hid hS
   have hk0 := HK0.out.below hbl HK0.out.lt
   have hk1 := HK1.out.below hbl HK1.out.lt
   clear x0 x1 y0 y1
   have x0 : wr.cell? ⟨s, 0, none⟩ = some (.bool na) := hk0.cell 0
   have x1 : wr.cell? ⟨s, 1, none⟩ = some (.slice a n c) := hk0.cell 1
   have y0 : wr.cell? ⟨s + 1, 0, none⟩ = some (.bool nb) := hk1.cell 0
   have y1 : wr.cell? ⟨s + 1, 1, none⟩ = some (.slice b m d) := hk1.cell 1
   have hs0 : s < wr.heap.size := hk0.lt
   have hs1 : s + 1 < wr.heap.size := hk1.lt
   have HBW := Lib.hid hbl
   have HPr := Lib.hid (HP8.out.below hbl (Nat.le_refl _))
   have HQr := Lib.hid (HQ8.out.below hbl (Nat.le_refl _))
   clear hS hk0 hk1 hbl
   by_cases hlt : L < H
   ·obtain ⟨tm, htm⟩ : ∃ tm : Nat, L + (H - L) / 2 + 1074 = (tm : Int) := ⟨(L + (H - L) / 2 + 1074).toNat, by omega⟩
    have HTM := Lib.hid htm
    have hm1 : L ≤ L + (H - L) / 2 := by omega
    have hm2 : L + (H - L) / 2 < H := by omega
    have htm2 : tm ≤ 3000 := by omega
    have HTM2 := Lib.hid htm2
    have HCL : Hid (∀ nm f k1 k2 w, NumC w nm f k1 k2 (2 ^ 53) → NumC w na a n c (p : Int) → NumC w nb b m d (q : Int) → Calls Tryz.prog 103 #[.agg #[.bool nm, .slice f k1 k2], .int .i64 (L + (H - L) / 2), .agg #[.bool na, .slice a n c], .agg #[.bool nb, .slice b m d]] w fun z w' => z = .returned (.bool (decide (q * (9007199254740992 * 2 ^ tm * (9007199254740992 * 2 ^ tm)) ≤ N))) ∧ Below w.heap.size w w') := Lib.hid (fun nm f k1 k2 w h1 h2 h3 => HFT.out nm f k1 k2 9007199254740992 _ tm w h1 h2 h3 (by omega) (by have := HTM.out; omega) htm2)
    have hbA : Below wr.heap.size wr wr.drew := (Below.refl _ _).drew
    clear htm htm2
    by_cases hb : q * (9007199254740992 * 2 ^ tm * (9007199254740992 * 2 ^ tm)) ≤ N
    ·rw [decide_eq_true hb] at HCL
     have HSN := Lib.hid (rsearch_up HSR.out HTM.out hb)
     clear hb
     go_upto_region 10 with fail
     go_region_held3 (fun w' => w'.cell? ⟨s, 0, none⟩ = some (.bool na) ∧ w'.cell? ⟨s, 1, none⟩ = some (.slice a n c) ∧ w'.cell? ⟨s + 1, 0, none⟩ = some (.bool nb) ∧ w'.cell? ⟨s + 1, 1, none⟩ = some (.slice b m d)) (go_keep)
      (first
       | (go_at_call 58; refine (two_any 53 _ (by omega)).mono ?_; rintro e w8 ⟨m8, b8, l8, d8, rfl, hM8, hb8, -⟩; replace hbA := hbA.trans (hb8.mono (Nat.le_trans (by simp) hbA.size)); clear hb8; (try clear bc8 bf8); obtain ⟨bc8, bf8⟩ := bcell hbA)
       | (go_at_call 103; refine (HCL.out _ _ _ _ _ hM8 (HPr.out.below hbA (Nat.le_refl _)) (HQr.out.below hbA (Nat.le_refl _))).mono ?_; rintro e w9 ⟨rfl, hb9⟩; clear hM8 bc8 bf8; replace hbA := hbA.trans (hb9.mono (Nat.le_trans (by simp) hbA.size)); clear hb9; obtain ⟨bc8, bf8⟩ := bcell hbA))
     all_goals
      have HB8' := Lib.hid (HBW.out.trans (hbA.mono HBW.out.size))
      clear hbA bc8 bf8
      go_wp2_with fail
      go_roundg (gk - 1)
      case measure => omega
      case rel => exact ⟨_, _, rfl, rfl, HSN.out, by omega, by omega, by omega, by omega, HB8'.out⟩
    ·rw [decide_eq_false hb] at HCL
     have HSN := Lib.hid (rsearch_dn HSR.out HTM.out hb)
     clear hb
     go_upto_region 10 with fail
     go_region_held3 (fun w' => w'.cell? ⟨s, 0, none⟩ = some (.bool na) ∧ w'.cell? ⟨s, 1, none⟩ = some (.slice a n c) ∧ w'.cell? ⟨s + 1, 0, none⟩ = some (.bool nb) ∧ w'.cell? ⟨s + 1, 1, none⟩ = some (.slice b m d)) (go_keep)
      (first
       | (go_at_call 58; refine (two_any 53 _ (by omega)).mono ?_; rintro e w8 ⟨m8, b8, l8, d8, rfl, hM8, hb8, -⟩; replace hbA := hbA.trans (hb8.mono (Nat.le_trans (by simp) hbA.size)); clear hb8; (try clear bc8 bf8); obtain ⟨bc8, bf8⟩ := bcell hbA)
       | (go_at_call 103; refine (HCL.out _ _ _ _ _ hM8 (HPr.out.below hbA (Nat.le_refl _)) (HQr.out.below hbA (Nat.le_refl _))).mono ?_; rintro e w9 ⟨rfl, hb9⟩; clear hM8 bc8 bf8; replace hbA := hbA.trans (hb9.mono (Nat.le_trans (by simp) hbA.size)); clear hb9; obtain ⟨bc8, bf8⟩ := bcell hbA))
     all_goals
      have HB8' := Lib.hid (HBW.out.trans (hbA.mono HBW.out.size))
      clear hbA bc8 bf8
      go_wp2_with fail
      go_roundg (gk - 1)
      case measure => omega
      case rel => exact ⟨_, _, rfl, rfl, HSN.out, by omega, by omega, by omega, by omega, HB8'.out⟩
   ·obtain rfl : H = L := by omega
    obtain rfl := rsearch_end HU.out HT2.out HSR.out hL0
    clear hlt hLH hgk hL0 hH1
    have hT2 : (t : Int) ≤ 2600 := by have := HT2.out; omega
    have HB9 := Lib.hid (HB8.out.trans (HBW.out.mono (by rw [← HSZ.out]; exact HB8.out.size)))
    have HKr0 := Lib.hid (HK0.out.below HBW.out HK0.out.lt)
    have HKr1 := Lib.hid (HK1.out.below HBW.out HK1.out.lt)
    obtain ⟨wo, hwo⟩ : ∃ wo : World, wo = wr := ⟨_, rfl⟩
    subst hwo
    clear HBW HP8 HQ8 HK0 HK1 HB7 HB8 HP7 HQ7 HLO HSR
    go_wp2_with fail
    go_loopg [8, 9] 9007199254740992 (fun g lo hi wr => ∃ M H : Nat, lo = .int .u64 (M : Int) ∧ hi = .int .u64 (H : Int) ∧ q * (M * 2 ^ t * (M * 2 ^ t)) ≤ N ∧ N < q * (H * 2 ^ t * (H * 2 ^ t)) ∧ M < H ∧ (H : Int) ≤ 9007199254740992 ∧ H - M ≤ g ∧ Below wo.heap.size wo wr)
    case atStart => exact ⟨0, 9007199254740992, rfl, rfl, by rw [Nat.zero_mul, Nat.zero_mul, Nat.mul_zero]; exact Nat.zero_le _, by rw [p53]; exact HU.out.hi, by omega, by omega, by omega, Below.refl _ _⟩
    case round =>
     obtain ⟨M, H, rfl, rfl, hS1, hS2, hLH, hH1, hgk, hbl⟩ := hrel
     have HS1 := Lib.hid hS1
     have HS2 := Lib.hid hS2
     have hk0 := HKr0.out.below hbl HKr0.out.lt
     have hk1 := HKr1.out.below hbl HKr1.out.lt
     clear x0 x1 y0 y1 hs0 hs1
     have x0 : wr.cell? ⟨s, 0, none⟩ = some (.bool na) := hk0.cell 0
     have x1 : wr.cell? ⟨s, 1, none⟩ = some (.slice a n c) := hk0.cell 1
     have y0 : wr.cell? ⟨s + 1, 0, none⟩ = some (.bool nb) := hk1.cell 0
     have y1 : wr.cell? ⟨s + 1, 1, none⟩ = some (.slice b m d) := hk1.cell 1
     have hs0 : s < wr.heap.size := hk0.lt
     have hs1 : s + 1 < wr.heap.size := hk1.lt
     have HBW := Lib.hid hbl
     have HPq := Lib.hid (HPr.out.below hbl (Nat.le_refl _))
     have HQq := Lib.hid (HQr.out.below hbl (Nat.le_refl _))
     have hh1 : (M : Int) < (H : Int) := by omega
     have HKQ0 := Lib.hid hk0
     have HKQ1 := Lib.hid hk1
     clear hS1 hS2 hk0 hk1 hbl
     by_cases hlt : M + 1 < H
     ·have HMD : Hid ((M : Int) + ((H : Int) - (M : Int)) / 2 = ((M + (H - M) / 2 : Nat) : Int)) := Lib.hid (by omega)
      have hg1 : decide ((1 : Int) < (H : Int) - (M : Int)) = true := by simp; omega
      have hm1 : M < M + (H - M) / 2 := by omega
      have hm2 : M + (H - M) / 2 < H := by omega
      generalize M + (H - M) / 2 = mid at *
      have hmi : (mid : Int) ≤ 9007199254740992 := by omega
      have HCL : Hid (∀ nm f k1 k2 w, NumC w nm f k1 k2 (mid : Int) → NumC w na a n c (p : Int) → NumC w nb b m d (q : Int) → Calls Tryz.prog 103 #[.agg #[.bool nm, .slice f k1 k2], .int .i64 ((t : Int) - 1074), .agg #[.bool na, .slice a n c], .agg #[.bool nb, .slice b m d]] w fun z w' => z = .returned (.bool (decide (q * (mid * 2 ^ t * (mid * 2 ^ t)) ≤ N))) ∧ Below w.heap.size w w') := Lib.hid (fun nm f k1 k2 w h1 h2 h3 => HFT.out nm f k1 k2 mid _ t w h1 h2 h3 (by omega) rfl (by omega))
      have HNT : Hid (∀ w, Calls Tryz.prog 99 #[.int .u64 ((M : Int) + ((H : Int) - (M : Int)) / 2)] w (RetNum w (mid : Int))) := Lib.hid (fun w => by rw [HMD.out]; exact nat_any (mid : Int) w (by omega) (by omega))
      have hbA : Below wr.heap.size wr wr.drew := (Below.refl _ _).drew
      have hgk1 : 1 ≤ gk := by omega
      by_cases hb : q * (mid * 2 ^ t * (mid * 2 ^ t)) ≤ N
      ·rw [decide_eq_true hb] at HCL
       have HSN := Lib.hid hb
       clear hb
       go_upto_region 16 with fail
       go_region_held3 (fun w' => w'.cell? ⟨s, 0, none⟩ = some (.bool na) ∧ w'.cell? ⟨s, 1, none⟩ = some (.slice a n c) ∧ w'.cell? ⟨s + 1, 0, none⟩ = some (.bool nb) ∧ w'.cell? ⟨s + 1, 1, none⟩ = some (.slice b m d)) (go_keep)
        (first
         | (go_at_call 99; refine (HNT.out _).mono ?_; rintro e w8 ⟨m8, b8, l8, d8, rfl, hM8, hb8, -⟩; replace hbA := hbA.trans (hb8.mono (Nat.le_trans (by simp) hbA.size)); clear hb8; (try clear bc8 bf8); obtain ⟨bc8, bf8⟩ := bcell hbA)
         | (go_at_call 103; refine (HCL.out _ _ _ _ _ hM8 (HPq.out.below hbA (Nat.le_refl _)) (HQq.out.below hbA (Nat.le_refl _))).mono ?_; rintro e w9 ⟨rfl, hb9⟩; clear hM8 bc8 bf8; replace hbA := hbA.trans (hb9.mono (Nat.le_trans (by simp) hbA.size)); clear hb9; obtain ⟨bc8, bf8⟩ := bcell hbA))
       all_goals
        have HB8' := Lib.hid (HBW.out.trans (hbA.mono HBW.out.size))
        clear hbA bc8 bf8
        go_wp2_with fail
        go_roundg (gk - 1)
        case measure => omega
        case rel => exact ⟨mid, H, congrArg (Value.int .u64) HMD.out, rfl, HSN.out, HS2.out, by omega, by omega, by omega, HB8'.out⟩
      ·rw [decide_eq_false hb] at HCL
       have HSN := Lib.hid (Nat.lt_of_not_le hb)
       clear hb
       go_upto_region 16 with fail
       go_region_held3 (fun w' => w'.cell? ⟨s, 0, none⟩ = some (.bool na) ∧ w'.cell? ⟨s, 1, none⟩ = some (.slice a n c) ∧ w'.cell? ⟨s + 1, 0, none⟩ = some (.bool nb) ∧ w'.cell? ⟨s + 1, 1, none⟩ = some (.slice b m d)) (go_keep)
        (first
         | (go_at_call 99; refine (HNT.out _).mono ?_; rintro e w8 ⟨m8, b8, l8, d8, rfl, hM8, hb8, -⟩; replace hbA := hbA.trans (hb8.mono (Nat.le_trans (by simp) hbA.size)); clear hb8; (try clear bc8 bf8); obtain ⟨bc8, bf8⟩ := bcell hbA)
         | (go_at_call 103; refine (HCL.out _ _ _ _ _ hM8 (HPq.out.below hbA (Nat.le_refl _)) (HQq.out.below hbA (Nat.le_refl _))).mono ?_; rintro e w9 ⟨rfl, hb9⟩; clear hM8 bc8 bf8; replace hbA := hbA.trans (hb9.mono (Nat.le_trans (by simp) hbA.size)); clear hb9; obtain ⟨bc8, bf8⟩ := bcell hbA))
       all_goals
        have HB8' := Lib.hid (HBW.out.trans (hbA.mono HBW.out.size))
        clear hbA bc8 bf8
        go_wp2_with fail
        go_roundg (gk - 1)
        case measure => omega
        case rel => exact ⟨M, mid, rfl, congrArg (Value.int .u64) HMD.out, HS1.out, HSN.out, by omega, by omega, by omega, HB8'.out⟩
     ·obtain rfl : H = M + 1 := by omega
      have hg1 : decide ((1 : Int) < ((M + 1 : Nat) : Int) - (M : Int)) = false := by simp; omega
      have HM1 : Hid (M ≤ 9007199254740991) := Lib.hid (by omega)
      have hMi : (M : Int) ≤ 9007199254740991 := by omega
      clear hlt hgk hLH hH1 hh1
      have HNO : Hid (∀ w, Calls Tryz.prog 99 #[.int .u64 (2 * (M : Int) + 1)] w (RetNum w ((2 * M + 1 : Nat) : Int))) := Lib.hid (fun w => nat_any (2 * (M : Int) + 1) w (by omega) (by have := HM1.out; omega))
      obtain ⟨A, hA⟩ : ∃ A, decide (q * ((2 * M + 1) * 2 ^ t * ((2 * M + 1) * 2 ^ t)) ≤ 4 * N) = A := ⟨_, rfl⟩
      obtain ⟨B, hB⟩ : ∃ B, decide (q * ((2 * M + 1) * 2 ^ t * ((2 * M + 1) * 2 ^ t)) = 4 * N) = B := ⟨_, rfl⟩
      have HUP := Lib.hid (upR_eq A B hA hB)
      have h4p : 4 * p < 2 ^ (K + 60) := by
       have h1 := HP.out
       have h2 : 4 * 2 ^ K ≤ 2 ^ 60 * 2 ^ K := Nat.mul_le_mul_right _ (by decide)
       rw [Nat.add_comm, Nat.pow_add]
       omega
      have hodd : 2 * M + 1 < 2 ^ (K + 60) := by
       have h1 := HM1.out
       have h2 : 2 ^ 60 * 1 ≤ 2 ^ 60 * 2 ^ K := Nat.mul_le_mul_left _ (Nat.two_pow_pos K)
       rw [Nat.add_comm K, Nat.pow_add]
       omega
      have HF1 : Hid (∀ nm f k1 k2 n4 a4 l4 c4 w, NumC w nm f k1 k2 ((2 * M + 1 : Nat) : Int) → NumC w n4 a4 l4 c4 ((4 * p : Nat) : Int) → NumC w nb b m d (q : Int) → Calls Tryz.prog 103 #[.agg #[.bool nm, .slice f k1 k2], .int .i64 ((t : Int) - 1074), .agg #[.bool n4, .slice a4 l4 c4], .agg #[.bool nb, .slice b m d]] w fun z w' => z = .returned (.bool A) ∧ Below w.heap.size w w') := Lib.hid (fun nm f k1 k2 n4 a4 l4 c4 w h1 h2 h3 => by
       have h := rfits_any nm n4 nb f a4 b k1 k2 l4 c4 m d (2 * M + 1) (4 * p) q (K + 60) _ t w h1 h2 h3 hodd h4p (pow_le_two HQ.out) (by omega) rfl (by omega)
       rw [Nat.mul_assoc 4 p, HN.out, hA] at h
       exact h)
      have HF2 : Hid (∀ nm f k1 k2 n4 a4 l4 c4 w, NumC w nm f k1 k2 ((2 * M + 1 : Nat) : Int) → NumC w n4 a4 l4 c4 ((4 * p : Nat) : Int) → NumC w nb b m d (q : Int) → Calls Tryz.prog 104 #[.agg #[.bool nm, .slice f k1 k2], .int .i64 ((t : Int) - 1074), .agg #[.bool n4, .slice a4 l4 c4], .agg #[.bool nb, .slice b m d]] w fun z w' => z = .returned (.bool B) ∧ Below w.heap.size w w') := Lib.hid (fun nm f k1 k2 n4 a4 l4 c4 w h1 h2 h3 => by
       have h := rfits0_any nm n4 nb f a4 b k1 k2 l4 c4 m d (2 * M + 1) (4 * p) q (K + 60) _ t w h1 h2 h3 hodd h4p (pow_le_two HQ.out) (by omega) rfl (by omega)
       rw [Nat.mul_assoc 4 p, HN.out, hB] at h
       exact h)
      have HML : Hid (t = 0 ∨ 4503599627370496 ≤ M) := Lib.hid (by
       rcases HU.out.lo with h | h
       ·exact .inl h
       ·right
        have e : (2 : Nat) ^ (t + 52) = 4503599627370496 * 2 ^ t := by rw [Nat.add_comm, Nat.pow_add]
        rw [e] at h
        exact root_floor_le h HS2.out)
      have HJN : Hid (∀ (v : Nat) (nm : Bool) (f : Option Addr) (k1 k2 : Nat) (w : World), NumC w nm f k1 k2 (v : Int) → v ≤ 9007199254740992 → v = M + (upR N q t M).toNat → Calls Tryz.prog 105 #[.bool false, .agg #[.bool nm, .slice f k1 k2], .int .i64 ((t : Int) - 1074)] w fun z w' => ∃ y, z = .returned (.float .f64 y) ∧ IsRootQ p q y ∧ Below w.heap.size w w') := Lib.hid (fun v nm f k1 k2 w h1 h2 h3 => by
       refine (rjoin_any false nm f k1 k2 v 60 _ w h1 (Nat.lt_of_le_of_lt h2 (by decide)) (by decide)).mono ?_
       rintro z w' ⟨rfl, hb⟩
       refine ⟨_, rfl, ⟨join_lt0 _ _ _, .inr (.inr (.inr ⟨by have := HP0.out; omega, by have := HQ0.out; omega, ?_⟩))⟩, hb⟩
       rw [join_sgn, sgnW_no, HN.out]
       refine ⟨t, M, HU.out, HS1.out, HS2.out, ?_⟩
       rw [← h3]
       refine near_int h2 ?_
       rcases HML.out with h | h
       ·exact .inl h
       ·right; omega)
      have HBo := Lib.hid (HB9.out.trans (HBW.out.mono (by rw [← HSZ.out]; exact HB9.out.size)))
      clear hA hB h4p hodd
      clear HFT HS1 HS2 HB9 HBW HPr HQr HKr0 HKr1 HML
      have HK0q := Lib.hid (show Blk wr s 74 #[.bool na, .slice a n c] from HKQ0.out)
      have HK1q := Lib.hid (show Blk wr (s + 1) 74 #[.bool nb, .slice b m d] from HKQ1.out)
      go_wp2_with fail
      refine (HNO.out _).mono ?_; rintro e w2 ⟨no, ao, lo, co, rfl, hO, hb2, -⟩
      go_upto_region 20 with fail
      obtain ⟨hko, hbw⟩ := one_box w2 74 #[.bool no, .slice ao lo co]
      have hb3 := hb2.trans (hbw.mono hb2.size)
      have HB3 := Lib.hid (HBo.out.trans (hb3.mono (by rw [← HSZ.out]; exact HBo.out.size)))
      have HXb := Lib.hid (HPq.out.below hb3 (Nat.le_refl _))
      have HYb := Lib.hid (HQq.out.below hb3 (Nat.le_refl _))
      have HOb := Lib.hid (hO.below hbw (Nat.le_refl _))
      have hk0 := HK0q.out.below hb3 HK0q.out.lt
      have HK1b := Lib.hid (HK1q.out.below hb3 HK1q.out.lt)
      have HKO := Lib.hid hko
      clear hb2 hbw hb3 hO hko x0 x1 y0 y1 hs0 hs1 HPq HQq HK0q HK1q HKQ0 HKQ1 HBo
      generalize (w2.alloc (.cells #[.bool no, .slice ao lo co] 74)) = wb at *
      generalize w2.heap.size = so at *
      have x0 : wb.cell? ⟨s, 0, none⟩ = some (.bool na) := hk0.cell 0
      have x1 : wb.cell? ⟨s, 1, none⟩ = some (.slice a n c) := hk0.cell 1
      have hlt_s : s < wb.heap.size := hk0.lt
      clear hk0
      have hbA : Below wb.heap.size wb wb.drew := (Below.refl _ _).drew
      go_upto_region 20 with fail
      go_cut [12] (fun sB wx => ∃ (t : Nat) (nB : Bool) (pB : Option Addr) (lB cB : Nat), sB = .pointer (some ⟨t, 0, none⟩) ∧ Blk wx t 74 #[.bool nB, .slice pB lB cB] ∧ NumC wx nB pB lB cB ((p : Int) * 4) ∧ Below wb.heap.size wb wx)
      case first =>
       go_region_held3 (fun w' => w'.cell? ⟨s, 0, none⟩ = some (.bool na) ∧ w'.cell? ⟨s, 1, none⟩ = some (.slice a n c)) (first | (exact ⟨x0, x1⟩) | go_keep | (exact ⟨sR10, sR11⟩) | (exact ⟨sR20, sR21⟩) | (refine ⟨?_, ?_⟩ <;> (rw [World.cell?_alloc_lt _ _ _ (by (try simp) <;> omega)]; assumption)) | (refine ⟨?_, ?_⟩ <;> (rw [World.cell?_setCell_other _ _ _ _ (by (try simp) <;> omega), World.cell?_setCell_other _ _ _ _ (by (try simp) <;> omega)]; assumption)))
        (first
         | (go_at_call 99; refine (nat_any 4 _ (by omega) (by omega)).mono ?_; rintro e wR1 ⟨nR1, pR1, lR1, cR1, rfl, hN1, hbc1, -⟩; have hbR1 : Below wb.heap.size wb wR1 := (by first | exact hbA.trans (hbc1.mono hbA.size) | exact (hbA.alloc hbA.size _).trans (hbc1.mono (Nat.le_trans hbA.size (by simp)))); have hsR1 := hbR1.size; have sR10 : wR1.cell? ⟨s, 0, none⟩ = some (.bool na) := (by rw [(bcell hbR1).1 _ _ hlt_s]; exact x0); have sR11 : wR1.cell? ⟨s, 1, none⟩ = some (.slice a n c) := (by rw [(bcell hbR1).1 _ _ hlt_s]; exact x1); (try ((first | (have HT1 := (Blk.new _ 74 #[.bool false, .slice none 0 0]).below hbc1 (by simp)) | (have HT1 := (Blk.new _ 74 #[.bool false, .slice none 0 0]).drew.below hbc1 (by simp))); have t10 : wR1.cell? ⟨_, 0, none⟩ = some (.bool false) := HT1.cell 0; have t11 : wR1.cell? ⟨_, 1, none⟩ = some (.slice none 0 0) := HT1.cell 1; have t1f := HT1.frozen)))
         | (go_at_call 61; refine (mul_any na nR1 a pR1 n c lR1 cR1 (p : Int) 4 _ (by first | exact HXb.out.below hbR1 (Nat.le_refl _) | exact HXb.out.below (hbR1.alloc hbR1.size _) (Nat.le_refl _)) (by first | exact hN1 | exact hN1.below ((Below.refl _ _).alloc (Nat.le_refl _) _) (Nat.le_refl _)) FP.out F4.out).mono ?_; rintro e wR2 ⟨nR2, pR2, lR2, cR2, rfl, hN2, hbc2, -⟩; have hbR2 : Below wb.heap.size wb wR2 := (by first | exact hbR1.trans (hbc2.mono hbR1.size) | exact (hbR1.alloc hbR1.size _).trans (hbc2.mono (Nat.le_trans hbR1.size (by simp)))); have hsR2 := hbR2.size; have sR20 : wR2.cell? ⟨s, 0, none⟩ = some (.bool na) := (by rw [(bcell hbR2).1 _ _ hlt_s]; exact x0); have sR21 : wR2.cell? ⟨s, 1, none⟩ = some (.slice a n c) := (by rw [(bcell hbR2).1 _ _ hlt_s]; exact x1); (try ((first | (have HT2 := HT1.below hbc2 HT1.lt) | (have HT2 := (Blk.new _ 74 #[.bool false, .slice none 0 0]).below hbc2 (by simp)) | (have HT2 := (Blk.new _ 74 #[.bool false, .slice none 0 0]).drew.below hbc2 (by simp))); have t20 : wR2.cell? ⟨_, 0, none⟩ = some (.bool false) := HT2.cell 0; have t21 : wR2.cell? ⟨_, 1, none⟩ = some (.slice none 0 0) := HT2.cell 1; have t2f := HT2.frozen))))
       all_goals go_wp2_with fail
       all_goals go_meet
       ·exact ⟨_, nR2, pR2, lR2, cR2, rfl, Blk.new _ _ _, hN2.below ((Below.refl _ _).alloc (Nat.le_refl _) _) (Nat.le_refl _), hbR2.alloc hbR2.size _⟩
       all_goals exact ⟨_, nR2, pR2, lR2, cR2, rfl, ((HT2.set_ 0 _).set_ 1 _).to rfl, NumC.set2 hN2 t20 t21 _ _ _ _, (hbR2.setCell (by (try simp) <;> omega) _).setCell (by (try simp) <;> omega) _⟩
      case rest =>
       obtain ⟨tf, n5, p5, l5, c5, rfl, hkf, hN5, hb5⟩ := hcut
       have HB5 := Lib.hid (HB3.out.trans (hb5.mono (by rw [← HSZ.out]; exact HB3.out.size)))
       have HY5 := Lib.hid (HYb.out.below hb5 (Nat.le_refl _))
       have HO5 := Lib.hid (HOb.out.below hb5 (Nat.le_refl _))
       have hk1 := HK1b.out.below hb5 HK1b.out.lt
       have hko := HKO.out.below hb5 HKO.out.lt
       rw [show (p : Int) * 4 = ((4 * p : Nat) : Int) from by omega] at hN5
       have HN5 := Lib.hid hN5
       have HK15 := Lib.hid hk1
       have HKO5 := Lib.hid hko
       have HKF5 := Lib.hid hkf
       have y0 : wc.cell? ⟨s + 1, 0, none⟩ = some (.bool nb) := hk1.cell 0
       have y1 : wc.cell? ⟨s + 1, 1, none⟩ = some (.slice b m d) := hk1.cell 1
       have o0 : wc.cell? ⟨so, 0, none⟩ = some (.bool no) := hko.cell 0
       have o1 : wc.cell? ⟨so, 1, none⟩ = some (.slice ao lo co) := hko.cell 1
       have f0 : wc.cell? ⟨tf, 0, none⟩ = some (.bool n5) := hkf.cell 0
       have f1 : wc.cell? ⟨tf, 1, none⟩ = some (.slice p5 l5 c5) := hkf.cell 1
       clear hN5 hb5 hk1 hko hkf HB3 HYb HOb HK1b HKO HXb x0 x1 hlt_s hbA
       go_wp2_with fail
       refine (HF1.out _ _ _ _ _ _ _ _ _ HO5.out HN5.out HY5.out).mono ?_
       rintro z w6 ⟨rfl, hb6⟩
       have HB6 := Lib.hid (HB5.out.trans (hb6.mono (by rw [← HSZ.out]; exact HB5.out.size)))
       cases A
       ·have HV : Hid (M = M + (upR N q t M).toNat) := Lib.hid (by rw [HUP.out]; rfl)
        clear hb6 y0 y1 o0 o1 f0 f1
        go_wp2_with fail
        refine (nat_any ((M : Int)) _ (by omega) (by omega)).mono ?_; rintro e w10 ⟨n10, p10, l10, c10, rfl, hN10, hb10, -⟩
        have HB10 := Lib.hid (HB6.out.trans (hb10.mono (by rw [← HSZ.out]; exact HB6.out.size)))
        have HJ10 := Lib.hid (HJN.out (M) _ _ _ _ _ hN10 (by have := HM1.out; omega) HV.out)
        clear hb10 hN10
        go_wp2_with fail
        refine HJ10.out.mono ?_; rintro z w11 ⟨y, rfl, hy, hb11⟩
        have HB11 := Lib.hid (HB10.out.trans (hb11.mono (by rw [← HSZ.out]; exact HB10.out.size)))
        have HYY := Lib.hid hy
        clear hy hb11
        go_wp2_with fail
        go_ret
        exact ⟨y, rfl, HYY.out, by rw [HSZ.out]; exact HB11.out⟩
       ·rcases Nat.mod_two_eq_zero_or_one M with hm2 | hm2
        ·have hm3 : ((M : Int) % 2 == 1) = false := by simp; omega
         have HY6 := Lib.hid (HY5.out.below hb6 (Nat.le_refl _))
         have HO6 := Lib.hid (HO5.out.below hb6 (Nat.le_refl _))
         have HN6 := Lib.hid (HN5.out.below hb6 (Nat.le_refl _))
         have hk1 := HK15.out.below hb6 HK15.out.lt
         have hko := HKO5.out.below hb6 HKO5.out.lt
         have hkf := HKF5.out.below hb6 HKF5.out.lt
         clear y0 y1 o0 o1 f0 f1 hb6
         have y0 : w6.cell? ⟨s + 1, 0, none⟩ = some (.bool nb) := hk1.cell 0
         have y1 : w6.cell? ⟨s + 1, 1, none⟩ = some (.slice b m d) := hk1.cell 1
         have o0 : w6.cell? ⟨so, 0, none⟩ = some (.bool no) := hko.cell 0
         have o1 : w6.cell? ⟨so, 1, none⟩ = some (.slice ao lo co) := hko.cell 1
         have f0 : w6.cell? ⟨tf, 0, none⟩ = some (.bool n5) := hkf.cell 0
         have f1 : w6.cell? ⟨tf, 1, none⟩ = some (.slice p5 l5 c5) := hkf.cell 1
         clear hk1 hko hkf
         have HM2 := Lib.hid hm2
         clear hm2
         go_wp2_with fail
         refine (HF2.out _ _ _ _ _ _ _ _ _ HO6.out HN6.out HY6.out).mono ?_
         rintro z w7 ⟨rfl, hb7⟩
         have HB6' := Lib.hid (HB6.out.trans (hb7.mono (by rw [← HSZ.out]; exact HB6.out.size)))
         clear hb7 y0 y1 o0 o1 f0 f1 HB6
         have HB6 := HB6'
         cases B
         ·have HV : Hid (M + 1 = M + (upR N q t M).toNat) := Lib.hid (by rw [HUP.out]; simp)
          go_wp2_with fail
          refine (nat_any ((M : Int) + 1) _ (by omega) (by omega)).mono ?_; rintro e w10 ⟨n10, p10, l10, c10, rfl, hN10, hb10, -⟩
          have HB10 := Lib.hid (HB6.out.trans (hb10.mono (by rw [← HSZ.out]; exact HB6.out.size)))
          have HJ10 := Lib.hid (HJN.out (M + 1) _ _ _ _ _ hN10 (by have := HM1.out; omega) HV.out)
          clear hb10 hN10
          go_wp2_with fail
          refine HJ10.out.mono ?_; rintro z w11 ⟨y, rfl, hy, hb11⟩
          have HB11 := Lib.hid (HB10.out.trans (hb11.mono (by rw [← HSZ.out]; exact HB10.out.size)))
          have HYY := Lib.hid hy
          clear hy hb11
          go_wp2_with fail
          go_ret
          exact ⟨y, rfl, HYY.out, by rw [HSZ.out]; exact HB11.out⟩
         ·have HV : Hid (M = M + (upR N q t M).toNat) := Lib.hid (by rw [HUP.out, show decide (M % 2 = 1) = false from by rw [HM2.out]; rfl]; rfl)
          go_wp2_with fail
          refine (nat_any ((M : Int)) _ (by omega) (by omega)).mono ?_; rintro e w10 ⟨n10, p10, l10, c10, rfl, hN10, hb10, -⟩
          have HB10 := Lib.hid (HB6.out.trans (hb10.mono (by rw [← HSZ.out]; exact HB6.out.size)))
          have HJ10 := Lib.hid (HJN.out (M) _ _ _ _ _ hN10 (by have := HM1.out; omega) HV.out)
          clear hb10 hN10
          go_wp2_with fail
          refine HJ10.out.mono ?_; rintro z w11 ⟨y, rfl, hy, hb11⟩
          have HB11 := Lib.hid (HB10.out.trans (hb11.mono (by rw [← HSZ.out]; exact HB10.out.size)))
          have HYY := Lib.hid hy
          clear hy hb11
          go_wp2_with fail
          go_ret
          exact ⟨y, rfl, HYY.out, by rw [HSZ.out]; exact HB11.out⟩
        ·have hm3 : ((M : Int) % 2 == 1) = true := by simp; omega
         have HV : Hid (M + 1 = M + (upR N q t M).toNat) := Lib.hid (by rw [HUP.out, decide_eq_true hm2]; rfl)
         clear hb6 y0 y1 o0 o1 f0 f1 hm2
         go_wp2_with fail
         refine (nat_any ((M : Int) + 1) _ (by omega) (by omega)).mono ?_; rintro e w10 ⟨n10, p10, l10, c10, rfl, hN10, hb10, -⟩
         have HB10 := Lib.hid (HB6.out.trans (hb10.mono (by rw [← HSZ.out]; exact HB6.out.size)))
         have HJ10 := Lib.hid (HJN.out (M + 1) _ _ _ _ _ hN10 (by have := HM1.out; omega) HV.out)
         clear hb10 hN10
         go_wp2_with fail
         refine HJ10.out.mono ?_; rintro z w11 ⟨y, rfl, hy, hb11⟩
         have HB11 := Lib.hid (HB10.out.trans (hb11.mono (by rw [← HSZ.out]; exact HB10.out.size)))
         have HYY := Lib.hid hy
         clear hy hb11
         go_wp2_with fail
         go_ret
         exact ⟨y, rfl, HYY.out, by rw [HSZ.out]; exact HB11.out⟩
end Go.Proofs.YtdbkgpakpadloaaGreat
