/- Contracts of package bushelref04's none, infinity, long and Quot. Conditions: numbers below 2^3000. -/
import Derived.Test.YtdbkgpakpadloaaGreatMRat1
import Derived.Test.YtdbkgpakpadloaaGreatMFloC
import Derived.Test.YtdbkgpakpadloaaGreatMNum
namespace Go.Proofs.YtdbkgpakpadloaaGreat
open Go.RowKit Ieee

theorem rnone_any (w : World) :
  Calls Tryz.prog 59 #[] w fun e w' => ∃ z, e = .returned (.float .f64 z) ∧ z < 18446744073709551616 ∧ INF < z % S63 ∧ Below w.heap.size w w' := by
 obtain ⟨r, hr0, hr1, hrun⟩ := run_float_nan .quo 38 0 0 (by decide) (by simp) w
 have H0 := Lib.hid hr0
 have H1 := Lib.hid hr1
 clear hr0 hr1
 go_enter Tryz.func59, Tryz.ntmps59
 go_wp2_with fail
 go_ret
 exact ⟨r, rfl, H0.out, H1.out, (Below.refl _ _).drew⟩
theorem rinfinity_any (w : World) :
  Calls Tryz.prog 97 #[] w fun e w' => e = .returned (.float .f64 INF) ∧ w = w' := by
 have hd2 := quo_zero (b := 0) (by decide) (by decide)
 rw [if_neg (by decide)] at hd2
 have hd := run_float_arith (P := Tryz.prog) w .quo 38 .f64 _ _ _ hd2
 clear hd2
 go_enter Tryz.func97, Tryz.ntmps97
 go_wp2_with fail
 go_ret
 exact ⟨rfl, rfl⟩

theorem cmp_small {p K k : Nat} (hp : p < 2 ^ K) (hk : K ≤ k) : cmpZ (p : Int) (2 ^ k) = -1 := by
 apply cmpZ_lt
 have h1 : p < 2 ^ k := Nat.lt_of_lt_of_le hp (Nat.pow_le_pow_right (by decide) hk)
 have h2 := Int.ofNat_lt.2 h1
 rw [Int.natCast_pow] at h2
 exact h2

set_option maxRecDepth 100000 in
set_option maxHeartbeats 2000000 in
theorem rlong_no (na nb : Bool) (a b : Option Addr) (n c m d p q K : Nat) (w : World) (hx : NumC w na a n c (p : Int)) (hy : NumC w nb b m d (q : Int)) (hp : p < 2 ^ K) (hq : q < 2 ^ K) (hK : K ≤ 3000) :
  Calls Tryz.prog 96 #[.agg #[.bool na, .slice a n c], .agg #[.bool nb, .slice b m d]] w fun e w' => e = .returned (.bool false) ∧ Below w.heap.size w w' := by
 obtain ⟨k, hk⟩ : ∃ k : Nat, k = 3000 := ⟨_, rfl⟩
 have HT : Hid (∀ w, Calls Tryz.prog 58 #[.int .i64 3000] w (RetNum w (2 ^ k))) := Lib.hid (fun w => by
  have h := two_any k w (by omega)
  rw [show (k : Int) = 3000 from by omega] at h
  exact h)
 have HCP := Lib.hid (cmp_small (k := k) hp (by omega))
 have HCQ := Lib.hid (cmp_small (k := k) hq (by omega))
 obtain ⟨hk0, hk1, hbw, -⟩ := two_bx w 74 #[.bool na, .slice a n c] #[.bool nb, .slice b m d]
 have HB7 := Lib.hid hbw
 have HP7 := Lib.hid (hx.below hbw (Nat.le_refl _))
 have HQ7 := Lib.hid (hy.below hbw (Nat.le_refl _))
 clear hx hy hbw hk hp hq
 go_enter Tryz.func96, Tryz.ntmps96
 go_upto_region 1 with fail
 generalize ((w.alloc (.cells #[.bool na, .slice a n c] 74)).alloc (.cells #[.bool nb, .slice b m d] 74)) = w7 at *
 generalize hsz0 : w.heap.size = s at *
 have HSZ := Lib.hid hsz0
 clear hsz0
 have x0 : w7.cell? ⟨s, 0, none⟩ = some (.bool na) := hk0.cell 0
 have x1 : w7.cell? ⟨s, 1, none⟩ = some (.slice a n c) := hk0.cell 1
 have y0 : w7.cell? ⟨s + 1, 0, none⟩ = some (.bool nb) := hk1.cell 0
 have y1 : w7.cell? ⟨s + 1, 1, none⟩ = some (.slice b m d) := hk1.cell 1
 have hs0 : s < w7.heap.size := hk0.lt
 have hs1 : s + 1 < w7.heap.size := hk1.lt
 clear hk0 hk1
 have hbA : Below w7.heap.size w7 w7.drew := (Below.refl _ _).drew
 go_region_held3 (fun w' => w'.cell? ⟨s, 0, none⟩ = some (.bool na) ∧ w'.cell? ⟨s, 1, none⟩ = some (.slice a n c) ∧ w'.cell? ⟨s + 1, 0, none⟩ = some (.bool nb) ∧ w'.cell? ⟨s + 1, 1, none⟩ = some (.slice b m d)) (go_keep)
  (first
   | (go_at_call 58; refine (HT.out _).mono ?_; rintro e w8 ⟨m8, b8, l8, d8, rfl, hM8, hb8, -⟩; replace hbA := hbA.trans (hb8.mono (Nat.le_trans (by simp) hbA.size)); clear hb8; (try clear bc8 bf8); obtain ⟨bc8, bf8⟩ := bcell hbA)
   | (go_at_call 57; (with_reducible refine (cmp_at _ _ _ _ _ _ _ _ (p : Int) (2 ^ k) (-1) _ HCP.out (HP7.out.below hbA (Nat.le_refl _)) hM8).mono ?_); rintro e w9 ⟨rfl, hb9⟩; clear hM8 bc8 bf8; replace hbA := hbA.trans (hb9.mono (Nat.le_trans (by simp) hbA.size)); clear hb9; obtain ⟨bc8, bf8⟩ := bcell hbA)
   | (go_at_call 57; (with_reducible refine (cmp_at _ _ _ _ _ _ _ _ (q : Int) (2 ^ k) (-1) _ HCQ.out (HQ7.out.below hbA (Nat.le_refl _)) hM8).mono ?_); rintro e w9 ⟨rfl, hb9⟩; clear hM8 bc8 bf8; replace hbA := hbA.trans (hb9.mono (Nat.le_trans (by simp) hbA.size)); clear hb9; obtain ⟨bc8, bf8⟩ := bcell hbA))
 all_goals
  clear bc8 bf8
  have HBE := Lib.hid (HB7.out.trans (hbA.mono (by rw [← HSZ.out]; exact HB7.out.size)))
  clear hbA
  go_wp2_with fail
  go_ret
  exact ⟨rfl, by rw [HSZ.out]; exact HBE.out⟩
end Go.Proofs.YtdbkgpakpadloaaGreat
/- Contract of package bushelref01's Of. No conditions but int64's range. -/
namespace Go.Proofs.YtdbkgpakpadloaaGreat
open Go.RowKit

theorem of_any (x : Int) (w : World) (h0 : -9223372036854775808 ≤ x) (h1 : x ≤ 9223372036854775807) :
  Calls Tryz.prog 62 #[.int .i64 x] w (RetNum w x) := by
 by_cases hx : x < 0
 ·have HB : Hid (Below w.heap.size w (w.alloc (.cells #[.bool false, .slice none 0 0] 74))) := Lib.hid ((Below.refl _ _).alloc (Nat.le_refl _) _)
  go_enter Tryz.func62, Tryz.ntmps62
  go_wp2_with fail
  refine (nat_any _ _ (by omega) (by omega)).mono ?_; rintro e w1 ⟨neg1, a1, n1, c1, rfl, hN1, hb1, hf1⟩
  simp only [World.size_alloc] at hb1
  have HN1 := Lib.hid hN1
  clear hN1
  go_wp2_with fail
  refine (nat_any _ _ (by omega) (by omega)).mono ?_; rintro e w2 ⟨neg2, a2, n2, c2, rfl, hN2, hb2, hf2⟩
  have hz1 := hb1.size
  simp only [World.size_alloc] at hz1
  have hz2 := hb2.size
  have hb2' := hb1.trans (hb2.mono hz1)
  have HN2 := Lib.hid hN2
  clear hN2
  go_wp2_with fail
  refine (add_any _ _ _ _ _ _ _ _ _ _ _ (HN1.out.below hb2 (Nat.le_refl _)) HN2.out (Fit.i64 (by omega) (by omega)) (Fit.i64 (by omega) (by omega))).mono ?_; rintro e w3 ⟨neg3, a3, n3, c3, rfl, hN3, hb3, hf3⟩
  have hb3' := hb2'.trans (hb3.mono (by omega))
  have hz3 := hb3.size
  have HN3 := Lib.hid hN3
  clear hN3
  go_wp2_with fail
  refine (neg_any _ _ _ _ _ _ HN3.out).mono ?_; rintro e w4 ⟨neg4, a4, n4, c4, rfl, hN4, hb4, hf4⟩
  have hb4' := hb3'.trans (hb4.mono (by omega))
  rw [show -(-(x + 1) + 1) = x from by omega] at hN4
  obtain ⟨bc, bf⟩ := bcell hb4'
  have HN4 := Lib.hid hN4
  clear hN4
  go_wp2_with fail
  exact bodyPost_ret (v := .agg #[.bool neg4, .slice a4 n4 c4]) (by simp [results, Tryz.results62, go_sem, bc]) rfl
   (RetNum.stored HN4.out (Nat.le_refl _) (HB.out.trans (hb4'.mono (by omega))) (by simp [go_sem, bc]) (by simp [go_sem, bc]) ((hf3.mono (by omega)).same hf4))
 ·have HB : Hid (Below w.heap.size w (w.alloc (.cells #[.bool false, .slice none 0 0] 74))) := Lib.hid ((Below.refl _ _).alloc (Nat.le_refl _) _)
  go_enter Tryz.func62, Tryz.ntmps62
  go_wp2_with fail
  refine (nat_any _ _ (by omega) (by omega)).mono ?_; rintro e w1 ⟨neg1, a1, n1, c1, rfl, hN1, hb1, hf1⟩
  simp only [World.size_alloc] at hb1
  obtain ⟨bc, bf⟩ := bcell hb1
  have HN1 := Lib.hid hN1
  clear hN1
  go_wp2_with fail
  exact bodyPost_ret (v := .agg #[.bool neg1, .slice a1 n1 c1]) (by simp [results, Tryz.results62, go_sem, bc]) rfl
   (RetNum.stored HN1.out (Nat.le_refl _) (HB.out.trans (hb1.mono (by omega))) (by simp [go_sem, bc]) (by simp [go_sem, bc]) (hf1.mono (by simp)))
end Go.Proofs.YtdbkgpakpadloaaGreat
/- Contracts of package bushelref04's Quot, size, Mean and of package ratio's Mean. Conditions: numbers below 2^3000 (Quot). -/
namespace Go.Proofs.YtdbkgpakpadloaaGreat
open Go.RowKit Ieee

theorem NumC.lenb {w : World} {neg : Bool} {a : Option Addr} {n c p : Nat} (h : NumC w neg a n c (p : Int)) : (((n : Int) == 0) = true ∧ p = 0 ∧ n = 0) ∨ (((n : Int) == 0) = false ∧ 0 < p) := by
 rcases Nat.eq_zero_or_pos p with h0 | h0
 ·subst h0
  have := h.len0
  subst this
  exact .inl ⟨rfl, rfl, rfl⟩
 ·have := h.lenp (by omega)
  exact .inr ⟨by simp; omega, h0⟩
theorem near_of_r {p q z : Nat} (h : IsNear (p * 2 ^ K1074) (q * 2 ^ 0) z) : IsNear (p * 2 ^ K1074) q z := by
 rw [Nat.pow_zero, Nat.mul_one] at h
 exact h
theorem flip_sgn (neg : Bool) {z : Nat} (h : z ≤ INF) : (if neg then flipS z else z) = sgnW neg z := by
 unfold sgnW flipS
 cases neg
 ·rfl
 ·rw [if_pos rfl, if_pos rfl, if_pos (by unfold INF at h; unfold S63; omega)]
  omega
theorem rsign_sgn (neg : Bool) (z : Nat) (w : World) (h : z ≤ INF) :
  Calls Tryz.prog 66 #[.bool neg, .float .f64 z] w fun x w' => x = .returned (.float .f64 (sgnW neg z)) ∧ w = w' := by
 have h1 := rsign_any neg z w (by unfold INF at h; omega)
 rw [flip_sgn neg h] at h1
 exact h1

set_option maxRecDepth 100000 in
set_option maxHeartbeats 4000000 in
theorem rquot_any (neg na nb : Bool) (a b : Option Addr) (n c m d p q K : Nat) (w : World) (hx : NumC w na a n c (p : Int)) (hy : NumC w nb b m d (q : Int)) (hp : p < 2 ^ K) (hq : q < 2 ^ K) (hK : K ≤ 3000) :
  Calls Tryz.prog 54 #[.bool neg, .agg #[.bool na, .slice a n c], .agg #[.bool nb, .slice b m d]] w (RQuot neg p q w) := by
 have HLO := Lib.hid (fun w (hx : NumC w na a n c (p : Int)) (hy : NumC w nb b m d (q : Int)) => rlong_no na nb a b n c m d p q K w hx hy hp hq hK)
 have HNE := Lib.hid (fun w (hx : NumC w na a n c (p : Int)) (hy : NumC w nb b m d (q : Int)) (hq0 : 0 < q) => rnearest_any na nb a b n c m d p q K 0 K1074 0 w hx hy hp hq (by omega) hq0 rfl (by omega) (by omega))
 have hlp := hx.lenb
 have hlq := hy.lenb
 obtain ⟨hk0, hk1, hbw, -⟩ := two_bx w 74 #[.bool na, .slice a n c] #[.bool nb, .slice b m d]
 have HB7 := Lib.hid hbw
 have HP7 := Lib.hid (hx.below hbw (Nat.le_refl _))
 have HQ7 := Lib.hid (hy.below hbw (Nat.le_refl _))
 have HX0 := Lib.hid hx
 have HY0 := Lib.hid hy
 clear hx hy hbw hp hq
 go_enter Tryz.func54, Tryz.ntmps54
 go_wp2_with fail
 generalize ((w.alloc (.cells #[.bool na, .slice a n c] 74)).alloc (.cells #[.bool nb, .slice b m d] 74)) = w7 at *
 generalize hsz0 : w.heap.size = s at *
 have HSZ := Lib.hid hsz0
 have x0 : w7.cell? ⟨s, 0, none⟩ = some (.bool na) := hk0.cell 0
 have x1 : w7.cell? ⟨s, 1, none⟩ = some (.slice a n c) := hk0.cell 1
 have y0 : w7.cell? ⟨s + 1, 0, none⟩ = some (.bool nb) := hk1.cell 0
 have y1 : w7.cell? ⟨s + 1, 1, none⟩ = some (.slice b m d) := hk1.cell 1
 have HK0 := Lib.hid hk0
 have HK1 := Lib.hid hk1
 clear hsz0 hk0 hk1
 go_wp2_with fail
 refine (HLO.out w7 HP7.out HQ7.out).mono ?_; rintro z w8 ⟨rfl, hb8⟩
 have HB8 := Lib.hid (HB7.out.trans (hb8.mono (by rw [← HSZ.out]; exact HB7.out.size)))
 have hk0 := HK0.out.below hb8 HK0.out.lt
 have hk1 := HK1.out.below hb8 HK1.out.lt
 have HP8 := Lib.hid (HP7.out.below hb8 (Nat.le_refl _))
 have HQ8 := Lib.hid (HQ7.out.below hb8 (Nat.le_refl _))
 clear x0 x1 y0 y1 hb8
 have x0 : w8.cell? ⟨s, 0, none⟩ = some (.bool na) := hk0.cell 0
 have x1 : w8.cell? ⟨s, 1, none⟩ = some (.slice a n c) := hk0.cell 1
 have y0 : w8.cell? ⟨s + 1, 0, none⟩ = some (.bool nb) := hk1.cell 0
 have y1 : w8.cell? ⟨s + 1, 1, none⟩ = some (.slice b m d) := hk1.cell 1
 clear hk0 hk1
 rcases hlp with ⟨l1, p0, rfl⟩ | ⟨l1, p0⟩ <;> rcases hlq with ⟨l2, q0, rfl⟩ | ⟨l2, q0⟩
 ·have HP0 := Lib.hid p0
  have HQ0 := Lib.hid q0
  clear p0 q0
  go_wp2_with fail
  refine (rnone_any w8).mono ?_; rintro z w9 ⟨r, rfl, hr1, hr2, hb9⟩
  have HB9 := Lib.hid (HB8.out.trans (hb9.mono (by rw [← HSZ.out]; exact HB8.out.size)))
  have HR1 := Lib.hid hr1
  have HR2 := Lib.hid hr2
  clear hb9 hr1 hr2
  go_wp2_with fail
  go_ret
  exact ⟨_, rfl, ⟨HR1.out, .inl ⟨HP0.out, HQ0.out, HR2.out⟩⟩, by rw [HSZ.out]; exact HB9.out⟩
 ·have HP0 := Lib.hid p0
  have HQ0 := Lib.hid q0
  have HS := Lib.hid (fun w => rsign_sgn neg 0 w (by decide))
  clear p0 q0
  go_wp2_with fail
  refine (HS.out _).mono ?_; rintro z w9 ⟨rfl, rfl⟩
  go_wp2_with fail
  go_ret
  exact ⟨_, rfl, ⟨sgnW_lt (by decide), .inr (.inr (.inl ⟨HP0.out, by have := HQ0.out; omega, rfl⟩))⟩, by rw [HSZ.out]; exact HB8.out⟩
 ·have HP0 := Lib.hid p0
  have HQ0 := Lib.hid q0
  have HS := Lib.hid (fun w => rsign_sgn neg INF w (by decide))
  have HI := Lib.hid (fun w => rinfinity_any w)
  obtain ⟨qi, hqi⟩ : ∃ q : Nat, q = INF := ⟨_, rfl⟩
  rw [← hqi] at HS HI
  have HQI := Lib.hid hqi
  clear p0 q0 hqi
  go_wp2_with fail
  refine (HI.out _).mono ?_; rintro z w9 ⟨rfl, rfl⟩
  go_wp2_with fail
  refine (HS.out _).mono ?_; rintro z w9 ⟨rfl, rfl⟩
  go_wp2_with fail
  go_ret
  exact ⟨_, rfl, ⟨sgnW_lt (by rw [HQI.out]; decide), .inr (.inl ⟨by have := HP0.out; omega, HQ0.out, by rw [HQI.out]⟩)⟩, by rw [HSZ.out]; exact HB8.out⟩
 ·have HP0 := Lib.hid p0
  have HQ0 := Lib.hid q0
  clear p0 q0
  go_wp2_with fail
  refine (HNE.out w8 HP8.out HQ8.out HQ0.out).mono ?_; rintro z w9 ⟨r, rfl, hr, hb9⟩
  have HB9 := Lib.hid (HB8.out.trans (hb9.mono (by rw [← HSZ.out]; exact HB8.out.size)))
  have HR := Lib.hid (near_of_r hr)
  have HS := Lib.hid (fun w => rsign_sgn neg r w hr.le)
  clear hb9 hr
  go_wp2_with fail
  refine (HS.out _).mono ?_; rintro z w10 ⟨rfl, rfl⟩
  go_wp2_with fail
  go_ret
  exact ⟨_, rfl, ⟨sgnW_lt HR.out.le, .inr (.inr (.inr ⟨by have := HP0.out; omega, by have := HQ0.out; omega, _, HR.out, rfl⟩))⟩, by rw [HSZ.out]; exact HB9.out⟩
end Go.Proofs.YtdbkgpakpadloaaGreat
/- Contracts of package bushelref04's size and Mean and of package ratio's Mean. No conditions but the types' own. -/
namespace Go.Proofs.YtdbkgpakpadloaaGreat
open Go.RowKit Ieee

theorem NumC.abs {w : World} {neg : Bool} {a : Option Addr} {n c : Nat} {z : Int} (h : NumC w neg a n c z) : NumC w false a n c ((z.natAbs : Nat) : Int) := by
 obtain ⟨xs, h1, h2, h3, h4, h5⟩ := h
 refine ⟨xs, h1, h2, h3, ?_, fun h => by cases h⟩
 have h6 := (V_bd (B := 1000) (by decide) h2).1
 cases neg <;> simp at h4 <;> simp <;> omega
theorem pow64 {k : Nat} (h : k ≤ 18446744073709551615) : k < 2 ^ 64 := by omega
set_option maxHeartbeats 2000000 in
theorem rsize_any (x : Int) (w : World) (h0 : -9223372036854775808 ≤ x) (h1 : x ≤ 9223372036854775807) :
  Calls Tryz.prog 55 #[.int .i64 x] w (RetNum w ((x.natAbs : Nat) : Int)) := by
 have HO := Lib.hid (fun w => of_any x w h0 h1)
 go_enter Tryz.func55, Tryz.ntmps55
 go_wp2_with fail
 refine (HO.out _).mono ?_; rintro e w1 ⟨n1, a1, l1, c1, rfl, hN1, hb1, hf1⟩
 have HN1 := Lib.hid hN1
 obtain ⟨bc1, bf1⟩ := bcell hb1
 have HB1 := Lib.hid (((Below.refl _ _).alloc (Nat.le_refl _) (.cells #[.bool false, .slice none 0 0] 74)).trans (hb1.mono (by simp)))
 have hz := hb1.size
 simp only [World.size_alloc] at hz
 have hf := hf1.mono (show w.heap.size ≤ (w.alloc (.cells #[.bool false, .slice none 0 0] 74)).heap.size by simp)
 have HF := Lib.hid hf
 have hne : w.heap.size ≠ w1.heap.size := by omega
 have hlt : w.heap.size < w1.heap.size := by omega
 clear hN1 hf1 hf
 go_wp2_with fail
 have hk := (Blk.new w 74 #[.bool false, .slice none 0 0]).below hb1 (by simp)
 have hk2 := ((hk.set_ 0 (.bool false)).set_ 1 (.slice a1 l1 c1)).alloc (.cells #[.bool n1, .slice a1 l1 c1] 74)
 have c0 := hk2.cell 0
 have c1' := hk2.cell 1
 refine bodyPost_ret (v := .agg #[.bool false, .slice a1 l1 c1]) ?_ ?_ ?_
 rotate_left 1
 ·rfl
 rotate_left 1
 ·simp [results, Tryz.results55, go_sem, c0, c1']
 ·exact ⟨false, a1, l1, c1, rfl, (NumC.set2 HN1.out.abs (hk.cell 0) (hk.cell 1) _ _ _ _).below ((Below.refl _ _).alloc (Nat.le_refl _) _) (Nat.le_refl _), (((HB1.out.setCell (by simp) _).setCell (by simp) _).alloc (by simpa using HB1.out.size) _), HF.out⟩

def IsMean (s n : Int) (z : Nat) : Prop := (s = 0 ∧ n ≠ 0 ∧ z = 0) ∨ (¬ (s = 0 ∧ n ≠ 0) ∧ IsQuot (decide (s < 0) != decide (n < 0)) s.natAbs n.natAbs z)
theorem IsMean.one {s n : Int} {z y : Nat} (h : IsMean s n z) (k : IsMean s n y) : keyN z = keyN y := by
 rcases h with ⟨h1, h2, h3⟩ | ⟨h1, h2⟩ <;> rcases k with ⟨k1, k2, k3⟩ | ⟨k1, k2⟩
 ·rw [h3, k3]
 ·exact absurd ⟨h1, h2⟩ k1
 ·exact absurd ⟨k1, k2⟩ h1
 ·exact h2.one k2
theorem IsMean.lt {s n : Int} {z : Nat} (h : IsMean s n z) : z < 18446744073709551616 := by
 rcases h with ⟨h1, h2, h3⟩ | ⟨h1, h2⟩
 ·omega
 ·exact h2.1
def RMean (s n : Int) (w : World) (e : Ending) (w' : World) : Prop := ∃ z, e = .returned (.float .f64 z) ∧ IsMean s n z ∧ Below w.heap.size w w'

set_option maxHeartbeats 2000000 in
theorem rmean_any (s n : Int) (w : World) (h0 : -9223372036854775808 ≤ s) (h1 : s ≤ 9223372036854775807) (h2 : -9223372036854775808 ≤ n) (h3 : n ≤ 9223372036854775807) :
  Calls Tryz.prog 25 #[.int .i64 s, .int .i64 n] w (RMean s n w) := by
 by_cases hz : s = 0 ∧ n ≠ 0
 ·have HZ := Lib.hid hz
  have t1 : (s == 0) = true := by simpa using hz.1
  have t2 : (n != 0) = true := by simpa using hz.2
  clear hz
  go_enter Tryz.func25, Tryz.ntmps25
  go_wp2_with fail
  go_ret
  exact ⟨0, rfl, .inl ⟨HZ.out.1, HZ.out.2, rfl⟩, Below.refl _ _⟩
 ·have HZ := Lib.hid hz
  have hs := Lib.hid (fun w => rsize_any s w h0 h1)
  have hn := Lib.hid (fun w => rsize_any n w h2 h3)
  have HPS : Hid (s.natAbs < 2 ^ 64 ∧ n.natAbs < 2 ^ 64) := Lib.hid ⟨pow64 (by omega), pow64 (by omega)⟩
  have ht : ((s == 0) = true ∧ (n != 0) = false) ∨ (s == 0) = false := by
   by_cases h : s = 0
   ·left; exact ⟨by simpa using h, by simp; omega⟩
   ·right; simpa using h
  obtain ⟨ng, hng⟩ : ∃ ng, (decide (s < 0) != decide (n < 0)) = ng := ⟨_, rfl⟩
  have HNG := Lib.hid hng
  clear hz
  rcases ht with ⟨t1, t2⟩ | t1
  all_goals
   clear hng
   go_enter Tryz.func25, Tryz.ntmps25
   go_wp2_with fail
   refine (hs.out _).mono ?_; rintro e w1 ⟨n1, a1, l1, c1, rfl, hN1, hb1, hf1⟩
   have HN1 := Lib.hid hN1
   have HB1 := Lib.hid hb1
   clear hN1 hb1 hf1
   go_wp2_with fail
   refine (hn.out _).mono ?_; rintro e w2 ⟨n2, a2, l2, c2, rfl, hN2, hb2, hf2⟩
   have HB2 := Lib.hid (HB1.out.trans (hb2.mono HB1.out.size))
   have HQ := Lib.hid (rquot_any (decide (s < 0) != decide (n < 0)) n1 n2 a1 a2 l1 c1 l2 c2 s.natAbs n.natAbs 64 w2 (HN1.out.below hb2 (Nat.le_refl _)) hN2 HPS.out.1 HPS.out.2 (by omega))
   clear hN2 hb2 hf2
   go_wp2_with fail
   refine HQ.out.mono ?_; rintro e w3 ⟨z, rfl, hq, hb3⟩
   have HB3 := Lib.hid (HB2.out.trans (hb3.mono HB2.out.size))
   have HQ3 := Lib.hid hq
   clear hq hb3
   go_wp2_with fail
   go_ret
   exact ⟨z, rfl, .inr ⟨HZ.out, HQ3.out⟩, HB3.out⟩

theorem fabs_any (a : Int) (w : World) (h1 : -9223372036854775808 ≤ a) (h2 : a ≤ 9223372036854775807) :
  Calls Tryz.prog 48 #[.int .i64 a] w fun e w' => e = .returned (.int .u64 (a.natAbs : Int)) ∧ w = w' := by
 go_enter Tryz.func48, Tryz.ntmps48
 go_wp2
 all_goals go_ret
 all_goals exact ⟨ret_int (by omega), rfl⟩

set_option maxHeartbeats 2000000 in
theorem fmean_any (s n : Int) (w : World) (h0 : -9223372036854775808 ≤ s) (h1 : s ≤ 9223372036854775807) (h2 : -9223372036854775808 ≤ n) (h3 : n ≤ 9223372036854775807) :
  Calls Tryz.prog 23 #[.int .i64 s, .int .i64 n] w (RMean s n w) := by
 by_cases hz : s = 0 ∧ n ≠ 0
 ·have HZ := Lib.hid hz
  have t1 : (s == 0) = true := by simpa using hz.1
  have t2 : (n != 0) = true := by simpa using hz.2
  clear hz
  go_enter Tryz.func23, Tryz.ntmps23
  go_wp2_with fail
  go_ret
  exact ⟨0, rfl, .inl ⟨HZ.out.1, HZ.out.2, rfl⟩, Below.refl _ _⟩
 ·have HZ := Lib.hid hz
  have asx := Lib.hid (fun w => fabs_any s w h0 h1)
  have an := Lib.hid (fun w => fabs_any n w h2 h3)
  have os := Lib.hid (fun w => nof_any (s.natAbs : Int) w (by omega) (by omega))
  have on := Lib.hid (fun w => nof_any (n.natAbs : Int) w (by omega) (by omega))
  have HPS : Hid (s.natAbs < 2 ^ 64 ∧ n.natAbs < 2 ^ 64) := Lib.hid ⟨pow64 (by omega), pow64 (by omega)⟩
  have ht : ((s == 0) = true ∧ (n != 0) = false) ∨ (s == 0) = false := by
   by_cases h : s = 0
   ·left; exact ⟨by simpa using h, by simp; omega⟩
   ·right; simpa using h
  clear hz
  rcases ht with ⟨t1, t2⟩ | t1
  all_goals
   go_enter Tryz.func23, Tryz.ntmps23
   go_wp2_with fail
   refine (asx.out _).mono ?_; rintro e w1 ⟨rfl, rfl⟩
   go_wp2_with fail
   refine (os.out _).mono ?_; rintro e w1 ⟨a1, l1, c1, rfl, hN1, hb1, hf1⟩
   have HN1 := Lib.hid hN1
   have HB1 := Lib.hid hb1
   clear hN1 hb1 hf1
   go_wp2_with fail
   refine (an.out _).mono ?_; rintro e w9 ⟨rfl, rfl⟩
   go_wp2_with fail
   refine (on.out _).mono ?_; rintro e w2 ⟨a2, l2, c2, rfl, hN2, hb2, hf2⟩
   have HB2 := Lib.hid (HB1.out.trans (hb2.mono HB1.out.size))
   have hN1 := HN1.out.below hb2 (Nat.le_refl _)
   have k1 := hN1.short HPS.out.1
   have k2 := hN2.short HPS.out.2
   obtain ⟨xs, x1, x2, x3⟩ := hN1.row
   obtain ⟨ys, y1, y2, y3⟩ := hN2.row
   have HQ := Lib.hid (fquot_any (decide (s < 0) != decide (n < 0)) a1 a2 l1 c1 l2 c2 s.natAbs n.natAbs 64 xs ys w2 x1 y1 x2 y2 x3 y3 (by omega) (by omega) HPS.out.1 HPS.out.2 (by omega))
   clear hN1 hN2 hb2 hf2 x1 x2 x3 y1 y2 y3 k1 k2
   go_wp2_with fail
   refine HQ.out.mono ?_; rintro e w3 ⟨z, rfl, hq, hb3⟩
   have HB3 := Lib.hid (HB2.out.trans (hb3.mono HB2.out.size))
   have HQ3 := Lib.hid hq
   clear hq hb3
   go_wp2_with fail
   go_ret
   exact ⟨z, rfl, .inr ⟨HZ.out, HQ3.out⟩, HB3.out⟩
end Go.Proofs.YtdbkgpakpadloaaGreat
/- Contract of package ratio's Dev. Conditions: squares below 2^1000, at most 80000 words. -/
namespace Go.Proofs.YtdbkgpakpadloaaGreat
open Go.RowKit Ieee

def IsDev (n s : Int) (S z : Nat) : Prop := z < 18446744073709551616 ∧ (((n < 1 ∨ n * S - s * s < 0) ∧ INF < z % S63) ∨ (1 ≤ n ∧ 0 ≤ n * S - s * s ∧ IsRootQ (n * S - s * s).toNat (n.toNat * n.toNat) z))
theorem IsDev.one {n s : Int} {S z y : Nat} (h : IsDev n s S z) (k : IsDev n s S y) : keyN z = keyN y := by
 obtain ⟨-, h⟩ := h
 obtain ⟨-, k⟩ := k
 rcases h with ⟨h1, h2⟩ | ⟨h1, h2, h3⟩ <;> rcases k with ⟨k1, k2⟩ | ⟨k1, k2, k3⟩
 ·rw [key_nan h2, key_nan k2]
 ·rcases h1 with h1 | h1 <;> omega
 ·rcases k1 with k1 | k1 <;> omega
 ·exact h3.one k3
def RDev (n s : Int) (S : Nat) (w : World) (e : Ending) (w' : World) : Prop := ∃ z, e = .returned (.float .f64 z) ∧ IsDev n s S z ∧ Below w.heap.size w w'
theorem sq_abs (s : Int) : ((s.natAbs * s.natAbs : Nat) : Int) = s * s := by
 rw [Int.natCast_mul, ← Int.natAbs_mul_self' s]

set_option maxRecDepth 100000 in
set_option maxHeartbeats 4000000 in
theorem fdev_any (n s : Int) (a : Option Addr) (l c S K : Nat) (xs : List Int) (w : World) (ha : RowK .u32 w a l c xs) (hx : Dig 4294967296 xs) (hX : V 4294967296 xs = (S : Int)) (hl : l ≤ 80000) (hS : S < 2 ^ K) (hK : K ≤ 1000)
  (h0 : -9223372036854775808 ≤ s) (h1 : s ≤ 9223372036854775807) (h2 : -9223372036854775808 ≤ n) (h3 : n ≤ 9223372036854775807) :
  Calls Tryz.prog 24 #[.int .i64 n, .int .i64 s, .slice a l c] w (RDev n s S w) := by
 have HNAN := Lib.hid (fun w => nan_any w)
 by_cases hn : n < 1
 ·have t1 : decide (n < 1) = true := by simpa using hn
  have HN := Lib.hid hn
  clear hn ha hx hX hS
  go_enter Tryz.func24, Tryz.ntmps24
  go_wp2_with fail
  refine (HNAN.out _).mono ?_; rintro z w1 ⟨rfl, rfl⟩
  go_wp2_with fail
  go_ret
  exact ⟨_, rfl, ⟨by decide, .inl ⟨.inl HN.out, by decide⟩⟩, Below.refl _ _⟩
 ·have t1 : decide (n < 1) = false := by simpa using hn
  obtain ⟨N, rfl⟩ : ∃ N : Nat, n = (N : Int) := ⟨n.toNat, by omega⟩
  have hN1 : 1 ≤ N := by omega
  have hN2 : N ≤ 9223372036854775807 := by omega
  have HB := Lib.hid (nbits_any a l c S xs w ha hx hX hl)
  have HSK := Lib.hid hS
  have HAB := Lib.hid (fun w => fabs_any s w h0 h1)
  have HON := Lib.hid (fun w => nof_any (N : Int) w (by omega) (by omega))
  have HOS := Lib.hid (fun w => nof_any (s.natAbs : Int) w (by omega) (by omega))
  have hsn : s.natAbs ≤ 9223372036854775808 := by omega
  have HA := Lib.hid ha
  have HX := Lib.hid hx
  have HV := Lib.hid hX
  have HSQ := Lib.hid (sq_abs s)
  have HN1 := Lib.hid hN1
  have HSN := Lib.hid hsn
  generalize s.natAbs = u at *
  have hcv : IntKind.u64.wrap (N : Int) = (N : Int) := by
   simp only [IntKind.wrap, IntKind.bits, IntKind.signed]
   simp
   omega
  clear ha hx hX hS hn h2 h3 hN1 hsn
  go_enter Tryz.func24, Tryz.ntmps24
  go_wp2_with fail
  refine HB.out.mono ?_; rintro z w1 ⟨b, rfl, rfl, hb⟩
  have hb1 : b ≤ 1000 := by
   rcases hb with ⟨-, rfl⟩ | ⟨hb1, hb2, -⟩
   ·omega
   ·have := bits_le hb2 HSK.out; omega
  have t2 : decide ((1000 : Int) < (b : Int)) = false := by simp; omega
  clear hb
  go_wp2_with fail
  refine (HON.out _).mono ?_; rintro e w1 ⟨a1, l1, c1, rfl, hN1, hb1, -⟩
  have HN1' := Lib.hid hN1
  have HB1 := Lib.hid hb1
  clear hN1 hb1
  go_wp2_with fail
  refine (HAB.out _).mono ?_; rintro e w9 ⟨rfl, rfl⟩
  go_wp2_with fail
  refine (HOS.out _).mono ?_; rintro e w2 ⟨a2, l2, c2, rfl, hN2', hb2, -⟩
  have HB2 := Lib.hid (HB1.out.trans (hb2.mono HB1.out.size))
  have HC2 := Lib.hid (HN1'.out.below hb2 (Nat.le_refl _))
  have hl1 := HC2.out.short (pow64 (by omega))
  have hl2 := hN2'.short (pow64 (by have := HSN.out; omega))
  obtain ⟨ns, n1, n2, n3⟩ := HC2.out.row
  have HM1 := Lib.hid (nmul_any a1 a l1 c1 l c ns xs w2 n1 (HA.out.below HB2.out (Nat.le_refl _)) n2 HX.out (by omega) (by omega))
  rw [n3, HV.out, ← Int.natCast_mul] at HM1
  have HS2 := Lib.hid hN2'
  clear hN2' hb2 n1 n2 n3 HN1'
  go_wp2_with fail
  refine HM1.out.mono ?_; rintro e w3 ⟨a3, l3, c3, rfl, hN3, hb3, -⟩
  have HB3 := Lib.hid (HB2.out.trans (hb3.mono HB2.out.size))
  have HC3 := Lib.hid (HC2.out.below hb3 (Nat.le_refl _))
  obtain ⟨ss, s1, s2, s3⟩ := (HS2.out.below hb3 (Nat.le_refl _)).row
  have HM2 := Lib.hid (nmul_any a2 a2 l2 c2 l2 c2 ss ss w3 s1 s1 s2 s2 (by omega) (by omega))
  rw [s3, ← Int.natCast_mul] at HM2
  have HP3 := Lib.hid hN3
  clear hN3 hb3 s1 s2 s3
  go_wp2_with fail
  refine HM2.out.mono ?_; rintro e w4 ⟨a4, l4, c4, rfl, hN4, hb4, -⟩
  have HB4 := Lib.hid (HB3.out.trans (hb4.mono HB3.out.size))
  have HC4 := Lib.hid (HC3.out.below hb4 (Nat.le_refl _))
  have hP4 := HP3.out.below hb4 (Nat.le_refl _)
  have HPB : Hid (N * S < 2 ^ (64 + K)) := Lib.hid (by
   rw [Nat.pow_add]
   exact Nat.mul_lt_mul_of_lt_of_lt (pow64 (by omega)) HSK.out)
  have hl3 := hP4.short HPB.out
  have hl4 := hN4.short (K := 64 + 64) (by
   have h1 : u < 2 ^ 64 := pow64 (by have := HSN.out; omega)
   rw [Nat.pow_add]
   exact Nat.mul_lt_mul_of_lt_of_lt h1 h1)
  obtain ⟨ps, p1, p2, p3⟩ := hP4.row
  obtain ⟨qs, q1, q2, q3⟩ := hN4.row
  rcases Nat.lt_or_ge (N * S) (u * u) with hlt | hge
  ·have HSB := Lib.hid (nsub_no a3 a4 l3 c3 l4 c4 ps qs w4 p1 q1 p2 q2 (by rw [p3, q3]; exact Int.ofNat_lt.2 hlt))
   have HLT := Lib.hid hlt
   clear hN4 hb4 hP4 p1 p2 p3 q1 q2 q3 hlt
   go_wp2_with fail
   refine HSB.out.mono ?_; rintro e w5 ⟨rfl, hb5⟩
   have HB5 := Lib.hid (HB4.out.trans (hb5.mono HB4.out.size))
   clear hb5
   go_wp2_with fail
   refine (HNAN.out _).mono ?_; rintro z w6 ⟨rfl, rfl⟩
   go_wp2_with fail
   go_ret
   refine ⟨_, rfl, ⟨by decide, .inl ⟨.inr ?_, by decide⟩⟩, HB5.out⟩
   rw [← HSQ.out, ← Int.natCast_mul]
   have := HLT.out
   omega
  ·have HSB := Lib.hid (nsub_any a3 a4 l3 c3 l4 c4 ps qs w4 p1 q1 p2 q2 (by omega) (by omega) (by rw [p3, q3]; exact Int.ofNat_le.2 hge))
   rw [p3, q3, show ((N * S : Nat) : Int) - ((u * u : Nat) : Int) = ((N * S - u * u : Nat) : Int) from by omega] at HSB
   have HGE := Lib.hid hge
   clear hN4 hb4 hP4 p1 p2 p3 q1 q2 q3 hge
   go_wp2_with fail
   refine HSB.out.mono ?_; rintro e w5 ⟨a5, l5, c5, rfl, hN5, hb5, -⟩
   have HB5 := Lib.hid (HB4.out.trans (hb5.mono HB4.out.size))
   obtain ⟨ns, n1, n2, n3⟩ := (HC4.out.below hb5 (Nat.le_refl _)).row
   have HM3 := Lib.hid (nmul_any a1 a1 l1 c1 l1 c1 ns ns w5 n1 n1 n2 n2 (by omega) (by omega))
   rw [n3, ← Int.natCast_mul] at HM3
   have HD5 := Lib.hid hN5
   clear hN5 hb5 n1 n2 n3
   go_wp2_with fail
   refine HM3.out.mono ?_; rintro e w6 ⟨a6, l6, c6, rfl, hN6, hb6, -⟩
   have HB6 := Lib.hid (HB5.out.trans (hb6.mono HB5.out.size))
   have hD6 := HD5.out.below hb6 (Nat.le_refl _)
   have hDB : N * S - u * u < 2 ^ (128 + K) := Nat.lt_of_le_of_lt (Nat.sub_le _ _) (Nat.lt_of_lt_of_le HPB.out (Nat.pow_le_pow_right (by decide) (by omega)))
   have hQB : N * N < 2 ^ (128 + K) := by
    have h1 : N * N < 2 ^ 64 * 2 ^ 64 := Nat.mul_lt_mul_of_lt_of_lt (pow64 (by omega)) (pow64 (by omega))
    rw [← Nat.pow_add] at h1
    exact Nat.lt_of_lt_of_le h1 (Nat.pow_le_pow_right (by decide) (by omega))
   have hl5 := hD6.short hDB
   have hl6 := hN6.short hQB
   obtain ⟨ps, p1, p2, p3⟩ := hD6.row
   obtain ⟨qs, q1, q2, q3⟩ := hN6.row
   have HRT := Lib.hid (froot_any a5 a6 l5 c5 l6 c6 (N * S - u * u) (N * N) (128 + K) ps qs w6 p1 q1 p2 q2 p3 q3 (by omega) (by omega) hDB hQB (by omega))
   clear hD6 hDB hQB hb6 hN6 p1 p2 p3 q1 q2 q3
   go_wp2_with fail
   refine HRT.out.mono ?_; rintro e w7 ⟨z, rfl, hz, hb7⟩
   have HB7 := Lib.hid (HB6.out.trans (hb7.mono HB6.out.size))
   have HZ := Lib.hid hz
   clear hz hb7
   go_wp2_with fail
   go_ret
   refine ⟨z, rfl, ⟨HZ.out.1, .inr ⟨by have := HN1.out; omega, ?_, ?_⟩⟩, HB7.out⟩
   ·rw [← HSQ.out, ← Int.natCast_mul]
    have := HGE.out
    omega
   ·rw [← HSQ.out, ← Int.natCast_mul, Int.toNat_natCast, show (((N * S : Nat) : Int) - ((u * u : Nat) : Int)).toNat = N * S - u * u from by omega]
    exact HZ.out
end Go.Proofs.YtdbkgpakpadloaaGreat
