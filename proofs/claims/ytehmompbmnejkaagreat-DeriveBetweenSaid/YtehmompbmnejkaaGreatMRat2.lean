/- Contracts of package bushelref04's none, infinity, long and Quot. Conditions: numbers below 2^3000. -/
import Derived.Test.YtehmompbmnejkaaGreatMRat1
import Derived.Test.YtehmompbmnejkaaGreatMFloC
import Derived.Test.YtehmompbmnejkaaGreatRef01o
namespace Go.Proofs.YtehmompbmnejkaaGreat
open Go.RowKit Ieee

end Go.Proofs.YtehmompbmnejkaaGreat
/- Contracts of package bushelref04's Quot, size, Mean and of package ratio's Mean. Conditions: numbers below 2^3000 (Quot). -/
namespace Go.Proofs.YtehmompbmnejkaaGreat
open Go.RowKit Ieee

end Go.Proofs.YtehmompbmnejkaaGreat
/- Contracts of package bushelref04's size and Mean and of package ratio's Mean. No conditions but the types' own. -/
namespace Go.Proofs.YtehmompbmnejkaaGreat
open Go.RowKit Ieee

theorem NumC.abs {w : World} {neg : Bool} {a : Option Addr} {n c : Nat} {z : Int} (h : NumC w neg a n c z) : NumC w false a n c ((z.natAbs : Nat) : Int) := by
 obtain ⟨xs, h1, h2, h3, h4, h5⟩ := h
 refine ⟨xs, h1, h2, h3, ?_, fun h => by cases h⟩
 have h6 := (V_bd (B := 1000) (by decide) h2).1
 cases neg <;> simp at h4 <;> simp <;> omega
theorem pow64 {k : Nat} (h : k ≤ 18446744073709551615) : k < 2 ^ 64 := by omega
def IsMean (s n : Int) (z : Nat) : Prop := (s = 0 ∧ n ≠ 0 ∧ z = 0) ∨ (¬ (s = 0 ∧ n ≠ 0) ∧ IsQuot (decide (s < 0) != decide (n < 0)) s.natAbs n.natAbs z)
def RMean (s n : Int) (w : World) (e : Ending) (w' : World) : Prop := ∃ z, e = .returned (.float .f64 z) ∧ IsMean s n z ∧ Below w.heap.size w w'

theorem fabs_any (a : Int) (w : World) (h1 : -9223372036854775808 ≤ a) (h2 : a ≤ 9223372036854775807) :
  Calls Tryz.prog 44 #[.int .i64 a] w fun e w' => e = .returned (.int .u64 (a.natAbs : Int)) ∧ w = w' := by
 go_enter Tryz.func44, Tryz.ntmps44
 go_wp2
 all_goals go_ret
 all_goals exact ⟨ret_int (by omega), rfl⟩

set_option maxHeartbeats 2000000 in
theorem fmean_any (s n : Int) (w : World) (h0 : -9223372036854775808 ≤ s) (h1 : s ≤ 9223372036854775807) (h2 : -9223372036854775808 ≤ n) (h3 : n ≤ 9223372036854775807) :
  Calls Tryz.prog 22 #[.int .i64 s, .int .i64 n] w (RMean s n w) := by
 by_cases hz : s = 0 ∧ n ≠ 0
 ·have HZ := Lib.hid hz
  have t1 : (s == 0) = true := by simpa using hz.1
  have t2 : (n != 0) = true := by simpa using hz.2
  clear hz
  go_enter Tryz.func22, Tryz.ntmps22
  go_wp2_with fail
  go_ret
  exact ⟨0, rfl, .inl ⟨HZ.out.1, HZ.out.2, rfl⟩, Below.refl _ _⟩
 ·have HZ := Lib.hid hz
  have asx := Lib.hid (fun w => fabs_any s w h0 h1)
  have an := Lib.hid (fun w => fabs_any n w h2 h3)
  have os := Lib.hid (fun w => nof_any (s.natAbs : Int) w (by omega) (by omega))
  have on := Lib.hid (fun w => nof_any (n.natAbs : Int) w (by omega) (by omega))
  have HPS : Hid (s.natAbs < 2 ^ 64 ∧ n.natAbs < 2 ^ 64) := Lib.hid ⟨pow64 (by omega), pow64 (by omega)⟩
  have ht : ((s == 0) = true ∧ (n != 0) = false) ∨ (s == 0) = false := by
   by_cases h : s = 0
   ·left; exact ⟨by simpa using h, by simp; omega⟩
   ·right; simpa using h
  clear hz
  rcases ht with ⟨t1, t2⟩ | t1
  all_goals
   go_enter Tryz.func22, Tryz.ntmps22
   go_wp2_with fail
   refine (asx.out _).mono ?_; rintro e w1 ⟨rfl, rfl⟩
   go_wp2_with fail
   refine (os.out _).mono ?_; rintro e w1 ⟨a1, l1, c1, rfl, hN1, hb1, hf1⟩
   have HN1 := Lib.hid hN1
   have HB1 := Lib.hid hb1
   clear hN1 hb1 hf1
   go_wp2_with fail
   refine (an.out _).mono ?_; rintro e w9 ⟨rfl, rfl⟩
   go_wp2_with fail
   refine (on.out _).mono ?_; rintro e w2 ⟨a2, l2, c2, rfl, hN2, hb2, hf2⟩
   have HB2 := Lib.hid (HB1.out.trans (hb2.mono HB1.out.size))
   have hN1 := HN1.out.below hb2 (Nat.le_refl _)
   have k1 := hN1.short HPS.out.1
   have k2 := hN2.short HPS.out.2
   obtain ⟨xs, x1, x2, x3⟩ := hN1.row
   obtain ⟨ys, y1, y2, y3⟩ := hN2.row
   have HQ := Lib.hid (fquot_any (decide (s < 0) != decide (n < 0)) a1 a2 l1 c1 l2 c2 s.natAbs n.natAbs 64 xs ys w2 x1 y1 x2 y2 x3 y3 (by omega) (by omega) HPS.out.1 HPS.out.2 (by omega))
   clear hN1 hN2 hb2 hf2 x1 x2 x3 y1 y2 y3 k1 k2
   go_wp2_with fail
   refine HQ.out.mono ?_; rintro e w3 ⟨z, rfl, hq, hb3⟩
   have HB3 := Lib.hid (HB2.out.trans (hb3.mono HB2.out.size))
   have HQ3 := Lib.hid hq
   clear hq hb3
   go_wp2_with fail
   go_ret
   exact ⟨z, rfl, .inr ⟨HZ.out, HQ3.out⟩, HB3.out⟩
end Go.Proofs.YtehmompbmnejkaaGreat
/- Contract of package ratio's Dev. Conditions: squares below 2^1000, at most 80000 words. -/
namespace Go.Proofs.YtehmompbmnejkaaGreat
open Go.RowKit Ieee

def IsDev (n s : Int) (S z : Nat) : Prop := z < 18446744073709551616 ∧ (((n < 1 ∨ n * S - s * s < 0) ∧ INF < z % S63) ∨ (1 ≤ n ∧ 0 ≤ n * S - s * s ∧ IsRootQ (n * S - s * s).toNat (n.toNat * n.toNat) z))
def RDev (n s : Int) (S : Nat) (w : World) (e : Ending) (w' : World) : Prop := ∃ z, e = .returned (.float .f64 z) ∧ IsDev n s S z ∧ Below w.heap.size w w'
theorem sq_abs (s : Int) : ((s.natAbs * s.natAbs : Nat) : Int) = s * s := by
 rw [Int.natCast_mul, ← Int.natAbs_mul_self' s]

set_option maxRecDepth 100000 in
set_option maxHeartbeats 4000000 in
theorem fdev_any (n s : Int) (a : Option Addr) (l c S K : Nat) (xs : List Int) (w : World) (ha : RowK .u32 w a l c xs) (hx : Dig 4294967296 xs) (hX : V 4294967296 xs = (S : Int)) (hl : l ≤ 80000) (hS : S < 2 ^ K) (hK : K ≤ 1000)
  (h0 : -9223372036854775808 ≤ s) (h1 : s ≤ 9223372036854775807) (h2 : -9223372036854775808 ≤ n) (h3 : n ≤ 9223372036854775807) :
  Calls Tryz.prog 23 #[.int .i64 n, .int .i64 s, .slice a l c] w (RDev n s S w) := by
 have HNAN := Lib.hid (fun w => nan_any w)
 by_cases hn : n < 1
 ·have t1 : decide (n < 1) = true := by simpa using hn
  have HN := Lib.hid hn
  clear hn ha hx hX hS
  go_enter Tryz.func23, Tryz.ntmps23
  go_wp2_with fail
  refine (HNAN.out _).mono ?_; rintro z w1 ⟨rfl, rfl⟩
  go_wp2_with fail
  go_ret
  exact ⟨_, rfl, ⟨by decide, .inl ⟨.inl HN.out, by decide⟩⟩, Below.refl _ _⟩
 ·have t1 : decide (n < 1) = false := by simpa using hn
  obtain ⟨N, rfl⟩ : ∃ N : Nat, n = (N : Int) := ⟨n.toNat, by omega⟩
  have hN1 : 1 ≤ N := by omega
  have hN2 : N ≤ 9223372036854775807 := by omega
  have HB := Lib.hid (nbits_any a l c S xs w ha hx hX hl)
  have HSK := Lib.hid hS
  have HAB := Lib.hid (fun w => fabs_any s w h0 h1)
  have HON := Lib.hid (fun w => nof_any (N : Int) w (by omega) (by omega))
  have HOS := Lib.hid (fun w => nof_any (s.natAbs : Int) w (by omega) (by omega))
  have hsn : s.natAbs ≤ 9223372036854775808 := by omega
  have HA := Lib.hid ha
  have HX := Lib.hid hx
  have HV := Lib.hid hX
  have HSQ := Lib.hid (sq_abs s)
  have HN1 := Lib.hid hN1
  have HSN := Lib.hid hsn
  generalize s.natAbs = u at *
  have hcv : IntKind.u64.wrap (N : Int) = (N : Int) := by
   simp only [IntKind.wrap, IntKind.bits, IntKind.signed]
   simp
   omega
  clear ha hx hX hS hn h2 h3 hN1 hsn
  go_enter Tryz.func23, Tryz.ntmps23
  go_wp2_with fail
  refine HB.out.mono ?_; rintro z w1 ⟨b, rfl, rfl, hb⟩
  have hb1 : b ≤ 1000 := by
   rcases hb with ⟨-, rfl⟩ | ⟨hb1, hb2, -⟩
   ·omega
   ·have := bits_le hb2 HSK.out; omega
  have t2 : decide ((1000 : Int) < (b : Int)) = false := by simp; omega
  clear hb
  go_wp2_with fail
  refine (HON.out _).mono ?_; rintro e w1 ⟨a1, l1, c1, rfl, hN1, hb1, -⟩
  have HN1' := Lib.hid hN1
  have HB1 := Lib.hid hb1
  clear hN1 hb1
  go_wp2_with fail
  refine (HAB.out _).mono ?_; rintro e w9 ⟨rfl, rfl⟩
  go_wp2_with fail
  refine (HOS.out _).mono ?_; rintro e w2 ⟨a2, l2, c2, rfl, hN2', hb2, -⟩
  have HB2 := Lib.hid (HB1.out.trans (hb2.mono HB1.out.size))
  have HC2 := Lib.hid (HN1'.out.below hb2 (Nat.le_refl _))
  have hl1 := HC2.out.short (pow64 (by omega))
  have hl2 := hN2'.short (pow64 (by have := HSN.out; omega))
  obtain ⟨ns, n1, n2, n3⟩ := HC2.out.row
  have HM1 := Lib.hid (nmul_any a1 a l1 c1 l c ns xs w2 n1 (HA.out.below HB2.out (Nat.le_refl _)) n2 HX.out (by omega) (by omega))
  rw [n3, HV.out, ← Int.natCast_mul] at HM1
  have HS2 := Lib.hid hN2'
  clear hN2' hb2 n1 n2 n3 HN1'
  go_wp2_with fail
  refine HM1.out.mono ?_; rintro e w3 ⟨a3, l3, c3, rfl, hN3, hb3, -⟩
  have HB3 := Lib.hid (HB2.out.trans (hb3.mono HB2.out.size))
  have HC3 := Lib.hid (HC2.out.below hb3 (Nat.le_refl _))
  obtain ⟨ss, s1, s2, s3⟩ := (HS2.out.below hb3 (Nat.le_refl _)).row
  have HM2 := Lib.hid (nmul_any a2 a2 l2 c2 l2 c2 ss ss w3 s1 s1 s2 s2 (by omega) (by omega))
  rw [s3, ← Int.natCast_mul] at HM2
  have HP3 := Lib.hid hN3
  clear hN3 hb3 s1 s2 s3
  go_wp2_with fail
  refine HM2.out.mono ?_; rintro e w4 ⟨a4, l4, c4, rfl, hN4, hb4, -⟩
  have HB4 := Lib.hid (HB3.out.trans (hb4.mono HB3.out.size))
  have HC4 := Lib.hid (HC3.out.below hb4 (Nat.le_refl _))
  have hP4 := HP3.out.below hb4 (Nat.le_refl _)
  have HPB : Hid (N * S < 2 ^ (64 + K)) := Lib.hid (by
   rw [Nat.pow_add]
   exact Nat.mul_lt_mul_of_lt_of_lt (pow64 (by omega)) HSK.out)
  have hl3 := hP4.short HPB.out
  have hl4 := hN4.short (K := 64 + 64) (by
   have h1 : u < 2 ^ 64 := pow64 (by have := HSN.out; omega)
   rw [Nat.pow_add]
   exact Nat.mul_lt_mul_of_lt_of_lt h1 h1)
  obtain ⟨ps, p1, p2, p3⟩ := hP4.row
  obtain ⟨qs, q1, q2, q3⟩ := hN4.row
  rcases Nat.lt_or_ge (N * S) (u * u) with hlt | hge
  ·have HSB := Lib.hid (nsub_no a3 a4 l3 c3 l4 c4 ps qs w4 p1 q1 p2 q2 (by rw [p3, q3]; exact Int.ofNat_lt.2 hlt))
   have HLT := Lib.hid hlt
   clear hN4 hb4 hP4 p1 p2 p3 q1 q2 q3 hlt
   go_wp2_with fail
   refine HSB.out.mono ?_; rintro e w5 ⟨rfl, hb5⟩
   have HB5 := Lib.hid (HB4.out.trans (hb5.mono HB4.out.size))
   clear hb5
   go_wp2_with fail
   refine (HNAN.out _).mono ?_; rintro z w6 ⟨rfl, rfl⟩
   go_wp2_with fail
   go_ret
   refine ⟨_, rfl, ⟨by decide, .inl ⟨.inr ?_, by decide⟩⟩, HB5.out⟩
   rw [← HSQ.out, ← Int.natCast_mul]
   have := HLT.out
   omega
  ·have HSB := Lib.hid (nsub_any a3 a4 l3 c3 l4 c4 ps qs w4 p1 q1 p2 q2 (by omega) (by omega) (by rw [p3, q3]; exact Int.ofNat_le.2 hge))
   rw [p3, q3, show ((N * S : Nat) : Int) - ((u * u : Nat) : Int) = ((N * S - u * u : Nat) : Int) from by omega] at HSB
   have HGE := Lib.hid hge
   clear hN4 hb4 hP4 p1 p2 p3 q1 q2 q3 hge
   go_wp2_with fail
   refine HSB.out.mono ?_; rintro e w5 ⟨a5, l5, c5, rfl, hN5, hb5, -⟩
   have HB5 := Lib.hid (HB4.out.trans (hb5.mono HB4.out.size))
   obtain ⟨ns, n1, n2, n3⟩ := (HC4.out.below hb5 (Nat.le_refl _)).row
   have HM3 := Lib.hid (nmul_any a1 a1 l1 c1 l1 c1 ns ns w5 n1 n1 n2 n2 (by omega) (by omega))
   rw [n3, ← Int.natCast_mul] at HM3
   have HD5 := Lib.hid hN5
   clear hN5 hb5 n1 n2 n3
   go_wp2_with fail
   refine HM3.out.mono ?_; rintro e w6 ⟨a6, l6, c6, rfl, hN6, hb6, -⟩
   have HB6 := Lib.hid (HB5.out.trans (hb6.mono HB5.out.size))
   have hD6 := HD5.out.below hb6 (Nat.le_refl _)
   have hDB : N * S - u * u < 2 ^ (128 + K) := Nat.lt_of_le_of_lt (Nat.sub_le _ _) (Nat.lt_of_lt_of_le HPB.out (Nat.pow_le_pow_right (by decide) (by omega)))
   have hQB : N * N < 2 ^ (128 + K) := by
    have h1 : N * N < 2 ^ 64 * 2 ^ 64 := Nat.mul_lt_mul_of_lt_of_lt (pow64 (by omega)) (pow64 (by omega))
    rw [← Nat.pow_add] at h1
    exact Nat.lt_of_lt_of_le h1 (Nat.pow_le_pow_right (by decide) (by omega))
   have hl5 := hD6.short hDB
   have hl6 := hN6.short hQB
   obtain ⟨ps, p1, p2, p3⟩ := hD6.row
   obtain ⟨qs, q1, q2, q3⟩ := hN6.row
   have HRT := Lib.hid (froot_any a5 a6 l5 c5 l6 c6 (N * S - u * u) (N * N) (128 + K) ps qs w6 p1 q1 p2 q2 p3 q3 (by omega) (by omega) hDB hQB (by omega))
   clear hD6 hDB hQB hb6 hN6 p1 p2 p3 q1 q2 q3
   go_wp2_with fail
   refine HRT.out.mono ?_; rintro e w7 ⟨z, rfl, hz, hb7⟩
   have HB7 := Lib.hid (HB6.out.trans (hb7.mono HB6.out.size))
   have HZ := Lib.hid hz
   clear hz hb7
   go_wp2_with fail
   go_ret
   refine ⟨z, rfl, ⟨HZ.out.1, .inr ⟨by have := HN1.out; omega, ?_, ?_⟩⟩, HB7.out⟩
   ·rw [← HSQ.out, ← Int.natCast_mul]
    have := HGE.out
    omega
   ·rw [← HSQ.out, ← Int.natCast_mul, Int.toNat_natCast, show (((N * S : Nat) : Int) - ((u * u : Nat) : Int)).toNat = N * S - u * u from by omega]
    exact HZ.out
end Go.Proofs.YtehmompbmnejkaaGreat
