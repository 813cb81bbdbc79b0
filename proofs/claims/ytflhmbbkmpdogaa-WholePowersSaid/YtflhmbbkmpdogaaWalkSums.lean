/- The walk of the law WholeSums: it answers true for every input. -/
import Derived.Test.YtflhmbbkmpdogaaWalkDivides
import Derived.Test.YtflhmbbkmpdogaaRef01g
namespace Go.Proofs.Ytflhmbbkmpdogaa
open Go.RowKit

theorem fit2 {z : Int} (h1 : -18446744073709551616 ≤ z) (h2 : z ≤ 18446744073709551616) : Fit z := Fit.i64 h1 h2
/-- a number without its sign -/
theorem NumC.size' {w : World} {neg : Bool} {a : Option Addr} {n c : Nat} {z : Int} (h : NumC w neg a n c z) : NumC w false a n c z.natAbs := by
  obtain ⟨xs, hr, hd, ht, hz, hg⟩ := h
  have h0 := (V_bd (B := 1000) (by decide) hd).1
  exact ⟨xs, hr, hd, ht, by rw [hz]; cases neg <;> simp <;> omega, fun h => by cases h⟩

theorem uint_size (na : Bool) (a : Option Addr) (n c : Nat) (x : Int) (w : World) (hx : NumC w na a n c x) (hl : x.natAbs ≤ 18446744073709551615) :
    Calls Try.prog 26 #[.agg #[.bool false, .slice a n c]] w fun e w' => e = .returned (.int .u64 (x.natAbs : Int)) ∧ Below w.heap.size w w' := by
  have h := uint_any false a n c _ w hx.size' (by simpa using hl)
  rw [Int.natAbs_natCast] at h
  exact h

set_option maxHeartbeats 1000000 in
theorem walk_sums (a b : Int) (w0 : (Lit.int .i64 a).wf = true) (w1 : (Lit.int .i64 b).wf = true) (w : World) :
    Calls Try.prog 6 #[.int .i64 a, .int .i64 b] w fun e w' => e = .returned (.bool true) ∧ Below w.heap.size w w' := by
  obtain ⟨a1, a2⟩ := wf_i64b w0
  obtain ⟨b1, b2⟩ := wf_i64b w1
  clear w0 w1
  go_enter Try.func6, Try.ntmps6
  go_wp2_with fail
  refine (of_any a _ a1 a2).mono ?_; rintro e w1 ⟨na, pa, n, c, rfl, hX, hb1, -⟩
  have HX := Lib.hid hX
  have HB1 := Lib.hid hb1
  clear hX hb1
  go_wp2_with fail
  refine (of_any b _ b1 b2).mono ?_; rintro e w2 ⟨nb, pb, m, d, rfl, hY, hb2, -⟩
  have HX2 := Lib.hid (HX.out.below hb2 (Nat.le_refl _))
  have HY := Lib.hid hY
  have HB2 := Lib.hid (HB1.out.trans (hb2.mono HB1.out.size))
  have hsz2 : w.heap.size ≤ w2.heap.size := HB2.out.size
  clear hY hb2 HX HB1
  go_wp2_with fail
  refine (whole_add a b _ a1 a2 b1 b2).mono ?_; rintro e w3 ⟨rfl, rfl⟩
  go_wp2_with fail
  refine (whole_sub a b _ a1 a2 b1 b2).mono ?_; rintro e w3 ⟨rfl, rfl⟩
  have x0 : ((w2.alloc (.cells #[.bool na, .slice pa n c] 26)).alloc (.cells #[.bool nb, .slice pb m d] 26)).cell? ⟨w2.heap.size, 0, none⟩ = some (.bool na) := by simp [go_sem]
  have x1 : ((w2.alloc (.cells #[.bool na, .slice pa n c] 26)).alloc (.cells #[.bool nb, .slice pb m d] 26)).cell? ⟨w2.heap.size, 1, none⟩ = some (.slice pa n c) := by simp [go_sem]
  have y0 : ((w2.alloc (.cells #[.bool na, .slice pa n c] 26)).alloc (.cells #[.bool nb, .slice pb m d] 26)).cell? ⟨w2.heap.size + 1, 0, none⟩ = some (.bool nb) := by simp [go_sem]
  have y1 : ((w2.alloc (.cells #[.bool na, .slice pa n c] 26)).alloc (.cells #[.bool nb, .slice pb m d] 26)).cell? ⟨w2.heap.size + 1, 1, none⟩ = some (.slice pb m d) := by simp [go_sem]
  have hbw : Below w2.heap.size w2 ((w2.alloc (.cells #[.bool na, .slice pa n c] 26)).alloc (.cells #[.bool nb, .slice pb m d] 26)) := ((Below.refl _ _).alloc (Nat.le_refl _) _).alloc (by simp) _
  have hzw : w2.heap.size + 1 < ((w2.alloc (.cells #[.bool na, .slice pa n c] 26)).alloc (.cells #[.bool nb, .slice pb m d] 26)).heap.size := by simp
  generalize ((w2.alloc (.cells #[.bool na, .slice pa n c] 26)).alloc (.cells #[.bool nb, .slice pb m d] 26)) = wa at *
  have HX3 := Lib.hid (HX2.out.below hbw (Nat.le_refl _))
  have HY3 := Lib.hid (HY.out.below hbw (Nat.le_refl _))
  have HB3 := Lib.hid (HB2.out.trans (hbw.mono hsz2))
  clear HX2 HY HB2 hbw
  generalize w2.heap.size = s at *
  clear w1 w2
  have hsa : s < wa.heap.size := by omega
  have FX : Hid (Fit a) := Lib.hid (fit2 (by omega) (by omega))
  have FY : Hid (Fit b) := Lib.hid (fit2 (by omega) (by omega))
  have FS : Hid (Fit (a + b)) := Lib.hid (fit2 (by omega) (by omega))
  go_wp2_with fail
  refine (add_any _ _ _ _ _ _ _ _ a b _ HX3.out HY3.out FX.out FY.out).mono ?_; rintro e w3 ⟨n3, p3, l3, c3, rfl, hS, hb3, -⟩
  have HS := Lib.hid hS
  have HB4 := Lib.hid hb3
  clear hS hb3
  go_wp2_with fail
  refine (nat_any 2 _ (by omega) (by omega)).mono ?_; rintro e w4 ⟨n4, p4, l4, c4, rfl, hT, hb4, -⟩
  have HS2 := Lib.hid (HS.out.below hb4 (Nat.le_refl _))
  have HT := Lib.hid hT
  have HB5 := Lib.hid (HB4.out.trans (hb4.mono HB4.out.size))
  clear hT hb4 HS HB4
  go_wp2_with fail
  refine (div_any _ _ _ _ _ _ _ _ (a + b) 2 _ HS2.out HT.out (by omega) (Fit.of_pow (k := 10) (by omega) (by decide))).mono ?_
  rintro e w5 ⟨n5, p5, l5, c5, n6, p6, l6, c6, rfl, hQ, -, hb5⟩
  rw [show (a + b).fdiv 2 = (a + b) / 2 from Int.fdiv_eq_ediv_of_nonneg _ (by omega)] at hQ
  have HQ := Lib.hid hQ
  have hb6 := (HB5.out.trans (hb5.mono HB5.out.size))
  have hz5 : wa.heap.size ≤ w5.heap.size := hb6.size
  have HB6 := Lib.hid hb6
  clear hQ hb5 HB5 HT HS2 hb6
  go_wp2_with fail
  have h0 : ((w5.alloc (.cells #[.bool n5, .slice p5 l5 c5] 26)).alloc (.cells #[.bool n6, .slice p6 l6 c6] 26)).cell? ⟨w5.heap.size, 0, none⟩ = some (.bool n5) := by simp [go_sem]
  have h1 : ((w5.alloc (.cells #[.bool n5, .slice p5 l5 c5] 26)).alloc (.cells #[.bool n6, .slice p6 l6 c6] 26)).cell? ⟨w5.heap.size, 1, none⟩ = some (.slice p5 l5 c5) := by simp [go_sem]
  have hbw : Below w5.heap.size w5 ((w5.alloc (.cells #[.bool n5, .slice p5 l5 c5] 26)).alloc (.cells #[.bool n6, .slice p6 l6 c6] 26)) := ((Below.refl _ _).alloc (Nat.le_refl _) _).alloc (by simp) _
  have hzv : w5.heap.size < ((w5.alloc (.cells #[.bool n5, .slice p5 l5 c5] 26)).alloc (.cells #[.bool n6, .slice p6 l6 c6] 26)).heap.size := by simp; omega
  generalize ((w5.alloc (.cells #[.bool n5, .slice p5 l5 c5] 26)).alloc (.cells #[.bool n6, .slice p6 l6 c6] 26)) = wb at *
  have hB := HB6.out.trans (hbw.mono hz5)
  have hsz := hB.size
  have HX5 := Lib.hid (HX3.out.below hB (Nat.le_refl _))
  have HY5 := Lib.hid (HY3.out.below hB (Nat.le_refl _))
  have HQ5 := Lib.hid (HQ.out.below hbw (Nat.le_refl _))
  obtain ⟨bc, -⟩ := bcell hB
  have x0' : wb.cell? ⟨s, 0, none⟩ = some (.bool na) := by rw [bc _ _ hsa]; exact x0
  have x1' : wb.cell? ⟨s, 1, none⟩ = some (.slice pa n c) := by rw [bc _ _ hsa]; exact x1
  have y0' : wb.cell? ⟨s + 1, 0, none⟩ = some (.bool nb) := by rw [bc _ _ hzw]; exact y0
  have y1' : wb.cell? ⟨s + 1, 1, none⟩ = some (.slice pb m d) := by rw [bc _ _ hzw]; exact y1
  have HB7 := Lib.hid (HB3.out.trans (hB.mono (by have := HB3.out.size; omega)))
  clear bc hB hbw HB6 HB3 HX3 HY3 HQ x0 x1 y0 y1
  generalize w5.heap.size = t at *
  clear w3 w4 w5
  have hs0 : s < wb.heap.size := by omega
  have hs1 : s + 1 < wb.heap.size := by omega
  have hbA : Below wb.heap.size wb wb.drew := (Below.refl _ _).drew
  clear hsa hzw hsz hz5
  go_region_held3 (fun w' => w'.cell? ⟨s, 0, none⟩ = some (.bool na) ∧ w'.cell? ⟨s, 1, none⟩ = some (.slice pa n c) ∧ w'.cell? ⟨s + 1, 0, none⟩ = some (.bool nb) ∧ w'.cell? ⟨s + 1, 1, none⟩ = some (.slice pb m d) ∧ w'.cell? ⟨t, 0, none⟩ = some (.bool n5) ∧ w'.cell? ⟨t, 1, none⟩ = some (.slice p5 l5 c5)) (go_keep)
    (first
      | (go_at_call 9; refine (add_any _ _ _ _ _ _ _ _ a b _ (HX5.out.below hbA (Nat.le_refl _)) (HY5.out.below hbA (Nat.le_refl _)) FX.out FY.out).mono ?_; rintro e w8 ⟨n8, a8, l8, c8, rfl, hN8, hb8, -⟩; replace hbA := hbA.trans (hb8.mono (Nat.le_trans (by simp) hbA.size)); obtain ⟨bc8, bf8⟩ := bcell hbA)
      | (go_at_call 24; refine (sub_any _ _ _ _ _ _ _ _ a b _ (HX5.out.below hbA (Nat.le_refl _)) (HY5.out.below hbA (Nat.le_refl _)) FX.out FY.out).mono ?_; rintro e w8 ⟨n8, a8, l8, c8, rfl, hN8, hb8, -⟩; replace hbA := hbA.trans (hb8.mono (Nat.le_trans (by simp) hbA.size)); obtain ⟨bc8, bf8⟩ := bcell hbA)
      | (go_at_call 12; refine (is_any _ _ _ _ _ _ hN8).mono ?_; rintro e w9 ⟨rfl, hb9⟩; clear hN8 hb8 bc8 bf8; replace hbA := hbA.trans (hb9.mono (Nat.le_trans (by simp) hbA.size)); clear hb9; obtain ⟨bc8, bf8⟩ := bcell hbA)
      | (go_at_call 25; refine (whole_half a b _ a1 a2 b1 b2).mono ?_; rintro e w9 ⟨rfl, rfl⟩)
      | (go_at_call 20; refine (int_any _ _ _ _ _ _ (HQ5.out.below hbA (Nat.le_refl _)) (by omega) (by omega)).mono ?_; rintro e w9 ⟨rfl, hb9⟩; clear bc8 bf8; replace hbA := hbA.trans (hb9.mono (Nat.le_trans (by simp) hbA.size)); clear hb9; obtain ⟨bc8, bf8⟩ := bcell hbA))
  clear bc8 bf8
  have hB9 := HB7.out.trans (hbA.mono (by have := HB7.out.size; omega))
  have hsz9 := hbA.size
  have HX9 := Lib.hid (HX5.out.below hbA (Nat.le_refl _))
  have x2 : w9.cell? ⟨s, 1, none⟩ = some (.slice pa n c) := by rw [hbA.cell (p := ⟨s, 1, none⟩) hs0]; exact x1'
  have HB9 := Lib.hid hB9
  clear hbA hB9 x0' x1' y0' y1' h0 h1 HX5 HY5 HQ5 HB7
  have hs0' : s < w9.heap.size := by omega
  clear hs0 hs1 hsz9 hzv
  have hbA : Below w9.heap.size w9 w9.drew := (Below.refl _ _).drew
  have hab : a.natAbs ≤ 18446744073709551615 := by omega
  go_wp2_with fail
  go_region_held3 (fun w' => w'.cell? ⟨s, 1, none⟩ = some (.slice pa n c)) (go_keep)
    (first
      | (go_at_call 14; refine (whole_abs a _ a1 a2).mono ?_; rintro e w8 ⟨rfl, rfl⟩)
      | (go_at_call 26; refine (uint_size _ _ _ _ a _ (HX9.out.below hbA (Nat.le_refl _)) hab).mono ?_; rintro e w8 ⟨rfl, hb8⟩; replace hbA := hbA.trans (hb8.mono (Nat.le_trans (by simp) hbA.size)); clear hb8; obtain ⟨bc8, bf8⟩ := bcell hbA)
      | (go_at_call 8; refine (awake_any _).mono ?_; rintro e w8 ⟨rfl, hb8⟩; replace hbA := hbA.trans (hb8.mono (Nat.le_trans (by simp) hbA.size)); clear hb8 bc8 bf8; obtain ⟨bc8, bf8⟩ := bcell hbA))
  all_goals go_wp2_with fail
  all_goals go_ret
  all_goals exact ⟨rfl, HB9.out.trans (hbA.mono (by have := HB9.out.size; omega))⟩
end Go.Proofs.Ytflhmbbkmpdogaa
