/- The walk of the law WholeProducts: it answers true for every input. -/
import Derived.Test.YtflhmbbkmpdogaaWalkSums
namespace Go.Proofs.Ytflhmbbkmpdogaa
open Go.RowKit

theorem fdiv_range (a b : Int) (h1 : -9223372036854775808 ≤ a) (h2 : a ≤ 9223372036854775807) (hb : b ≠ 0) (hc : ¬ (b = -1 ∧ a = -9223372036854775808)) :
    -9223372036854775808 ≤ a.fdiv b ∧ a.fdiv b ≤ 9223372036854775807 := by
  by_cases hq : b = -1
  · subst hq
    have hm := tmod_m1 a
    have := (floor_div a (-1) hb).2 (.inl hm)
    have e : a.tdiv (-1) = -a := by rw [Int.tdiv_neg, Int.tdiv_one]
    omega
  · have hr := tdiv_range a b h1 h2 hb hq
    by_cases hz : a.tmod b = 0
    · have := (floor_div a b hb).2 (.inl hz)
      omega
    · have hs := tdiv_small a b h1 h2 hb hz
      by_cases hg : (a.tmod b < 0) ↔ ¬ (b < 0)
      · have := (floor_div a b hb).1 hz hg
        omega
      · have := (floor_div a b hb).2 (.inr (by omega))
        omega

/-- what whole.Div answers, in three cases -/
def DivCase (a b q r : Int) (t : Bool) : Prop :=
  (b = 0 ∧ q = 0 ∧ r = 0 ∧ t = false) ∨ (b ≠ 0 ∧ fits (a.fdiv b) = false ∧ q = 0 ∧ r = 0 ∧ t = false) ∨ (b ≠ 0 ∧ fits (a.fdiv b) = true ∧ q = a.fdiv b ∧ r = a.fmod b ∧ t = true)

theorem whole_div_case (a b : Int) (w : World) (h1 : -9223372036854775808 ≤ a) (h2 : a ≤ 9223372036854775807) (h3 : -9223372036854775808 ≤ b) (h4 : b ≤ 9223372036854775807) :
    Calls Try.prog 16 #[.int .i64 a, .int .i64 b] w fun e w' => ∃ q r t, e = .returned (.tuple #[.int .i64 q, .int .i64 r, .bool t]) ∧ DivCase a b q r t ∧ Below w.heap.size w w' := by
  by_cases hb : b = 0
  · refine (whole_div_no a b w (.inl hb)).mono ?_
    rintro e w' ⟨rfl, rfl⟩
    exact ⟨0, 0, false, rfl, .inl ⟨hb, rfl, rfl, rfl⟩, Below.refl _ _⟩
  · by_cases hc : b = -1 ∧ a = -9223372036854775808
    · refine (whole_div_no a b w (.inr hc)).mono ?_
      rintro e w' ⟨rfl, rfl⟩
      exact ⟨0, 0, false, rfl, .inr (.inl ⟨hb, by rw [hc.1, hc.2]; decide, rfl, rfl, rfl⟩), Below.refl _ _⟩
    · refine (whole_div a b w h1 h2 h3 h4 hb hc).mono ?_
      rintro e w' ⟨rfl, hbel⟩
      exact ⟨_, _, _, rfl, .inr (.inr ⟨hb, fits_yes (fdiv_range a b h1 h2 hb hc), rfl, rfl, rfl⟩), hbel⟩

set_option maxHeartbeats 1000000 in
theorem walk_products (a b : Int) (w0 : (Lit.int .i64 a).wf = true) (w1 : (Lit.int .i64 b).wf = true) (w : World) :
    Calls Try.prog 5 #[.int .i64 a, .int .i64 b] w fun e w' => e = .returned (.bool true) ∧ Below w.heap.size w w' := by
  obtain ⟨a1, a2⟩ := wf_i64b w0
  obtain ⟨b1, b2⟩ := wf_i64b w1
  clear w0 w1
  go_enter Try.func5, Try.ntmps5
  go_wp2_with fail
  refine (of_any a _ a1 a2).mono ?_; rintro e w1 ⟨na, pa, n, c, rfl, hX, hb1, -⟩
  have HX := Lib.hid hX
  have HB1 := Lib.hid hb1
  clear hX hb1
  go_wp2_with fail
  refine (of_any b _ b1 b2).mono ?_; rintro e w2 ⟨nb, pb, m, d, rfl, hY, hb2, -⟩
  have HX2 := Lib.hid (HX.out.below hb2 (Nat.le_refl _))
  have HY := Lib.hid hY
  have HB2 := Lib.hid (HB1.out.trans (hb2.mono HB1.out.size))
  have hsz2 : w.heap.size ≤ w2.heap.size := HB2.out.size
  clear hY hb2 HX HB1
  go_wp2_with fail
  refine (whole_mul a b _ a1 a2 b1 b2).mono ?_; rintro e w3 ⟨rfl, rfl⟩
  go_wp2_with fail
  refine (whole_div_case a b _ a1 a2 b1 b2).mono ?_; rintro e w3 ⟨q, r, t, rfl, hcase, hb3⟩
  have hbw : Below w2.heap.size w2 w3 := (((Below.refl _ _).alloc (Nat.le_refl _) _).alloc (by simp) _).trans (hb3.mono (by simp; omega))
  have hz3 : w2.heap.size + 1 < w3.heap.size := by have := hb3.size; simp at this; omega
  have x0 : w3.cell? ⟨w2.heap.size, 0, none⟩ = some (.bool na) := by rw [hb3.cell (p := ⟨w2.heap.size, 0, none⟩) (by simp; omega)]; simp [go_sem]
  have x1 : w3.cell? ⟨w2.heap.size, 1, none⟩ = some (.slice pa n c) := by rw [hb3.cell (p := ⟨w2.heap.size, 1, none⟩) (by simp; omega)]; simp [go_sem]
  have y0 : w3.cell? ⟨w2.heap.size + 1, 0, none⟩ = some (.bool nb) := by rw [hb3.cell (p := ⟨w2.heap.size + 1, 0, none⟩) (by simp)]; simp [go_sem]
  have y1 : w3.cell? ⟨w2.heap.size + 1, 1, none⟩ = some (.slice pb m d) := by rw [hb3.cell (p := ⟨w2.heap.size + 1, 1, none⟩) (by simp)]; simp [go_sem]
  have HX3 := Lib.hid (HX2.out.below hbw (Nat.le_refl _))
  have HY3 := Lib.hid (HY.out.below hbw (Nat.le_refl _))
  have HB3 := Lib.hid (HB2.out.trans (hbw.mono hsz2))
  clear HX2 HY HB2 hbw hb3
  generalize w2.heap.size = s at *
  clear w1 w2
  have hs0 : s < w3.heap.size := by omega
  have FX : Hid (Fit a) := Lib.hid (fit2 (by omega) (by omega))
  have FY : Hid (Fit b) := Lib.hid (fit2 (by omega) (by omega))
  have FD : Hid (Fit ((a.natAbs : Int) + 1000 * (b.natAbs : Int) + 1000)) := Lib.hid (Fit.of_pow (k := 10) (by omega) (by decide))
  go_wp2_with fail
  refine (mul_any _ _ _ _ _ _ _ _ a b _ HX3.out HY3.out FX.out FY.out).mono ?_; rintro e w4 ⟨n4, p4, l4, c4, rfl, hS, hb4, -⟩
  have HS := Lib.hid hS
  have HB4 := Lib.hid hb4
  clear hS hb4
  go_wp2_with fail
  refine (is_any _ _ _ _ _ _ HS.out).mono ?_; rintro e w5 ⟨rfl, hb5⟩
  have hb6 := HB4.out.trans (hb5.mono HB4.out.size)
  have hz5 : w3.heap.size ≤ w5.heap.size := hb6.size
  have HX5 := Lib.hid (HX3.out.below hb6 (Nat.le_refl _))
  have HY5 := Lib.hid (HY3.out.below hb6 (Nat.le_refl _))
  obtain ⟨bc, -⟩ := bcell hb6
  have x0' : w5.cell? ⟨s, 0, none⟩ = some (.bool na) := by rw [bc _ _ hs0]; exact x0
  have x1' : w5.cell? ⟨s, 1, none⟩ = some (.slice pa n c) := by rw [bc _ _ hs0]; exact x1
  have y0' : w5.cell? ⟨s + 1, 0, none⟩ = some (.bool nb) := by rw [bc _ _ hz3]; exact y0
  have y1' : w5.cell? ⟨s + 1, 1, none⟩ = some (.slice pb m d) := by rw [bc _ _ hz3]; exact y1
  have HB7 := Lib.hid (HB3.out.trans (hb6.mono HB3.out.size))
  clear bc hb6 hb5 HB4 HB3 HX3 HY3 HS x0 x1 y0 y1
  have hw5 : w.heap.size ≤ w5.heap.size := HB7.out.size
  rcases hcase with ⟨hb0, rfl, rfl, rfl⟩ | ⟨hb0, hft, rfl, rfl, rfl⟩ | ⟨hb0, hft, rfl, rfl, rfl⟩
  · subst hb0
    go_wp2_with fail
    refine (awake_any _).mono ?_; rintro e w6 ⟨rfl, hb6⟩
    have HB8 := Lib.hid (HB7.out.trans (hb6.mono hw5))
    clear hb6
    go_wp2_with fail
    go_ret
    exact ⟨rfl, HB8.out⟩
  · have hb0' : (b == 0) = false := by simpa using hb0
    have HF := Lib.hid hft
    clear hft
    go_wp2_with fail
    refine (div_any _ _ _ _ _ _ _ _ a b _ HX5.out HY5.out hb0 FD.out).mono ?_
    rintro e w6 ⟨n5, p5, l5, c5, n6, p6, l6, c6, rfl, hQ, -, hb6⟩
    have HQ := Lib.hid hQ
    have HB8 := Lib.hid (HB7.out.trans (hb6.mono hw5))
    have hw6 : w.heap.size ≤ w6.heap.size := HB8.out.size
    clear hQ hb6
    go_wp2_with fail
    have hbw : Below w6.heap.size w6 ((w6.alloc (.cells #[.bool n5, .slice p5 l5 c5] 26)).alloc (.cells #[.bool n6, .slice p6 l6 c6] 26)) := ((Below.refl _ _).alloc (Nat.le_refl _) _).alloc (by simp) _
    refine (fits_any _ _ _ _ _ _ (HQ.out.below hbw (Nat.le_refl _))).mono ?_; rintro e w7 ⟨rfl, hb7⟩
    have hb8 := HB8.out.trans ((hbw.trans (hb7.mono (by simp; omega))).mono hw6)
    have HB9 := Lib.hid hb8
    have hw7 : w.heap.size ≤ w7.heap.size := hb8.size
    clear hb8 hb7 hbw
    rw [HF.out]
    go_wp2_with fail
    refine (awake_any _).mono ?_; rintro e w8 ⟨rfl, hb8⟩
    have HBA := Lib.hid (HB9.out.trans (hb8.mono hw7))
    clear hb8
    go_wp2_with fail
    go_ret
    exact ⟨rfl, HBA.out⟩
  · have hb0' : (b == 0) = false := by simpa using hb0
    have hq := fits_iff.1 hft
    have hm := fmod_natAbs_le a b hb0
    have HF := Lib.hid hft
    clear hft
    go_wp2_with fail
    refine (div_any _ _ _ _ _ _ _ _ a b _ HX5.out HY5.out hb0 FD.out).mono ?_
    rintro e w6 ⟨n5, p5, l5, c5, n6, p6, l6, c6, rfl, hQ, hR, hb6⟩
    have HQ := Lib.hid hQ
    have HR := Lib.hid hR
    have HB8 := Lib.hid (HB7.out.trans (hb6.mono hw5))
    have hw6 : w.heap.size ≤ w6.heap.size := HB8.out.size
    clear hQ hR hb6
    generalize a.fdiv b = Q at *
    generalize hRR : a.fmod b = R at *
    have hm1 : -9223372036854775808 ≤ R := by
      rw [← hRR]; have := fmod_rng a b; rcases Int.lt_or_gt_of_ne hb0 with h | h
      · have := this.2 h; omega
      · have := this.1 h; omega
    have hm2 : R ≤ 9223372036854775807 := by
      rw [← hRR]; have := fmod_rng a b; rcases Int.lt_or_gt_of_ne hb0 with h | h
      · have := this.2 h; omega
      · have := this.1 h; omega
    clear hRR hm
    go_wp2_with fail
    have hbw : Below w6.heap.size w6 ((w6.alloc (.cells #[.bool n5, .slice p5 l5 c5] 26)).alloc (.cells #[.bool n6, .slice p6 l6 c6] 26)) := ((Below.refl _ _).alloc (Nat.le_refl _) _).alloc (by simp) _
    have HQ2 := Lib.hid (HQ.out.below hbw (Nat.le_refl _))
    have HR2 := Lib.hid (HR.out.below hbw (Nat.le_refl _))
    have HBv := Lib.hid (HB8.out.trans (hbw.mono hw6))
    have h0 : ((w6.alloc (.cells #[.bool n5, .slice p5 l5 c5] 26)).alloc (.cells #[.bool n6, .slice p6 l6 c6] 26)).cell? ⟨w6.heap.size, 0, none⟩ = some (.bool n5) := by simp [go_sem]
    have h1 : ((w6.alloc (.cells #[.bool n5, .slice p5 l5 c5] 26)).alloc (.cells #[.bool n6, .slice p6 l6 c6] 26)).cell? ⟨w6.heap.size, 1, none⟩ = some (.slice p5 l5 c5) := by simp [go_sem]
    have k0 : ((w6.alloc (.cells #[.bool n5, .slice p5 l5 c5] 26)).alloc (.cells #[.bool n6, .slice p6 l6 c6] 26)).cell? ⟨w6.heap.size + 1, 0, none⟩ = some (.bool n6) := by simp [go_sem]
    have k1 : ((w6.alloc (.cells #[.bool n5, .slice p5 l5 c5] 26)).alloc (.cells #[.bool n6, .slice p6 l6 c6] 26)).cell? ⟨w6.heap.size + 1, 1, none⟩ = some (.slice p6 l6 c6) := by simp [go_sem]
    have hzv : w6.heap.size + 1 < ((w6.alloc (.cells #[.bool n5, .slice p5 l5 c5] 26)).alloc (.cells #[.bool n6, .slice p6 l6 c6] 26)).heap.size := by simp
    generalize ((w6.alloc (.cells #[.bool n5, .slice p5 l5 c5] 26)).alloc (.cells #[.bool n6, .slice p6 l6 c6] 26)) = wb at *
    clear HQ HR HB8 hbw
    generalize w6.heap.size = u at *
    refine (fits_any _ _ _ _ _ _ HQ2.out).mono ?_; rintro e w7 ⟨rfl, hb7⟩
    obtain ⟨bc, -⟩ := bcell hb7
    have hu : u < wb.heap.size := by omega
    have h0' : w7.cell? ⟨u, 0, none⟩ = some (.bool n5) := by rw [bc _ _ hu]; exact h0
    have h1' : w7.cell? ⟨u, 1, none⟩ = some (.slice p5 l5 c5) := by rw [bc _ _ hu]; exact h1
    have k0' : w7.cell? ⟨u + 1, 0, none⟩ = some (.bool n6) := by rw [bc _ _ hzv]; exact k0
    have k1' : w7.cell? ⟨u + 1, 1, none⟩ = some (.slice p6 l6 c6) := by rw [bc _ _ hzv]; exact k1
    have HQ3 := Lib.hid (HQ2.out.below hb7 (Nat.le_refl _))
    have HR3 := Lib.hid (HR2.out.below hb7 (Nat.le_refl _))
    have hb8 := HBv.out.trans (hb7.mono HBv.out.size)
    have hz7 : wb.heap.size ≤ w7.heap.size := hb7.size
    have hw7 : w.heap.size ≤ w7.heap.size := hb8.size
    have HB9 := Lib.hid hb8
    have q1 : u < w7.heap.size := by omega
    have q2 : u + 1 < w7.heap.size := by omega
    clear bc hb7 hb8 HBv HQ2 HR2 h0 h1 k0 k1 hzv hu hz7
    rw [HF.out]
    have hbA : Below w7.heap.size w7 w7 := Below.refl _ _
    go_wp2_with fail
    refine (int_any _ _ _ _ _ _ (HQ3.out.below hbA (Nat.le_refl _)) hq.1 hq.2).mono ?_; rintro e w9 ⟨rfl, hb9⟩
    replace hbA := hbA.trans (hb9.mono hbA.size)
    obtain ⟨bc8, bf8⟩ := bcell hbA
    clear hb9
    go_wp2_with fail
    refine (int_any _ _ _ _ _ _ (HR3.out.below hbA (Nat.le_refl _)) hm1 hm2).mono ?_; rintro e w10 ⟨rfl, hb10⟩
    replace hbA := hbA.trans (hb10.mono hbA.size)
    clear hb10 bc8 bf8
    go_wp2_with fail
    refine (awake_any _).mono ?_; rintro e w11 ⟨rfl, hb11⟩
    replace hbA := hbA.trans (hb11.mono hbA.size)
    clear hb11
    go_wp2_with fail
    go_ret
    exact ⟨rfl, HB9.out.trans (hbA.mono hw7)⟩
end Go.Proofs.Ytflhmbbkmpdogaa
