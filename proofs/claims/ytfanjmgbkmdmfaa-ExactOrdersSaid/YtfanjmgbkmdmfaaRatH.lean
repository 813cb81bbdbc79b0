/- Contracts of package bushelref04's size and Mean and of package ratio's Mean. No conditions but the types' own. -/
import Derived.Test.YtfanjmgbkmdmfaaRatG
namespace Go.Proofs.Ytfanjmgbkmdmfaa
open Go.RowKit Ieee

theorem NumC.abs {w : World} {neg : Bool} {a : Option Addr} {n c : Nat} {z : Int} (h : NumC w neg a n c z) : NumC w false a n c ((z.natAbs : Nat) : Int) := by
  obtain ⟨xs, h1, h2, h3, h4, h5⟩ := h
  refine ⟨xs, h1, h2, h3, ?_, fun h => by cases h⟩
  have h6 := (V_bd (B := 1000) (by decide) h2).1
  cases neg <;> simp at h4 <;> simp <;> omega
theorem pow64 {k : Nat} (h : k ≤ 18446744073709551615) : k < 2 ^ 64 := by omega
theorem wf_i64r {n : Int} (h : (Lit.int .i64 n).wf = true) : -9223372036854775808 ≤ n ∧ n ≤ 9223372036854775807 := by
  simpa [Lit.wf, IntKind.min, IntKind.max, IntKind.bits, IntKind.signed] using h

set_option maxHeartbeats 2000000 in
theorem rsize_any (x : Int) (w : World) (h0 : -9223372036854775808 ≤ x) (h1 : x ≤ 9223372036854775807) :
    Calls Try.prog 64 #[.int .i64 x] w (RetNum w ((x.natAbs : Nat) : Int)) := by
  have HO := Lib.hid (fun w => of_any x w h0 h1)
  go_enter Try.func64, Try.ntmps64
  go_wp2_with fail
  refine (HO.out _).mono ?_; rintro e w1 ⟨n1, a1, l1, c1, rfl, hN1, hb1, hf1⟩
  have HN1 := Lib.hid hN1
  obtain ⟨bc1, bf1⟩ := bcell hb1
  have HB1 := Lib.hid (((Below.refl _ _).alloc (Nat.le_refl _) (.cells #[.bool false, .slice none 0 0] 30)).trans (hb1.mono (by simp)))
  have hz := hb1.size
  simp only [World.size_alloc] at hz
  have hf := hf1.mono (show w.heap.size ≤ (w.alloc (.cells #[.bool false, .slice none 0 0] 30)).heap.size by simp)
  have HF := Lib.hid hf
  have hne : w.heap.size ≠ w1.heap.size := by omega
  have hlt : w.heap.size < w1.heap.size := by omega
  clear hN1 hf1 hf
  go_wp2_with fail
  have hk := (Blk.new w 30 #[.bool false, .slice none 0 0]).below hb1 (by simp)
  have hk2 := ((hk.set_ 0 (.bool false)).set_ 1 (.slice a1 l1 c1)).alloc (.cells #[.bool n1, .slice a1 l1 c1] 30)
  have c0 := hk2.cell 0
  have c1' := hk2.cell 1
  refine bodyPost_ret (v := .agg #[.bool false, .slice a1 l1 c1]) ?_ ?_ ?_
  rotate_left 1
  · rfl
  rotate_left 1
  · simp [results, Try.results64, go_sem, c0, c1']
  · exact ⟨false, a1, l1, c1, rfl, (NumC.set2 HN1.out.abs (hk.cell 0) (hk.cell 1) _ _ _ _).below ((Below.refl _ _).alloc (Nat.le_refl _) _) (Nat.le_refl _), (((HB1.out.setCell (by simp) _).setCell (by simp) _).alloc (by simpa using HB1.out.size) _), HF.out⟩

def IsMean (s n : Int) (z : Nat) : Prop := (s = 0 ∧ n ≠ 0 ∧ z = 0) ∨ (¬ (s = 0 ∧ n ≠ 0) ∧ IsQuot (decide (s < 0) != decide (n < 0)) s.natAbs n.natAbs z)
theorem IsMean.one {s n : Int} {z y : Nat} (h : IsMean s n z) (k : IsMean s n y) : keyN z = keyN y := by
  rcases h with ⟨h1, h2, h3⟩ | ⟨h1, h2⟩ <;> rcases k with ⟨k1, k2, k3⟩ | ⟨k1, k2⟩
  · rw [h3, k3]
  · exact absurd ⟨h1, h2⟩ k1
  · exact absurd ⟨k1, k2⟩ h1
  · exact h2.one k2
theorem IsMean.lt {s n : Int} {z : Nat} (h : IsMean s n z) : z < 18446744073709551616 := by
  rcases h with ⟨h1, h2, h3⟩ | ⟨h1, h2⟩
  · omega
  · exact h2.1
def RMean (s n : Int) (w : World) (e : Ending) (w' : World) : Prop := ∃ z, e = .returned (.float .f64 z) ∧ IsMean s n z ∧ Below w.heap.size w w'

set_option maxHeartbeats 2000000 in
theorem rmean_any (s n : Int) (w : World) (h0 : -9223372036854775808 ≤ s) (h1 : s ≤ 9223372036854775807) (h2 : -9223372036854775808 ≤ n) (h3 : n ≤ 9223372036854775807) :
    Calls Try.prog 18 #[.int .i64 s, .int .i64 n] w (RMean s n w) := by
  by_cases hz : s = 0 ∧ n ≠ 0
  · have HZ := Lib.hid hz
    have t1 : (s == 0) = true := by simpa using hz.1
    have t2 : (n != 0) = true := by simpa using hz.2
    clear hz
    go_enter Try.func18, Try.ntmps18
    go_wp2_with fail
    go_ret
    exact ⟨0, rfl, .inl ⟨HZ.out.1, HZ.out.2, rfl⟩, Below.refl _ _⟩
  · have HZ := Lib.hid hz
    have hs := Lib.hid (fun w => rsize_any s w h0 h1)
    have hn := Lib.hid (fun w => rsize_any n w h2 h3)
    have HPS : Hid (s.natAbs < 2 ^ 64 ∧ n.natAbs < 2 ^ 64) := Lib.hid ⟨pow64 (by omega), pow64 (by omega)⟩
    have ht : ((s == 0) = true ∧ (n != 0) = false) ∨ (s == 0) = false := by
      by_cases h : s = 0
      · left; exact ⟨by simpa using h, by simp; omega⟩
      · right; simpa using h
    obtain ⟨ng, hng⟩ : ∃ ng, (decide (s < 0) != decide (n < 0)) = ng := ⟨_, rfl⟩
    have HNG := Lib.hid hng
    clear hz
    rcases ht with ⟨t1, t2⟩ | t1
    all_goals
      clear hng
      go_enter Try.func18, Try.ntmps18
      go_wp2_with fail
      refine (hs.out _).mono ?_; rintro e w1 ⟨n1, a1, l1, c1, rfl, hN1, hb1, hf1⟩
      have HN1 := Lib.hid hN1
      have HB1 := Lib.hid hb1
      clear hN1 hb1 hf1
      go_wp2_with fail
      refine (hn.out _).mono ?_; rintro e w2 ⟨n2, a2, l2, c2, rfl, hN2, hb2, hf2⟩
      have HB2 := Lib.hid (HB1.out.trans (hb2.mono HB1.out.size))
      have HQ := Lib.hid (rquot_any (decide (s < 0) != decide (n < 0)) n1 n2 a1 a2 l1 c1 l2 c2 s.natAbs n.natAbs 64 w2 (HN1.out.below hb2 (Nat.le_refl _)) hN2 HPS.out.1 HPS.out.2 (by omega))
      clear hN2 hb2 hf2
      go_wp2_with fail
      refine HQ.out.mono ?_; rintro e w3 ⟨z, rfl, hq, hb3⟩
      have HB3 := Lib.hid (HB2.out.trans (hb3.mono HB2.out.size))
      have HQ3 := Lib.hid hq
      clear hq hb3
      go_wp2_with fail
      go_ret
      exact ⟨z, rfl, .inr ⟨HZ.out, HQ3.out⟩, HB3.out⟩

theorem fabs_any (a : Int) (w : World) (h1 : -9223372036854775808 ≤ a) (h2 : a ≤ 9223372036854775807) :
    Calls Try.prog 62 #[.int .i64 a] w fun e w' => e = .returned (.int .u64 (a.natAbs : Int)) ∧ w = w' := by
  go_enter Try.func62, Try.ntmps62
  go_wp2
  all_goals go_ret
  all_goals exact ⟨ret_int (by omega), rfl⟩

set_option maxHeartbeats 2000000 in
theorem fmean_any (s n : Int) (w : World) (h0 : -9223372036854775808 ≤ s) (h1 : s ≤ 9223372036854775807) (h2 : -9223372036854775808 ≤ n) (h3 : n ≤ 9223372036854775807) :
    Calls Try.prog 17 #[.int .i64 s, .int .i64 n] w (RMean s n w) := by
  by_cases hz : s = 0 ∧ n ≠ 0
  · have HZ := Lib.hid hz
    have t1 : (s == 0) = true := by simpa using hz.1
    have t2 : (n != 0) = true := by simpa using hz.2
    clear hz
    go_enter Try.func17, Try.ntmps17
    go_wp2_with fail
    go_ret
    exact ⟨0, rfl, .inl ⟨HZ.out.1, HZ.out.2, rfl⟩, Below.refl _ _⟩
  · have HZ := Lib.hid hz
    have asx := Lib.hid (fun w => fabs_any s w h0 h1)
    have an := Lib.hid (fun w => fabs_any n w h2 h3)
    have os := Lib.hid (fun w => nof_any (s.natAbs : Int) w (by omega) (by omega))
    have on := Lib.hid (fun w => nof_any (n.natAbs : Int) w (by omega) (by omega))
    have HPS : Hid (s.natAbs < 2 ^ 64 ∧ n.natAbs < 2 ^ 64) := Lib.hid ⟨pow64 (by omega), pow64 (by omega)⟩
    have ht : ((s == 0) = true ∧ (n != 0) = false) ∨ (s == 0) = false := by
      by_cases h : s = 0
      · left; exact ⟨by simpa using h, by simp; omega⟩
      · right; simpa using h
    clear hz
    rcases ht with ⟨t1, t2⟩ | t1
    all_goals
      go_enter Try.func17, Try.ntmps17
      go_wp2_with fail
      refine (asx.out _).mono ?_; rintro e w1 ⟨rfl, rfl⟩
      go_wp2_with fail
      refine (os.out _).mono ?_; rintro e w1 ⟨a1, l1, c1, rfl, hN1, hb1, hf1⟩
      have HN1 := Lib.hid hN1
      have HB1 := Lib.hid hb1
      clear hN1 hb1 hf1
      go_wp2_with fail
      refine (an.out _).mono ?_; rintro e w9 ⟨rfl, rfl⟩
      go_wp2_with fail
      refine (on.out _).mono ?_; rintro e w2 ⟨a2, l2, c2, rfl, hN2, hb2, hf2⟩
      have HB2 := Lib.hid (HB1.out.trans (hb2.mono HB1.out.size))
      have hN1 := HN1.out.below hb2 (Nat.le_refl _)
      have k1 := hN1.short HPS.out.1
      have k2 := hN2.short HPS.out.2
      obtain ⟨xs, x1, x2, x3⟩ := hN1.row
      obtain ⟨ys, y1, y2, y3⟩ := hN2.row
      have HQ := Lib.hid (fquot_any (decide (s < 0) != decide (n < 0)) a1 a2 l1 c1 l2 c2 s.natAbs n.natAbs 64 xs ys w2 x1 y1 x2 y2 x3 y3 (by omega) (by omega) HPS.out.1 HPS.out.2 (by omega))
      clear hN1 hN2 hb2 hf2 x1 x2 x3 y1 y2 y3 k1 k2
      go_wp2_with fail
      refine HQ.out.mono ?_; rintro e w3 ⟨z, rfl, hq, hb3⟩
      have HB3 := Lib.hid (HB2.out.trans (hb3.mono HB2.out.size))
      have HQ3 := Lib.hid hq
      clear hq hb3
      go_wp2_with fail
      go_ret
      exact ⟨z, rfl, .inr ⟨HZ.out, HQ3.out⟩, HB3.out⟩
end Go.Proofs.Ytfanjmgbkmdmfaa
