/- Contracts of package whole's pair and Sum. Conditions: numbers of 64 bits; a list of at most 2^40 elements. -/
import Derived.Test.YtflhmbbkmpdogaaWholeInt
import Derived.Deep.RegionHeld3
namespace Go.Proofs.Ytflhmbbkmpdogaa
open Go.RowKit

/-- a pair's number -/
def pairV (hi lo : Int) : Int := hi * 18446744073709551616 + lo
def RetPair (w : World) (z : Int) (e : Ending) (w' : World) : Prop :=
  ∃ hi lo : Int, e = .returned (.agg #[.int .u64 hi, .int .u64 lo]) ∧ pairV hi lo = z ∧ 0 ≤ hi ∧ hi ≤ 18446744073709551615 ∧ 0 ≤ lo ∧ lo ≤ 18446744073709551615 ∧ Below w.heap.size w w'

theorem plus_any (hi lo x : Int) (w : World) (h1 : 0 ≤ hi) (h2 : hi ≤ 9223372036854775807) (h3 : 0 ≤ lo) (h4 : lo ≤ 18446744073709551615) (h5 : 0 ≤ x) (h6 : x ≤ 18446744073709551615) :
    Calls Try.prog 36 #[.agg #[.int .u64 hi, .int .u64 lo], .int .u64 x] w (RetPair w (pairV hi lo + x)) := by
  by_cases hc : lo + x ≤ 18446744073709551615
  · go_enter Try.func36, Try.ntmps36
    go_wp2_with fail
    refine bodyPost_ret (v := .agg #[.int .u64 hi, .int .u64 (lo + x)]) (by simp [results, Try.results36, go_sem]) rfl ⟨_, _, rfl, by unfold pairV; omega, by omega, by omega, by omega, by omega, ?_⟩
    exact ((Below.refl _ _).alloc (Nat.le_refl _) _).alloc (by simp) _
  · have e1 : IntKind.u64.wrap (lo + x) = lo + x - 18446744073709551616 := by rw [IntKind.wrap_u64]; omega
    go_enter Try.func36, Try.ntmps36
    go_wp2_with fail
    refine bodyPost_ret (v := .agg #[.int .u64 (hi + 1), .int .u64 (lo + x - 18446744073709551616)]) (by simp [results, Try.results36, go_sem]) rfl ⟨_, _, rfl, by unfold pairV; omega, by omega, by omega, by omega, by omega, ?_⟩
    exact ((Below.refl _ _).alloc (Nat.le_refl _) _).alloc (by simp) _

theorem less_pair (a b c d : Int) (w : World) (h1 : 0 ≤ b) (h2 : b ≤ 18446744073709551615) (h3 : 0 ≤ d) (h4 : d ≤ 18446744073709551615) :
    Calls Try.prog 37 #[.agg #[.int .u64 a, .int .u64 b], .agg #[.int .u64 c, .int .u64 d]] w fun e w' => e = .returned (.bool (decide (pairV a b < pairV c d))) ∧ Below w.heap.size w w' := by
  by_cases hac : a = c
  · subst hac
    have e : decide (pairV a b < pairV a d) = decide (b < d) := by unfold pairV; congr 1; simp only [eq_iff_iff]; omega
    rw [e]
    clear e
    go_enter Try.func37, Try.ntmps37
    go_wp2_with fail
    go_ret
    exact ⟨rfl, (((Below.refl _ _).alloc (Nat.le_refl _) _).alloc (by simp) _)⟩
  · have hne : (a != c) = true := by simpa using hac
    have e : decide (pairV a b < pairV c d) = decide (a < c) := by unfold pairV; congr 1; simp only [eq_iff_iff]; omega
    rw [e]
    clear e hac
    go_enter Try.func37, Try.ntmps37
    go_wp2_with fail
    go_ret
    exact ⟨rfl, (((Below.refl _ _).alloc (Nat.le_refl _) _).alloc (by simp) _)⟩

theorem minus_any (a b c d : Int) (w : World) (h1 : 0 ≤ b) (h2 : b ≤ 18446744073709551615) (h3 : 0 ≤ d) (h4 : d ≤ 18446744073709551615) (ha : 0 ≤ a) (ha2 : a ≤ 18446744073709551615) (hc : 0 ≤ c) (hle : pairV c d ≤ pairV a b) :
    Calls Try.prog 38 #[.agg #[.int .u64 a, .int .u64 b], .agg #[.int .u64 c, .int .u64 d]] w (RetPair w (pairV a b - pairV c d)) := by
  unfold pairV at hle
  by_cases hbd : b < d
  · have e1 : IntKind.u64.wrap (b - d) = b - d + 18446744073709551616 := by rw [IntKind.wrap_u64]; omega
    go_enter Try.func38, Try.ntmps38
    go_wp2_with fail
    refine bodyPost_ret (v := .agg #[.int .u64 (a - c - 1), .int .u64 (b - d + 18446744073709551616)]) (by simp [results, Try.results38, go_sem]) rfl ⟨_, _, rfl, by unfold pairV; omega, by omega, by omega, by omega, by omega, ?_⟩
    exact (((Below.refl _ _).alloc (Nat.le_refl _) _).alloc (by simp) _).alloc (by simp; omega) _
  · go_enter Try.func38, Try.ntmps38
    go_wp2_with fail
    refine bodyPost_ret (v := .agg #[.int .u64 (a - c), .int .u64 (b - d)]) (by simp [results, Try.results38, go_sem]) rfl ⟨_, _, rfl, by unfold pairV; omega, by omega, by omega, by omega, by omega, ?_⟩
    exact (((Below.refl _ _).alloc (Nat.le_refl _) _).alloc (by simp) _).alloc (by simp; omega) _

/-- f 0 + .. + f (n - 1) -/
def sm (f : Nat → Int) : Nat → Int
  | 0 => 0
  | n + 1 => sm f n + f n

/-- what the two boxes of Sum hold after i numbers -/
def SumAt (w wr : World) (hu lu hd ld : Int) : Prop :=
  wr.cell? ⟨w.heap.size, 0, none⟩ = some (.int .u64 hu) ∧ wr.cell? ⟨w.heap.size, 1, none⟩ = some (.int .u64 lu) ∧ wr.cell? ⟨w.heap.size + 1, 0, none⟩ = some (.int .u64 hd) ∧ wr.cell? ⟨w.heap.size + 1, 1, none⟩ = some (.int .u64 ld) ∧
  (∀ o, wr.frozen? ⟨w.heap.size, o, none⟩ = false) ∧ (∀ o, wr.frozen? ⟨w.heap.size + 1, o, none⟩ = false)

set_option maxHeartbeats 1000000 in
theorem sum_ints (a : Option Addr) (n cap : Nat) (xs : List Int) (w : World) (h : RowK .i64 w a n cap xs) (hr : ∀ i, i < n → -9223372036854775808 ≤ xs.getD i 0 ∧ xs.getD i 0 ≤ 9223372036854775807) (hn : n ≤ 1099511627776) :
    Calls Try.prog 11 #[.slice a n cap] w fun e w' => e = .returned (.tuple #[.int .i64 (clip (sm (fun i => xs.getD i 0) n)), .bool (fits (sm (fun i => xs.getD i 0) n))]) ∧ Below w.heap.size w w' := by
  have H := Lib.hid h
  have HR := Lib.hid hr
  obtain ⟨z, hz⟩ : ∃ z, sm (fun i => xs.getD i 0) n = z := ⟨_, rfl⟩
  have HZ := Lib.hid hz
  rw [hz]
  clear h hr hz
  have q0 : w.heap.size < w.heap.size + 1 + 1 := by omega
  go_enter Try.func11, Try.ntmps11
  go_wp2_with fail
  go_loopg [12] n (fun k u wr => ∃ (i : Nat) (hu lu hd ld : Int), u = .int .i64 i ∧ i + k = n ∧ SumAt w wr hu lu hd ld ∧ 0 ≤ hu ∧ hu ≤ i ∧ 0 ≤ hd ∧ hd ≤ i ∧ 0 ≤ lu ∧ lu ≤ 18446744073709551615 ∧ 0 ≤ ld ∧ ld ≤ 18446744073709551615 ∧
    pairV hu lu - pairV hd ld = sm (fun i => xs.getD i 0) i ∧ Below w.heap.size w wr ∧ w.heap.size + 1 + 1 ≤ wr.heap.size)
  case atStart => exact ⟨0, 0, 0, 0, 0, rfl, by omega, ⟨by simp [go_sem], by simp [go_sem], by simp [go_sem], by simp [go_sem], fun o => by simp [go_sem], fun o => by simp [go_sem]⟩, by omega, by omega, by omega, by omega, by omega, by omega, by omega, by omega, rfl, ((Below.refl _ _).alloc (Nat.le_refl _) _).alloc (by simp) _, by simp⟩
  case round =>
    obtain ⟨i, hu, lu, hd, ld, rfl, hk, ⟨c1, c2, c3, c4, f1, f2⟩, b1, b2, b3, b4, b5, b6, b7, b8, hv, hbel, hsz⟩ := hrel
    have HK := Lib.hid hk
    have HV := Lib.hid hv
    have HBE := Lib.hid hbel
    clear hk hv hbel
    by_cases hi : i < n
    · obtain ⟨-, -, -, ha4⟩ := H.out
      rcases ha4 with hcap0 | ⟨ba, oa, rfl, hba, hca⟩
      · have := H.out.2.1; omega
      obtain ⟨x, hx⟩ : ∃ d, xs.getD i 0 = d := ⟨_, rfl⟩
      have HX := Lib.hid hx
      have hxr := HR.out i hi
      have hca1 : wr.cell? ⟨ba, oa + i, none⟩ = some (.int .i64 x) := by rw [HBE.out.cell (p := ⟨ba, oa + i, none⟩) hba, ← hx]; exact hca i hi
      rw [hx] at hxr
      clear hca hx
      by_cases hx0 : x < 0
      · go_wp2_with fail
        go_region_with (first
          | (go_at_call 14; refine (whole_abs x _ (by omega) (by omega)).mono ?_; rintro e w' ⟨rfl, rfl⟩)
          | (go_at_call 36; refine (plus_any _ _ _ _ (by omega) (by omega) (by omega) (by omega) (by omega) (by omega)).mono ?_; rintro e w2 ⟨h2, l2, rfl, hp2, g1, g2, g3, g4, hb2⟩; have HP2 := Lib.hid hp2; clear hp2; obtain ⟨bc2, bf2⟩ := bcell (hb2.mono hsz)))
        all_goals
          go_wp2_with fail
          go_roundg (gk - 1)
          case measure => have := HK.out; omega
          case rel =>
            have hp := HP2.out
            have hk := HK.out
            have hv := HV.out
            have hsv : sm (fun i => xs.getD i 0) (i + 1) = sm (fun i => xs.getD i 0) i + x := by rw [← HX.out]; rfl
            have hz2 := hb2.size
            have d1 : w2.cell? ⟨w.heap.size, 0, none⟩ = some (.int .u64 hu) := by rw [bc2 _ _ q0]; exact c1
            have d2 : w2.cell? ⟨w.heap.size, 1, none⟩ = some (.int .u64 lu) := by rw [bc2 _ _ q0]; exact c2
            have d3 : w2.cell? ⟨w.heap.size + 1, 0, none⟩ = some (.int .u64 hd) := by rw [bc2 _ _ (by omega)]; exact c3
            have d4 : w2.cell? ⟨w.heap.size + 1, 1, none⟩ = some (.int .u64 ld) := by rw [bc2 _ _ (by omega)]; exact c4
            refine ⟨i + 1, hu, lu, h2, l2, by go_num, by omega, ⟨by simp [go_sem, d1], by simp [go_sem, d2], by simp [go_sem, d3], by simp [go_sem, d4], fun o => by simp [go_sem, bf2, f1], fun o => by simp [go_sem, bf2, f2]⟩, b1, by omega, g1, by unfold pairV at *; omega, b5, b6, g3, g4, ?_, ((HBE.out.drew.trans (hb2.mono (by simp; omega))).setCell (by simp) _).setCell (by simp) _, by simp at hz2 ⊢; omega⟩
            rw [hsv]; omega
      · go_wp2_with fail
        go_region_with (first
          | (go_at_call 14; refine (whole_abs x _ (by omega) (by omega)).mono ?_; rintro e w' ⟨rfl, rfl⟩)
          | (go_at_call 36; refine (plus_any _ _ _ _ (by omega) (by omega) (by omega) (by omega) (by omega) (by omega)).mono ?_; rintro e w2 ⟨h2, l2, rfl, hp2, g1, g2, g3, g4, hb2⟩; have HP2 := Lib.hid hp2; clear hp2; obtain ⟨bc2, bf2⟩ := bcell (hb2.mono hsz)))
        all_goals
          go_wp2_with fail
          go_roundg (gk - 1)
          case measure => have := HK.out; omega
          case rel =>
            have hp := HP2.out
            have hk := HK.out
            have hv := HV.out
            have hsv : sm (fun i => xs.getD i 0) (i + 1) = sm (fun i => xs.getD i 0) i + x := by rw [← HX.out]; rfl
            have hz2 := hb2.size
            have d1 : w2.cell? ⟨w.heap.size, 0, none⟩ = some (.int .u64 hu) := by rw [bc2 _ _ q0]; exact c1
            have d2 : w2.cell? ⟨w.heap.size, 1, none⟩ = some (.int .u64 lu) := by rw [bc2 _ _ q0]; exact c2
            have d3 : w2.cell? ⟨w.heap.size + 1, 0, none⟩ = some (.int .u64 hd) := by rw [bc2 _ _ (by omega)]; exact c3
            have d4 : w2.cell? ⟨w.heap.size + 1, 1, none⟩ = some (.int .u64 ld) := by rw [bc2 _ _ (by omega)]; exact c4
            refine ⟨i + 1, h2, l2, hd, ld, by go_num, by omega, ⟨by simp [go_sem, d1], by simp [go_sem, d2], by simp [go_sem, d3], by simp [go_sem, d4], fun o => by simp [go_sem, bf2, f1], fun o => by simp [go_sem, bf2, f2]⟩, g1, by unfold pairV at *; omega, b3, by omega, g3, g4, b7, b8, ?_, ((HBE.out.drew.trans (hb2.mono (by simp; omega))).setCell (by simp) _).setCell (by simp) _, by simp at hz2 ⊢; omega⟩
            rw [hsv]; omega
    · obtain rfl : i = n := by have := HK.out; omega
      rw [HZ.out] at HV
      have hv := HV.out
      have hdec : decide (pairV hu lu < pairV hd ld) = decide (z < 0) := by congr 1; simp only [eq_iff_iff]; omega
      have hL := Lib.hid (fun w' => less_pair hu lu hd ld w' b5 b6 b7 b8)
      rw [hdec] at hL
      clear hdec
      by_cases hz0 : z < 0
      · have hdz : decide (z < 0) = true := by simpa using hz0
        rw [hdz] at hL
        have hM := Lib.hid (fun w' => minus_any hd ld hu lu w' b7 b8 b5 b6 (by omega) (by omega) (by omega) (by omega))
        have hmv : pairV hd ld - pairV hu lu = -z := by omega
        rw [hmv] at hM
        have HV2 := Lib.hid hv
        clear hv hmv hdz
        go_wp2_with fail
        refine (hL.out _).mono ?_; rintro e w2 ⟨rfl, hb2⟩
        obtain ⟨bc2, bf2⟩ := bcell (hb2.mono hsz)
        go_wp2_with fail
        refine (hM.out _).mono ?_; rintro e w3 ⟨h3, l3, rfl, hp3, g1, g2, g3, g4, hb3⟩
        have HP3 := Lib.hid hp3
        clear hp3
        have hbz : w.heap.size + 1 + 1 ≤ w2.heap.size := Nat.le_trans hsz hb2.size
        have HFB := Lib.hid ((((((HBE.out.trans (hb2.mono (by omega))).setCell (Nat.le_refl _) _).setCell (Nat.le_refl _) _).setCell (by simp) _).setCell (by simp) _).trans (hb3.mono (by simp; omega)))
        by_cases hh : h3 = 0
        · have hh' : (h3 != 0) = false := by simpa using hh
          by_cases hl : l3 = 0
          · have hl' : (l3 == 0) = true := by simpa using hl
            have HH := Lib.hid hh
            have HLL := Lib.hid hl
            clear hh hl
            go_wp2_with fail
            go_ret2
            have hz00 : z = 0 := by have := HP3.out; have := HH.out; have := HLL.out; unfold pairV at *; omega
            exact ⟨ret_ib (by rw [hz00]; rfl) (by rw [hz00]; rfl), HFB.out.alloc (by have := HFB.out.size; omega) _⟩
          · have hl' : (l3 == 0) = false := by simpa using hl
            have HS : Hid ((if true = true then -l3 else l3) = z) := by
              have h : (if true = true then -l3 else l3) = z := by simp; unfold pairV at HP3; have := HP3.out; omega
              exact Lib.hid h
            clear hh hl
            go_wp2_with fail
            refine (whole_signed l3 z true _ HS.out g3 g4 (fun _ => by simp at hl'; omega)).mono ?_; rintro e w4 ⟨rfl, rfl⟩
            go_wp2_with fail
            go_ret2
            exact ⟨rfl, HFB.out.alloc (by have := HFB.out.size; omega) _⟩
        · have hh' : (h3 != 0) = true := by simpa using hh
          have hno : fits z = false := fits_no (by have := HP3.out; unfold pairV at this; omega)
          have HNO := Lib.hid hno
          clear hh hno
          go_wp2_with fail
          go_ret2
          exact ⟨ret_ib (clip_no HNO.out).symm HNO.out.symm, HFB.out.alloc (by have := HFB.out.size; omega) _⟩
      · have hdz : decide (z < 0) = false := by simpa using hz0
        rw [hdz] at hL
        have hM := Lib.hid (fun w' => minus_any hu lu hd ld w' b5 b6 b7 b8 (by omega) (by omega) (by omega) (by omega))
        have hmv : pairV hu lu - pairV hd ld = z := by omega
        rw [hmv] at hM
        have HV2 := Lib.hid hv
        clear hv hmv hdz
        go_wp2_with fail
        refine (hL.out _).mono ?_; rintro e w2 ⟨rfl, hb2⟩
        obtain ⟨bc2, bf2⟩ := bcell (hb2.mono hsz)
        go_wp2_with fail
        refine (hM.out _).mono ?_; rintro e w3 ⟨h3, l3, rfl, hp3, g1, g2, g3, g4, hb3⟩
        have HP3 := Lib.hid hp3
        clear hp3
        have hbz : w.heap.size + 1 + 1 ≤ w2.heap.size := Nat.le_trans hsz hb2.size
        have HFB := Lib.hid ((HBE.out.trans (hb2.mono (by omega))).trans (hb3.mono (by omega)))
        by_cases hh : h3 = 0
        · have hh' : (h3 != 0) = false := by simpa using hh
          by_cases hl : l3 = 0
          · have hl' : (l3 == 0) = true := by simpa using hl
            have HH := Lib.hid hh
            have HLL := Lib.hid hl
            clear hh hl
            go_wp2_with fail
            go_ret2
            have hz00 : z = 0 := by have := HP3.out; have := HH.out; have := HLL.out; unfold pairV at *; omega
            exact ⟨ret_ib (by rw [hz00]; rfl) (by rw [hz00]; rfl), HFB.out.alloc (by have := HFB.out.size; omega) _⟩
          · have hl' : (l3 == 0) = false := by simpa using hl
            have HS : Hid ((if false = true then -l3 else l3) = z) := by
              have h : (if false = true then -l3 else l3) = z := by simp; unfold pairV at HP3; have := HP3.out; omega
              exact Lib.hid h
            clear hh hl
            go_wp2_with fail
            refine (whole_signed l3 z false _ HS.out g3 g4 (fun _ => by simp at hl'; omega)).mono ?_; rintro e w4 ⟨rfl, rfl⟩
            go_wp2_with fail
            go_ret2
            exact ⟨rfl, HFB.out.alloc (by have := HFB.out.size; omega) _⟩
        · have hh' : (h3 != 0) = true := by simpa using hh
          have hno : fits z = false := fits_no (by have := HP3.out; unfold pairV at this; omega)
          have HNO := Lib.hid hno
          clear hh hno
          go_wp2_with fail
          go_ret2
          exact ⟨ret_ib (clip_no HNO.out).symm HNO.out.symm, HFB.out.alloc (by have := HFB.out.size; omega) _⟩
end Go.Proofs.Ytflhmbbkmpdogaa
