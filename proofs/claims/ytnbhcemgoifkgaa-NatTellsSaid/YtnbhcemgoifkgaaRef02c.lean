/- Contracts of package bushelref01's Two and of package bushelref02's Bits. Conditions: below 2^900000. -/
import Derived.Test.YtnbhcemgoifkgaaRef01h
import Derived.Test.YtnbhcemgoifkgaaRef02b
import Derived.Test.YtnbhcemgoifkgaaNatL
namespace Go.Proofs.Ytnbhcemgoifkgaa
open Go.RowKit

theorem fit_two {n : Nat} (h : n ≤ 900000) : Fit ((2 : Int) ^ n) := by
  refine Fit.of_pow2 (k := n + 1) ?_ (by omega)
  have e : ((2 : Int) ^ n).natAbs = 2 ^ n := by rw [Int.natAbs_pow]; rfl
  rw [e]
  exact Nat.pow_lt_pow_right (by decide) (by omega)

theorem two_bx (w : World) (t : TypeId) (c1 c2 : Array Value) : Blk ((w.alloc (.cells c1 t)).alloc (.cells c2 t)) w.heap.size t c1 ∧ Blk ((w.alloc (.cells c1 t)).alloc (.cells c2 t)) (w.heap.size + 1) t c2 ∧
    Below w.heap.size w ((w.alloc (.cells c1 t)).alloc (.cells c2 t)) ∧ ((w.alloc (.cells c1 t)).alloc (.cells c2 t)).heap.size = w.heap.size + 1 + 1 := by
  refine ⟨(Blk.new _ _ _).alloc _, ?_, ((Below.refl _ _).alloc (Nat.le_refl _) _).alloc (by simp) _, by simp⟩
  have h := Blk.new (w.alloc (.cells c1 t)) t c2
  simpa using h
theorem one_box (w : World) (t : TypeId) (c1 : Array Value) : Blk (w.alloc (.cells c1 t)) w.heap.size t c1 ∧ Below w.heap.size w (w.alloc (.cells c1 t)) :=
  ⟨Blk.new _ _ _, (Below.refl _ _).alloc (Nat.le_refl _) _⟩
theorem cmpZ_le {x y : Int} (h : x ≤ y) : cmpZ x y ≤ 0 := by
  unfold cmpZ; split
  · omega
  · split <;> omega

set_option maxHeartbeats 1000000 in
theorem two_any (n : Nat) (w : World) (hn : n ≤ 900000) : Calls Try.prog 36 #[.int .i64 n] w (RetNum w (2 ^ n)) := by
  have q0 : w.heap.size < w.heap.size + 1 := by omega
  go_enter Try.func36, Try.ntmps36
  go_wp2_with fail
  refine (nat_any 2 _ (by omega) (by omega)).mono ?_; rintro e w1 ⟨n1, a1, l1, c1, rfl, hN1, hb1, hf1⟩
  have HN1 := Lib.hid hN1
  clear hN1
  go_wp2_with fail
  refine (power_any n _ _ _ _ 2 _ HN1.out (fun m hm => fit_two (by omega)) (by omega)).mono ?_; rintro e w2 ⟨n2, a2, l2, c2, rfl, hN2, hb2, hf2⟩
  have hb3 := hb1.trans (hb2.mono hb1.size)
  obtain ⟨bc2, bf2⟩ := bcell hb3
  have HN2 := Lib.hid hN2
  clear hN2
  go_wp2_with fail
  have hz := hb1.size
  simp only [World.size_alloc] at hz
  exact bodyPost_ret (v := .agg #[.bool n2, .slice a2 l2 c2]) (by simp [results, Try.results36, go_sem, bc2]) rfl
    (RetNum.stored HN2.out (by omega) (((Below.refl _ _).alloc (Nat.le_refl _) _).trans (hb3.mono (by simp))) (by simp [go_sem, bc2]) (by simp [go_sem, bc2]) (hf2.mono (by omega)))

set_option maxHeartbeats 1000000 in
theorem rbits_any (wn : Bool) (wa : Option Addr) (wl wc K : Nat) (z : Int) (w : World) (h : NumC w wn wa wl wc z) (h0 : 0 ≤ z) (hz : z < 2 ^ K) (hK : K ≤ 800000) :
    Calls Try.prog 43 #[.agg #[.bool wn, .slice wa wl wc]] w fun e w' => ∃ b : Nat, e = .returned (.int .i64 b) ∧ IsBits z b ∧ Below w.heap.size w w' := by
  have H := Lib.hid h
  have HZ := Lib.hid hz
  clear h hz
  go_enter Try.func43, Try.ntmps43
  go_wp2_with fail
  refine (nat_any 1 _ (by omega) (by omega)).mono ?_; rintro e w1 ⟨n1, a1, l1, c1, rfl, hN1, hb1, hf1⟩
  have HP0 := Lib.hid ((Blk.new w 27 #[.bool wn, .slice wa wl wc]).below hb1 (by simp))
  have HBL := Lib.hid (((Below.refl _ _).alloc (Nat.le_refl _) (.cells #[.bool wn, .slice wa wl wc] 27)).trans (hb1.mono (by simp)))
  have HN1 := Lib.hid hN1
  clear hN1 hb1 hf1
  go_wp2_with fail
  have HK := Lib.hid (one_box w1 27 #[.bool n1, .slice a1 l1 c1])
  go_loopg [3] (K + 1) (fun k u wr => ∃ (i : Nat) (np : Bool) (pp : Option Addr) (lp cp : Nat), u = .int .i64 i ∧ i + k = K + 1 ∧ Blk wr w.heap.size 27 #[.bool wn, .slice wa wl wc] ∧ Blk wr w1.heap.size 27 #[.bool np, .slice pp lp cp] ∧ NumC wr np pp lp cp (2 ^ i) ∧ (i = 0 ∨ 2 ^ (i - 1) ≤ z) ∧ Below w.heap.size w wr)
  case atStart => exact ⟨0, n1, a1, l1, c1, rfl, by omega, HP0.out.alloc _, HK.out.1, HN1.out.below HK.out.2 (Nat.le_refl _), .inl rfl, HBL.out.trans (HK.out.2.mono HBL.out.size)⟩
  case round =>
    obtain ⟨i, np, pp, lp, cp, rfl, hk, hk0, hk1, hP, hi, hbl⟩ := hrel
    have x0 : wr.cell? ⟨w.heap.size, 0, none⟩ = some (.bool wn) := hk0.cell 0
    have x1 : wr.cell? ⟨w.heap.size, 1, none⟩ = some (.slice wa wl wc) := hk0.cell 1
    have y0 : wr.cell? ⟨w1.heap.size, 0, none⟩ = some (.bool np) := hk1.cell 0
    have y1 : wr.cell? ⟨w1.heap.size, 1, none⟩ = some (.slice pp lp cp) := hk1.cell 1
    have hs0 := hk0.lt
    have hs1 := hk1.lt
    have hs2 := HBL.out.size
    have hne : w.heap.size ≠ w1.heap.size := by have := HP0.out.lt; omega
    have HK0 := Lib.hid hk0
    have HK1 := Lib.hid hk1
    have HPP := Lib.hid hP
    have HI := Lib.hid hi
    have HBB := Lib.hid hbl
    have HKK := Lib.hid hk
    have HZW := Lib.hid (H.out.below hbl (Nat.le_refl _))
    clear hk0 hk1 hP hi hbl hk
    by_cases hle : (2 : Int) ^ i ≤ z
    · have hr : ∃ r, cmpZ (2 ^ i) z = r ∧ r ≤ 0 := ⟨_, rfl, cmpZ_le hle⟩
      obtain ⟨r, hr0, hr1⟩ := hr
      have HR := Lib.hid hr0
      have hiK : i < K := by
        rcases Nat.lt_or_ge i K with h | h
        · exact h
        · have := ipow_le (B := 2) (by decide) h
          have := HZ.out
          omega
      have HLE := Lib.hid hle
      have HF := Lib.hid (fit_two (n := i) (by omega))
      have HE : Hid ((2 : Int) ^ i + 2 ^ i = 2 ^ (i + 1)) := Lib.hid (by rw [Int.pow_succ]; omega)
      clear hr0 hle
      go_wp2_with fail
      refine (cmp_at _ _ _ _ _ _ _ _ (2 ^ i) z r _ HR.out HPP.out HZW.out).mono ?_; rintro e w2 ⟨rfl, hb2⟩
      have HB2 := Lib.hid (HBB.out.trans (hb2.mono HBB.out.size))
      have HP2 := Lib.hid (HPP.out.below hb2 (Nat.le_refl _))
      have HK02 := Lib.hid (HK0.out.below hb2 HK0.out.lt)
      have HK12 := Lib.hid (HK1.out.below hb2 HK1.out.lt)
      have z0 : w2.cell? ⟨w1.heap.size, 0, none⟩ = some (.bool np) := HK12.out.cell 0
      have z1 : w2.cell? ⟨w1.heap.size, 1, none⟩ = some (.slice pp lp cp) := HK12.out.cell 1
      clear hb2 x0 x1 y0 y1
      go_wp2_with fail
      refine (add_any _ _ _ _ _ _ _ _ (2 ^ i) (2 ^ i) _ HP2.out HP2.out HF.out HF.out).mono ?_; rintro e w3 ⟨n3, p3, l3, c3, rfl, hN3, hb3, -⟩
      have HB3 := Lib.hid (HB2.out.trans (hb3.mono HB2.out.size))
      rw [HE.out] at hN3
      have HN3 := Lib.hid hN3
      have HK03 := Lib.hid (HK02.out.below hb3 HK02.out.lt)
      have HK13 := Lib.hid (HK12.out.below hb3 HK12.out.lt)
      clear z0 z1
      have z0 : w3.cell? ⟨w1.heap.size, 0, none⟩ = some (.bool np) := HK13.out.cell 0
      have z1 : w3.cell? ⟨w1.heap.size, 1, none⟩ = some (.slice pp lp cp) := HK13.out.cell 1
      have zf : ∀ o, w3.frozen? ⟨w1.heap.size, o, none⟩ = false := fun o => HK13.out.frozen o
      clear hb3 hN3
      go_wp2_with fail
      go_roundg (gk - 1)
      case measure => have := HKK.out; omega
      case rel => exact ⟨i + 1, n3, p3, l3, c3, by go_num, by have := HKK.out; omega, (HK03.out.far (by simpa using hne) _).far (by simpa using hne) _, ((HK13.out.set_ 0 _).set_ 1 _).to rfl, NumC.set2 HN3.out z0 z1 _ _ _ _, .inr HLE.out, (HB3.out.setCell (by simpa using hs2) _).setCell (by simpa using hs2) _⟩
    · have hr : ∃ r, cmpZ (2 ^ i) z = r ∧ ¬ r ≤ 0 := ⟨_, rfl, by rw [cmpZ_gt (by omega)]; omega⟩
      obtain ⟨r, hr0, hr1⟩ := hr
      have HR := Lib.hid hr0
      have HBI : Hid (IsBits z i) := Lib.hid (by
        rcases HI.out with h | h
        · subst h; exact .inl ⟨by rw [Int.pow_zero] at hle; omega, rfl⟩
        · rcases Nat.eq_zero_or_pos i with h1 | h1
          · subst h1; exact .inl ⟨by rw [Int.pow_zero] at hle; omega, rfl⟩
          · exact .inr ⟨h1, h, by omega⟩)
      clear hr0 hle
      go_wp2_with fail
      refine (cmp_at _ _ _ _ _ _ _ _ (2 ^ i) z r _ HR.out HPP.out HZW.out).mono ?_; rintro e w2 ⟨rfl, hb2⟩
      have HB2 := Lib.hid (HBB.out.trans (hb2.mono HBB.out.size))
      clear hb2
      go_wp2_with fail
      go_ret
      exact ⟨i, rfl, HBI.out, HB2.out⟩
end Go.Proofs.Ytnbhcemgoifkgaa
