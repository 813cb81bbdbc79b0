/- Contract of package exact's put. Conditions: both below 2^2240 units. -/
import Derived.Test.YtfanjmgbkmdmfaaExA
namespace Go.Proofs.Ytfanjmgbkmdmfaa
open Go.RowKit Ieee

def ROOM : Nat := 2 ^ K2240
theorem room_eq : ROOM = 2 ^ K2240 := rfl
theorem bits_gt {p b : Nat} (h : BitsN p b) : (2240 < b) ↔ ROOM ≤ p := by
  have hK : K2240 = 2240 := rfl
  rcases h with ⟨h1, h2⟩ | ⟨h1, h2, h3⟩
  · have : 0 < ROOM := Nat.two_pow_pos K2240
    omega
  · constructor
    · intro h4
      exact Nat.le_trans (Nat.pow_le_pow_right (by decide) (by omega)) h2
    · intro h4
      have := two_pow_lt (Nat.lt_of_le_of_lt h4 h3)
      omega
theorem NatC.short2 {w : World} {a : Option Addr} {n c z : Nat} (h : NatC w a n c (z : Int)) (hz : z < ROOM) : n ≤ 2240 := by
  have h1 := h.short (K := K2240) hz
  exact h1
theorem NatC.nul {w : World} {a : Option Addr} {n c z : Nat} (h : NatC w a n c (z : Int)) : ((n : Int) == 0) = decide (z = 0) := by
  have h1 := h.tell
  rw [Bool.eq_iff_iff]
  rw [decide_eq_decide] at h1
  simp only [beq_iff_eq, decide_eq_true_eq]
  omega
theorem room_two {X Y : Nat} (hX : X < ROOM) (hY : Y < ROOM) {w : World} {a : Option Addr} {n c : Nat} (h : NatC w a n c ((X + Y : Nat) : Int)) : n ≤ 2241 := by
  have h1 : X + Y < 2 ^ (K2240 + 1) := by
    rw [Nat.pow_succ]
    unfold ROOM at *
    omega
  have h2 := h.short h1
  exact h2
attribute [irreducible] ROOM
/-- a number of units with a sign -/
def signU (neg : Bool) (U : Nat) : Int := if neg then -(U : Int) else (U : Int)
def putZ (z y : Int) : Int := if (z + y).natAbs < ROOM then z + y else z
def RPut (g b : Nat) (z y : Int) (w : World) (e : Ending) (w' : World) : Prop := e = .returned (.bool (decide ((z + y).natAbs < ROOM))) ∧ SumAt w' g b (putZ z y) ∧ But g w w'

set_option maxHeartbeats 2000000 in
theorem put_same (w : World) (g b : Nat) (z : Int) (ua : Option Addr) (un uc U : Nat) (hs : SumAt w g b z) (hu : NatC w ua un uc (U : Int)) (hz : z.natAbs < ROOM) (hU : U < ROOM) :
    Calls Try.prog 78 #[.pointer (some ⟨g, 0, none⟩), .bool (decide (z < 0)), .slice ua un uc] w (RPut g b z (signU (decide (z < 0)) U) w) := by
  have hsum : (z + signU (decide (z < 0)) U).natAbs = z.natAbs + U ∧ (z.natAbs + U ≠ 0 → (z + signU (decide (z < 0)) U < 0 ↔ z < 0)) := by
    unfold signU
    rcases Int.lt_or_le z 0 with h | h
    · rw [decide_eq_true h]; simp only [if_true]; omega
    · rw [show decide (z < 0) = false from by simpa using h]; simp only [Bool.false_eq_true, if_false]; omega
  have hsg : decide (z + signU (decide (z < 0)) U < 0) = decide (z < 0) := by
    rw [decide_eq_decide]
    rcases Nat.eq_zero_or_pos (z.natAbs + U) with h | h
    · have : U = 0 := by omega
      have hz0 : z = 0 := by omega
      unfold signU
      rw [this, hz0]
      simp
    · exact hsum.2 (by omega)
  obtain ⟨a, n, c, hk, hN⟩ := hs
  obtain ⟨xs, x1, x2, x3⟩ := hN.row
  obtain ⟨ys, y1, y2, y3⟩ := hu.row
  have hl1 := hN.short2 hz
  have hl2 := hu.short2 hU
  have HAD := Lib.hid (nadd_any a ua n c un uc xs ys w x1 y1 x2 y2 (by omega) (by omega))
  rw [x3, y3, ← Int.natCast_add] at HAD
  have HK := Lib.hid hk
  have HN := Lib.hid hN
  have HZ := Lib.hid hz
  have HS := Lib.hid hsum
  have HSG := Lib.hid hsg
  have c2 : w.cell? ⟨g, 2, none⟩ = some (.bool (decide (z < 0))) := hk.cell 2
  have c3 : w.cell? ⟨g, 3, none⟩ = some (.slice a n c) := hk.cell 3
  have HSZ := Lib.hid (fun (w : World) (a : Option Addr) (n c : Nat) (h : NatC w a n c ((z.natAbs + U : Nat) : Int)) => room_two hz hU h)
  clear hu hN x1 x2 x3 y1 y2 y3 hz hU hsum hsg hk
  generalize hng : decide (z < 0) = ng at *
  have HNG := Lib.hid hng
  clear hng
  go_enter Try.func78, Try.ntmps78
  go_wp2_with fail
  refine HAD.out.mono ?_; rintro e w1 ⟨a1, n1, c1, rfl, hN1, hb1, -⟩
  have hl3 := HSZ.out _ _ _ _ hN1
  obtain ⟨us, u1, u2, u3⟩ := hN1.row
  have HBT := Lib.hid (nbits_any a1 n1 c1 (z.natAbs + U) us w1 u1 u2 u3 (by omega))
  have HB1 := Lib.hid hb1
  have HN1 := Lib.hid hN1
  clear hb1 hN1 u1 u2 u3 hl3
  go_wp2_with fail
  refine HBT.out.mono ?_; rintro e w2 ⟨bb, rfl, rfl, hbb⟩
  have hgt := bits_gt hbb
  have hk1 := HK.out.below HB1.out HK.out.lt
  clear hbb c2 c3
  by_cases hov : 2240 < bb
  · have t1 : decide ((2240 : Int) < (bb : Int)) = true := by simp; omega
    have HNO : Hid (¬ (z + signU ng U).natAbs < ROOM) := Lib.hid (by rw [HS.out.1]; have := hgt.1 hov; omega)
    clear hgt hov hk1
    go_wp2_with fail
    go_ret
    refine ⟨ret_bool (by rw [decide_eq_false HNO.out]), ?_, But.of HB1.out⟩
    unfold putZ
    rw [if_neg HNO.out]
    refine ⟨a, n, c, ?_, HN.out.below HB1.out (Nat.le_refl _)⟩
    have := HK.out.below HB1.out HK.out.lt
    rw [HNG.out]
    exact this
  · have t1 : decide ((2240 : Int) < (bb : Int)) = false := by simp; omega
    have HYE : Hid ((z + signU ng U).natAbs < ROOM) := Lib.hid (by rw [HS.out.1]; rcases Nat.lt_or_ge (z.natAbs + U) (ROOM) with h | h; exact h; exact absurd (hgt.2 h) hov)
    have c3 : w1.cell? ⟨g, 3, none⟩ = some (.slice a n c) := hk1.cell 3
    have cf : ∀ o, w1.frozen? ⟨g, o, none⟩ = false := fun o => hk1.frozen o
    have HK1 := Lib.hid hk1
    clear hgt hov hk1
    go_wp2_with fail
    go_ret
    refine ⟨ret_bool (by rw [decide_eq_true HYE.out]), ?_, (But.of HB1.out).setCell 3 _⟩
    unfold putZ
    rw [if_pos HYE.out]
    refine ⟨a1, n1, c1, ?_, ?_⟩
    · rw [HSG.out]
      exact (HK1.out.set_ 3 _).to rfl
    · rw [HS.out.1]
      exact HN1.out.but HK1.out ((But.refl g w1).setCell 3 _)

set_option maxHeartbeats 2000000 in
theorem put_diff (w : World) (g b : Nat) (z : Int) (ng : Bool) (ua : Option Addr) (un uc U : Nat) (hs : SumAt w g b z) (hu : NatC w ua un uc (U : Int)) (hz : z.natAbs < ROOM) (hU : U < ROOM) (hng : ng ≠ decide (z < 0)) (h0 : ng = true → 0 < U) :
    Calls Try.prog 78 #[.pointer (some ⟨g, 0, none⟩), .bool ng, .slice ua un uc] w (RPut g b z (signU ng U) w) := by
  have hlt : (z + signU ng U).natAbs < ROOM := by
    unfold signU
    cases ng
    · have : z < 0 := by simpa using hng
      simp only [Bool.false_eq_true, if_false]; omega
    · have : ¬ z < 0 := by simpa using hng
      simp only [if_true]; omega
  have hput : putZ z (signU ng U) = z + signU ng U := by unfold putZ; rw [if_pos hlt]
  have hsgn : z + signU ng U = (if ng then (z.natAbs : Int) - U else (U : Int) - z.natAbs) := by
    unfold signU
    cases ng
    · have : z < 0 := by simpa using hng
      simp only [Bool.false_eq_true, if_false]; omega
    · have : ¬ z < 0 := by simpa using hng
      simp only [if_true]; omega
  have hdn : decide (z < 0) = !ng := by
    cases ng
    · simpa using hng
    · simpa using hng
  obtain ⟨a, n, c, hk, hN⟩ := hs
  rw [hdn] at hk
  obtain ⟨xs, x1, x2, x3⟩ := hN.row
  obtain ⟨ys, y1, y2, y3⟩ := hu.row
  have hl1 := hN.short2 hz
  have hl2 := hu.short2 hU
  have HK := Lib.hid hk
  have HN := Lib.hid hN
  have HU := Lib.hid hu
  have HLT := Lib.hid hlt
  have HPT := Lib.hid hput
  have HSG := Lib.hid hsgn
  have H0 := Lib.hid h0
  have c2 : w.cell? ⟨g, 2, none⟩ = some (.bool (!ng)) := hk.cell 2
  have c3 : w.cell? ⟨g, 3, none⟩ = some (.slice a n c) := hk.cell 3
  have tn : (ng == !ng) = false := by cases ng <;> rfl
  generalize signU ng U = y at *
  generalize hZ : z.natAbs = Z at *
  rcases Nat.lt_or_ge Z U with hc | hc
  · have HSB := Lib.hid (nsub_no a ua n c un uc xs ys w x1 y1 x2 y2 (by rw [x3, y3]; omega))
    have HSB2 := Lib.hid (fun w (g1 : RowK .u32 w ua un uc ys) (g2 : RowK .u32 w a n c xs) => nsub_any ua a un uc n c ys xs w g1 g2 y2 x2 (by omega) (by omega) (by rw [x3, y3]; omega))
    rw [x3, y3, show (U : Int) - (Z : Int) = ((U - Z : Nat) : Int) from by omega] at HSB2
    have HX := Lib.hid x1
    have HY := Lib.hid y1
    have HC := Lib.hid hc
    clear hu hN x1 x2 x3 y1 y2 y3 hz hU hk hlt hput hsgn h0 hng hdn hc hZ
    go_enter Try.func78, Try.ntmps78
    go_wp2_with fail
    refine HSB.out.mono ?_; rintro e w1 ⟨rfl, hb1⟩
    have HB1 := Lib.hid hb1
    have hk1 := HK.out.below hb1 HK.out.lt
    clear hb1 c2 c3
    have c3 : w1.cell? ⟨g, 3, none⟩ = some (.slice a n c) := hk1.cell 3
    have HK1 := Lib.hid hk1
    clear hk1
    go_wp2_with fail
    refine (HSB2.out w1 (HY.out.below HB1.out (Nat.le_refl _)) (HX.out.below HB1.out (Nat.le_refl _))).mono ?_; rintro e w2 ⟨a2, n2, c2, rfl, hN2, hb2, -⟩
    have HB2 := Lib.hid (HB1.out.trans (hb2.mono HB1.out.size))
    have hk2 := HK1.out.below hb2 HK1.out.lt
    have hnul := hN2.nul
    rw [show decide (U - Z = 0) = false from by have := HC.out; simp; omega] at hnul
    have d2 : w2.cell? ⟨g, 2, none⟩ = some (.bool (!ng)) := hk2.cell 2
    have d3 : w2.cell? ⟨g, 3, none⟩ = some (.slice a n c) := hk2.cell 3
    have cf : ∀ o, w2.frozen? ⟨g, o, none⟩ = false := fun o => hk2.frozen o
    have HK2 := Lib.hid hk2
    have HN2 := Lib.hid hN2
    clear hN2 hb2 hk2 c3
    go_wp2_with fail
    go_ret
    have hbt : But g w2 ((w2.setCell ⟨g, 3, none⟩ (.slice a2 n2 c2)).setCell ⟨g, 2, none⟩ (.bool ng)) := ((But.refl g w2).setCell 3 _).setCell 2 _
    refine ⟨ret_bool (by rw [decide_eq_true HLT.out]), ?_, (But.of HB2.out).trans hbt⟩
    rw [HPT.out, HSG.out]
    have hC := HC.out
    refine ⟨a2, n2, c2, ?_, ?_⟩
    · rw [show decide ((if ng = true then (Z : Int) - (U : Int) else (U : Int) - (Z : Int)) < 0) = ng from by cases ng <;> simp <;> omega]
      exact ((HK2.out.set_ 3 _).set_ 2 _).to rfl
    · rw [show (if ng = true then (Z : Int) - (U : Int) else (U : Int) - (Z : Int)).natAbs = U - Z from by cases ng <;> simp <;> omega]
      exact HN2.out.but HK2.out hbt
  · have HSB := Lib.hid (nsub_any a ua n c un uc xs ys w x1 y1 x2 y2 (by omega) (by omega) (by rw [x3, y3]; omega))
    rw [x3, y3, show (Z : Int) - (U : Int) = ((Z - U : Nat) : Int) from by omega] at HSB
    have HC := Lib.hid hc
    clear hu hN x1 x2 x3 y1 y2 y3 hz hU hk hlt hput hsgn h0 hng hdn hc hZ
    go_enter Try.func78, Try.ntmps78
    go_wp2_with fail
    refine HSB.out.mono ?_; rintro e w2 ⟨a2, n2, c2, rfl, hN2, hb2, -⟩
    have HB2 := Lib.hid hb2
    have hk2 := HK.out.below hb2 HK.out.lt
    have hnul := hN2.nul
    have d2 : w2.cell? ⟨g, 2, none⟩ = some (.bool (!ng)) := hk2.cell 2
    have d3 : w2.cell? ⟨g, 3, none⟩ = some (.slice a n c) := hk2.cell 3
    have cf : ∀ o, w2.frozen? ⟨g, o, none⟩ = false := fun o => hk2.frozen o
    have HK2 := Lib.hid hk2
    have HN2 := Lib.hid hN2
    clear hN2 hb2 hk2 c3
    by_cases he : Z - U = 0
    · rw [decide_eq_true he] at hnul
      have HE := Lib.hid he
      clear he
      go_wp2_with fail
      go_ret
      have hbt : But g w2 ((w2.setCell ⟨g, 3, none⟩ (.slice a2 n2 c2)).setCell ⟨g, 2, none⟩ (.bool false)) := ((But.refl g w2).setCell 3 _).setCell 2 _
      refine ⟨ret_bool (by rw [decide_eq_true HLT.out]), ?_, (But.of HB2.out).trans hbt⟩
      rw [HPT.out, HSG.out]
      have hC := HC.out
      have hE := HE.out
      refine ⟨a2, n2, c2, ?_, ?_⟩
      · rw [show decide ((if ng = true then (Z : Int) - (U : Int) else (U : Int) - (Z : Int)) < 0) = false from by cases ng <;> simp <;> omega]
        exact ((HK2.out.set_ 3 _).set_ 2 _).to rfl
      · rw [show (if ng = true then (Z : Int) - (U : Int) else (U : Int) - (Z : Int)).natAbs = Z - U from by cases ng <;> simp <;> omega]
        exact HN2.out.but HK2.out hbt
    · rw [decide_eq_false he] at hnul
      have HE := Lib.hid he
      clear he
      go_wp2_with fail
      go_ret
      have hbt : But g w2 (w2.setCell ⟨g, 3, none⟩ (.slice a2 n2 c2)) := (But.refl g w2).setCell 3 _
      refine ⟨ret_bool (by rw [decide_eq_true HLT.out]), ?_, (But.of HB2.out).trans hbt⟩
      rw [HPT.out, HSG.out]
      have hC := HC.out
      have hE := HE.out
      refine ⟨a2, n2, c2, ?_, ?_⟩
      · rw [show decide ((if ng = true then (Z : Int) - (U : Int) else (U : Int) - (Z : Int)) < 0) = !ng from by cases ng <;> simp <;> omega]
        exact (HK2.out.set_ 3 _).to rfl
      · rw [show (if ng = true then (Z : Int) - (U : Int) else (U : Int) - (Z : Int)).natAbs = Z - U from by cases ng <;> simp <;> omega]
        exact HN2.out.but HK2.out hbt

theorem put_any (w : World) (g b : Nat) (z : Int) (ng : Bool) (ua : Option Addr) (un uc U : Nat) (hs : SumAt w g b z) (hu : NatC w ua un uc (U : Int)) (hz : z.natAbs < ROOM) (hU : U < ROOM) (h0 : ng = true → 0 < U) :
    Calls Try.prog 78 #[.pointer (some ⟨g, 0, none⟩), .bool ng, .slice ua un uc] w (RPut g b z (signU ng U) w) := by
  by_cases h : ng = decide (z < 0)
  · rw [h]; exact put_same w g b z ua un uc U hs hu hz hU
  · exact put_diff w g b z ng ua un uc U hs hu hz hU h h0
end Go.Proofs.Ytfanjmgbkmdmfaa
