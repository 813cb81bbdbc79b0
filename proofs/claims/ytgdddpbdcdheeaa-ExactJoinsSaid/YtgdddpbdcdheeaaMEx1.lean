/- What package exact's sums are in memory; contracts of its New, is and put. Conditions: below 2^2240 units. -/
import Derived.Test.YtgdddpbdcdheeaaMRat2
import Derived.Test.YtgdddpbdcdheeaaMFloC
import Derived.Test.YtgdddpbdcdheeaaMReg
namespace Go.Proofs.Ytgdddpbdcdheeaa
open Go.RowKit Ieee

/-- no block but g, of those that were there, has changed -/
structure But (g : Nat) (w w' : World) : Prop where
  os : w'.os = w.os
  tape : w'.tape = w.tape
  output : w'.output = w.output
  size : w.heap.size ≤ w'.heap.size
  block : ∀ k, k < w.heap.size → k ≠ g → w'.heap[k]? = w.heap[k]?
theorem But.refl (g : Nat) (w : World) : But g w w := ⟨rfl, rfl, rfl, Nat.le_refl _, fun _ _ _ => rfl⟩
theorem But.trans {g : Nat} {a b c : World} (h : But g a b) (k : But g b c) : But g a c :=
  ⟨k.os.trans h.os, k.tape.trans h.tape, k.output.trans h.output, Nat.le_trans h.size k.size, fun i hi hg => (k.block i (Nat.lt_of_lt_of_le hi h.size) hg).trans (h.block i hi hg)⟩
theorem But.of {g : Nat} {w w' : World} (h : Below w.heap.size w w') : But g w w' := ⟨h.os, h.tape, h.output, h.size, fun k hk _ => h.block k hk⟩
theorem But.setCell {g : Nat} {a w : World} (h : But g a w) (i : Nat) (v : Value) : But g a (w.setCell ⟨g, i, none⟩ v) :=
  h.trans ⟨rfl, rfl, rfl, by simp [World.setCell], fun k _ hg => Below.heap_setCell _ _ _ _ hg⟩
theorem But.below {g B : Nat} {w w' : World} (h : But g w w') (hg : B ≤ g) (hB : B ≤ w.heap.size) : Below B w w' := ⟨h.os, h.tape, h.output, h.size, fun k hk => h.block k (by omega) (by omega)⟩
theorem But.blk {g k : Nat} {w w' : World} {t : TypeId} {cs : Array Value} (h : But g w w') (hk : Blk w k t cs) (hg : k ≠ g) : Blk w' k t cs := by
  show w'.heap[k]? = _
  rw [h.block k hk.lt hg]; exact hk
theorem But.cell {g b o : Nat} {w w' : World} (h : But g w w') (hb : b < w.heap.size) (hg : b ≠ g) : w'.cell? ⟨b, o, none⟩ = w.cell? ⟨b, o, none⟩ := by
  simp only [World.cell?, h.block b hb hg]

/-- a sum's cells -/
def sumCells (b : Nat) (neg : Bool) (a : Option Addr) (n c : Nat) : Array Value := #[.bool true, .int .u8 (b : Int), .bool neg, .slice a n c]
theorem RowK.but {w w' : World} {a : Option Addr} {n c g b l q : Nat} {neg : Bool} {A : Option Addr} {xs : List Int} {t : TypeId} (h : RowK .u32 w a n c xs) (hk : Blk w g t (sumCells b neg A l q)) (hb : But g w w') : RowK .u32 w' a n c xs := by
  obtain ⟨h1, h2, h3, h4⟩ := h
  refine ⟨h1, h2, h3, ?_⟩
  rcases h4 with h4 | ⟨bb, off, rfl, hlt, hc⟩
  · exact .inl h4
  · refine .inr ⟨bb, off, rfl, Nat.lt_of_lt_of_le hlt hb.size, fun i hi => ?_⟩
    by_cases hg : bb = g
    · subst hg
      have h5 := hc i hi
      rw [hk.cell] at h5
      have h6 : off + i = 0 ∨ off + i = 1 ∨ off + i = 2 ∨ off + i = 3 ∨ 4 ≤ off + i := by omega
      rcases h6 with h6 | h6 | h6 | h6 | h6
      · rw [h6] at h5; cases h5
      · rw [h6] at h5; cases h5
      · rw [h6] at h5; cases h5
      · rw [h6] at h5; cases h5
      · rw [Array.getElem?_eq_none (by simp [sumCells]; omega)] at h5; cases h5
    · rw [hb.cell hlt hg]
      exact hc i hi
theorem NatC.but {w w' : World} {a : Option Addr} {n c g b l q : Nat} {z : Int} {neg : Bool} {A : Option Addr} {t : TypeId} (h : NatC w a n c z) (hk : Blk w g t (sumCells b neg A l q)) (hb : But g w w') : NatC w' a n c z := by
  obtain ⟨xs, h1, h2, h3, h4⟩ := h
  exact ⟨xs, h1.but hk hb, h2, h3, h4⟩

def K2240 : Nat := 2240
/-- block g is a sum: the kinds b that came, z units -/
def SumAt (w : World) (g : Nat) (b : Nat) (z : Int) : Prop :=
  ∃ a n c, Blk w g 72 (sumCells b (decide (z < 0)) a n c) ∧ NatC w a n c ((z.natAbs : Nat) : Int)
theorem SumAt.lt {w : World} {g b : Nat} {z : Int} (h : SumAt w g b z) : g < w.heap.size := by
  obtain ⟨a, n, c, h, -⟩ := h
  exact h.lt
theorem SumAt.below {w w' : World} {g b B : Nat} {z : Int} (h : SumAt w g b z) (hb : Below B w w') (hB : w.heap.size ≤ B) : SumAt w' g b z := by
  obtain ⟨a, n, c, h1, h2⟩ := h
  exact ⟨a, n, c, h1.below hb (Nat.lt_of_lt_of_le h1.lt hB), h2.below hb hB⟩
/-- another sum stays -/
theorem SumAt.other {w w' : World} {g k b d : Nat} {z y : Int} (h : SumAt w k d y) (hs : SumAt w g b z) (hb : But g w w') (hg : k ≠ g) : SumAt w' k d y := by
  obtain ⟨a, n, c, h1, h2⟩ := h
  obtain ⟨a', n', c', h1', -⟩ := hs
  exact ⟨a, n, c, hb.blk h1 hg, h2.but h1' hb⟩

theorem sumis_any (w : World) (g b : Nat) (z : Int) (h : SumAt w g b z) :
    Calls Try.prog 46 #[.pointer (some ⟨g, 0, none⟩)] w fun e w' => e = .returned (.bool true) ∧ w = w' := by
  obtain ⟨a, n, c, h1, -⟩ := h
  have c0 : w.cell? ⟨g, 0, none⟩ = some (.bool true) := h1.cell 0
  clear h1
  go_enter Try.func46, Try.ntmps46
  go_wp2_with fail
  go_ret
  exact ⟨rfl, rfl⟩
theorem sumis_nil (w : World) :
    Calls Try.prog 46 #[.pointer none] w fun e w' => e = .returned (.bool false) ∧ w = w' := by
  go_enter Try.func46, Try.ntmps46
  go_wp2_with fail
  go_ret
  exact ⟨rfl, rfl⟩
theorem sumis_not (w : World) (g : Nat) (h : w.cell? ⟨g, 0, none⟩ = some (.bool false)) :
    Calls Try.prog 46 #[.pointer (some ⟨g, 0, none⟩)] w fun e w' => e = .returned (.bool false) ∧ w = w' := by
  go_enter Try.func46, Try.ntmps46
  go_wp2_with fail
  go_ret
  exact ⟨rfl, rfl⟩
theorem sumnew_any (w : World) :
    Calls Try.prog 13 #[] w fun e w' => e = .returned (.pointer (some ⟨w.heap.size, 0, none⟩)) ∧ SumAt w' w.heap.size 0 0 ∧ Below w.heap.size w w' := by
  go_enter Try.func13, Try.ntmps13
  go_wp2_with fail
  go_ret
  refine ⟨rfl, ⟨none, 0, 0, Blk.new _ _ _, ⟨[], RowK.nil, Dig.nil, .inl rfl, rfl⟩⟩, (Below.refl _ _).alloc (Nat.le_refl _) _⟩
end Go.Proofs.Ytgdddpbdcdheeaa
/- Contract of package exact's put. Conditions: both below 2^2240 units. -/
namespace Go.Proofs.Ytgdddpbdcdheeaa
open Go.RowKit Ieee

def ROOM : Nat := 2 ^ K2240
theorem room_eq : ROOM = 2 ^ K2240 := rfl
theorem bits_gt {p b : Nat} (h : BitsN p b) : (2240 < b) ↔ ROOM ≤ p := by
  have hK : K2240 = 2240 := rfl
  rcases h with ⟨h1, h2⟩ | ⟨h1, h2, h3⟩
  · have : 0 < ROOM := Nat.two_pow_pos K2240
    omega
  · constructor
    · intro h4
      exact Nat.le_trans (Nat.pow_le_pow_right (by decide) (by omega)) h2
    · intro h4
      have := two_pow_lt (Nat.lt_of_le_of_lt h4 h3)
      omega
theorem NatC.short2 {w : World} {a : Option Addr} {n c z : Nat} (h : NatC w a n c (z : Int)) (hz : z < ROOM) : n ≤ 2240 := by
  have h1 := h.short (K := K2240) hz
  exact h1
theorem NatC.nul {w : World} {a : Option Addr} {n c z : Nat} (h : NatC w a n c (z : Int)) : ((n : Int) == 0) = decide (z = 0) := by
  have h1 := h.tell
  rw [Bool.eq_iff_iff]
  rw [decide_eq_decide] at h1
  simp only [beq_iff_eq, decide_eq_true_eq]
  omega
theorem room_two {X Y : Nat} (hX : X < ROOM) (hY : Y < ROOM) {w : World} {a : Option Addr} {n c : Nat} (h : NatC w a n c ((X + Y : Nat) : Int)) : n ≤ 2241 := by
  have h1 : X + Y < 2 ^ (K2240 + 1) := by
    rw [Nat.pow_succ]
    unfold ROOM at *
    omega
  have h2 := h.short h1
  exact h2
attribute [irreducible] ROOM
/-- a number of units with a sign -/
def signU (neg : Bool) (U : Nat) : Int := if neg then -(U : Int) else (U : Int)
def putZ (z y : Int) : Int := if (z + y).natAbs < ROOM then z + y else z
def RPut (g b : Nat) (z y : Int) (w : World) (e : Ending) (w' : World) : Prop := e = .returned (.bool (decide ((z + y).natAbs < ROOM))) ∧ SumAt w' g b (putZ z y) ∧ But g w w'

set_option maxHeartbeats 2000000 in
theorem put_same (w : World) (g b : Nat) (z : Int) (ua : Option Addr) (un uc U : Nat) (hs : SumAt w g b z) (hu : NatC w ua un uc (U : Int)) (hz : z.natAbs < ROOM) (hU : U < ROOM) :
    Calls Try.prog 51 #[.pointer (some ⟨g, 0, none⟩), .bool (decide (z < 0)), .slice ua un uc] w (RPut g b z (signU (decide (z < 0)) U) w) := by
  have hsum : (z + signU (decide (z < 0)) U).natAbs = z.natAbs + U ∧ (z.natAbs + U ≠ 0 → (z + signU (decide (z < 0)) U < 0 ↔ z < 0)) := by
    unfold signU
    rcases Int.lt_or_le z 0 with h | h
    · rw [decide_eq_true h]; simp only [if_true]; omega
    · rw [show decide (z < 0) = false from by simpa using h]; simp only [Bool.false_eq_true, if_false]; omega
  have hsg : decide (z + signU (decide (z < 0)) U < 0) = decide (z < 0) := by
    rw [decide_eq_decide]
    rcases Nat.eq_zero_or_pos (z.natAbs + U) with h | h
    · have : U = 0 := by omega
      have hz0 : z = 0 := by omega
      unfold signU
      rw [this, hz0]
      simp
    · exact hsum.2 (by omega)
  obtain ⟨a, n, c, hk, hN⟩ := hs
  obtain ⟨xs, x1, x2, x3⟩ := hN.row
  obtain ⟨ys, y1, y2, y3⟩ := hu.row
  have hl1 := hN.short2 hz
  have hl2 := hu.short2 hU
  have HAD := Lib.hid (nadd_any a ua n c un uc xs ys w x1 y1 x2 y2 (by omega) (by omega))
  rw [x3, y3, ← Int.natCast_add] at HAD
  have HK := Lib.hid hk
  have HN := Lib.hid hN
  have HZ := Lib.hid hz
  have HS := Lib.hid hsum
  have HSG := Lib.hid hsg
  have c2 : w.cell? ⟨g, 2, none⟩ = some (.bool (decide (z < 0))) := hk.cell 2
  have c3 : w.cell? ⟨g, 3, none⟩ = some (.slice a n c) := hk.cell 3
  have HSZ := Lib.hid (fun (w : World) (a : Option Addr) (n c : Nat) (h : NatC w a n c ((z.natAbs + U : Nat) : Int)) => room_two hz hU h)
  clear hu hN x1 x2 x3 y1 y2 y3 hz hU hsum hsg hk
  generalize hng : decide (z < 0) = ng at *
  have HNG := Lib.hid hng
  clear hng
  go_enter Try.func51, Try.ntmps51
  go_wp2_with fail
  refine HAD.out.mono ?_; rintro e w1 ⟨a1, n1, c1, rfl, hN1, hb1, -⟩
  have hl3 := HSZ.out _ _ _ _ hN1
  obtain ⟨us, u1, u2, u3⟩ := hN1.row
  have HBT := Lib.hid (nbits_any a1 n1 c1 (z.natAbs + U) us w1 u1 u2 u3 (by omega))
  have HB1 := Lib.hid hb1
  have HN1 := Lib.hid hN1
  clear hb1 hN1 u1 u2 u3 hl3
  go_wp2_with fail
  refine HBT.out.mono ?_; rintro e w2 ⟨bb, rfl, rfl, hbb⟩
  have hgt := bits_gt hbb
  have hk1 := HK.out.below HB1.out HK.out.lt
  clear hbb c2 c3
  by_cases hov : 2240 < bb
  · have t1 : decide ((2240 : Int) < (bb : Int)) = true := by simp; omega
    have HNO : Hid (¬ (z + signU ng U).natAbs < ROOM) := Lib.hid (by rw [HS.out.1]; have := hgt.1 hov; omega)
    clear hgt hov hk1
    go_wp2_with fail
    go_ret
    refine ⟨ret_bool (by rw [decide_eq_false HNO.out]), ?_, But.of HB1.out⟩
    unfold putZ
    rw [if_neg HNO.out]
    refine ⟨a, n, c, ?_, HN.out.below HB1.out (Nat.le_refl _)⟩
    have := HK.out.below HB1.out HK.out.lt
    rw [HNG.out]
    exact this
  · have t1 : decide ((2240 : Int) < (bb : Int)) = false := by simp; omega
    have HYE : Hid ((z + signU ng U).natAbs < ROOM) := Lib.hid (by rw [HS.out.1]; rcases Nat.lt_or_ge (z.natAbs + U) (ROOM) with h | h; exact h; exact absurd (hgt.2 h) hov)
    have c3 : w1.cell? ⟨g, 3, none⟩ = some (.slice a n c) := hk1.cell 3
    have cf : ∀ o, w1.frozen? ⟨g, o, none⟩ = false := fun o => hk1.frozen o
    have HK1 := Lib.hid hk1
    clear hgt hov hk1
    go_wp2_with fail
    go_ret
    refine ⟨ret_bool (by rw [decide_eq_true HYE.out]), ?_, (But.of HB1.out).setCell 3 _⟩
    unfold putZ
    rw [if_pos HYE.out]
    refine ⟨a1, n1, c1, ?_, ?_⟩
    · rw [HSG.out]
      exact (HK1.out.set_ 3 _).to rfl
    · rw [HS.out.1]
      exact HN1.out.but HK1.out ((But.refl g w1).setCell 3 _)

set_option maxHeartbeats 2000000 in
theorem put_diff (w : World) (g b : Nat) (z : Int) (ng : Bool) (ua : Option Addr) (un uc U : Nat) (hs : SumAt w g b z) (hu : NatC w ua un uc (U : Int)) (hz : z.natAbs < ROOM) (hU : U < ROOM) (hng : ng ≠ decide (z < 0)) (h0 : ng = true → 0 < U) :
    Calls Try.prog 51 #[.pointer (some ⟨g, 0, none⟩), .bool ng, .slice ua un uc] w (RPut g b z (signU ng U) w) := by
  have hlt : (z + signU ng U).natAbs < ROOM := by
    unfold signU
    cases ng
    · have : z < 0 := by simpa using hng
      simp only [Bool.false_eq_true, if_false]; omega
    · have : ¬ z < 0 := by simpa using hng
      simp only [if_true]; omega
  have hput : putZ z (signU ng U) = z + signU ng U := by unfold putZ; rw [if_pos hlt]
  have hsgn : z + signU ng U = (if ng then (z.natAbs : Int) - U else (U : Int) - z.natAbs) := by
    unfold signU
    cases ng
    · have : z < 0 := by simpa using hng
      simp only [Bool.false_eq_true, if_false]; omega
    · have : ¬ z < 0 := by simpa using hng
      simp only [if_true]; omega
  have hdn : decide (z < 0) = !ng := by
    cases ng
    · simpa using hng
    · simpa using hng
  obtain ⟨a, n, c, hk, hN⟩ := hs
  rw [hdn] at hk
  obtain ⟨xs, x1, x2, x3⟩ := hN.row
  obtain ⟨ys, y1, y2, y3⟩ := hu.row
  have hl1 := hN.short2 hz
  have hl2 := hu.short2 hU
  have HK := Lib.hid hk
  have HN := Lib.hid hN
  have HU := Lib.hid hu
  have HLT := Lib.hid hlt
  have HPT := Lib.hid hput
  have HSG := Lib.hid hsgn
  have H0 := Lib.hid h0
  have c2 : w.cell? ⟨g, 2, none⟩ = some (.bool (!ng)) := hk.cell 2
  have c3 : w.cell? ⟨g, 3, none⟩ = some (.slice a n c) := hk.cell 3
  have tn : (ng == !ng) = false := by cases ng <;> rfl
  generalize signU ng U = y at *
  generalize hZ : z.natAbs = Z at *
  rcases Nat.lt_or_ge Z U with hc | hc
  · have HSB := Lib.hid (nsub_no a ua n c un uc xs ys w x1 y1 x2 y2 (by rw [x3, y3]; omega))
    have HSB2 := Lib.hid (fun w (g1 : RowK .u32 w ua un uc ys) (g2 : RowK .u32 w a n c xs) => nsub_any ua a un uc n c ys xs w g1 g2 y2 x2 (by omega) (by omega) (by rw [x3, y3]; omega))
    rw [x3, y3, show (U : Int) - (Z : Int) = ((U - Z : Nat) : Int) from by omega] at HSB2
    have HX := Lib.hid x1
    have HY := Lib.hid y1
    have HC := Lib.hid hc
    clear hu hN x1 x2 x3 y1 y2 y3 hz hU hk hlt hput hsgn h0 hng hdn hc hZ
    go_enter Try.func51, Try.ntmps51
    go_wp2_with fail
    refine HSB.out.mono ?_; rintro e w1 ⟨rfl, hb1⟩
    have HB1 := Lib.hid hb1
    have hk1 := HK.out.below hb1 HK.out.lt
    clear hb1 c2 c3
    have c3 : w1.cell? ⟨g, 3, none⟩ = some (.slice a n c) := hk1.cell 3
    have HK1 := Lib.hid hk1
    clear hk1
    go_wp2_with fail
    refine (HSB2.out w1 (HY.out.below HB1.out (Nat.le_refl _)) (HX.out.below HB1.out (Nat.le_refl _))).mono ?_; rintro e w2 ⟨a2, n2, c2, rfl, hN2, hb2, -⟩
    have HB2 := Lib.hid (HB1.out.trans (hb2.mono HB1.out.size))
    have hk2 := HK1.out.below hb2 HK1.out.lt
    have hnul := hN2.nul
    rw [show decide (U - Z = 0) = false from by have := HC.out; simp; omega] at hnul
    have d2 : w2.cell? ⟨g, 2, none⟩ = some (.bool (!ng)) := hk2.cell 2
    have d3 : w2.cell? ⟨g, 3, none⟩ = some (.slice a n c) := hk2.cell 3
    have cf : ∀ o, w2.frozen? ⟨g, o, none⟩ = false := fun o => hk2.frozen o
    have HK2 := Lib.hid hk2
    have HN2 := Lib.hid hN2
    clear hN2 hb2 hk2 c3
    go_wp2_with fail
    go_ret
    have hbt : But g w2 ((w2.setCell ⟨g, 3, none⟩ (.slice a2 n2 c2)).setCell ⟨g, 2, none⟩ (.bool ng)) := ((But.refl g w2).setCell 3 _).setCell 2 _
    refine ⟨ret_bool (by rw [decide_eq_true HLT.out]), ?_, (But.of HB2.out).trans hbt⟩
    rw [HPT.out, HSG.out]
    have hC := HC.out
    refine ⟨a2, n2, c2, ?_, ?_⟩
    · rw [show decide ((if ng = true then (Z : Int) - (U : Int) else (U : Int) - (Z : Int)) < 0) = ng from by cases ng <;> simp <;> omega]
      exact ((HK2.out.set_ 3 _).set_ 2 _).to rfl
    · rw [show (if ng = true then (Z : Int) - (U : Int) else (U : Int) - (Z : Int)).natAbs = U - Z from by cases ng <;> simp <;> omega]
      exact HN2.out.but HK2.out hbt
  · have HSB := Lib.hid (nsub_any a ua n c un uc xs ys w x1 y1 x2 y2 (by omega) (by omega) (by rw [x3, y3]; omega))
    rw [x3, y3, show (Z : Int) - (U : Int) = ((Z - U : Nat) : Int) from by omega] at HSB
    have HC := Lib.hid hc
    clear hu hN x1 x2 x3 y1 y2 y3 hz hU hk hlt hput hsgn h0 hng hdn hc hZ
    go_enter Try.func51, Try.ntmps51
    go_wp2_with fail
    refine HSB.out.mono ?_; rintro e w2 ⟨a2, n2, c2, rfl, hN2, hb2, -⟩
    have HB2 := Lib.hid hb2
    have hk2 := HK.out.below hb2 HK.out.lt
    have hnul := hN2.nul
    have d2 : w2.cell? ⟨g, 2, none⟩ = some (.bool (!ng)) := hk2.cell 2
    have d3 : w2.cell? ⟨g, 3, none⟩ = some (.slice a n c) := hk2.cell 3
    have cf : ∀ o, w2.frozen? ⟨g, o, none⟩ = false := fun o => hk2.frozen o
    have HK2 := Lib.hid hk2
    have HN2 := Lib.hid hN2
    clear hN2 hb2 hk2 c3
    by_cases he : Z - U = 0
    · rw [decide_eq_true he] at hnul
      have HE := Lib.hid he
      clear he
      go_wp2_with fail
      go_ret
      have hbt : But g w2 ((w2.setCell ⟨g, 3, none⟩ (.slice a2 n2 c2)).setCell ⟨g, 2, none⟩ (.bool false)) := ((But.refl g w2).setCell 3 _).setCell 2 _
      refine ⟨ret_bool (by rw [decide_eq_true HLT.out]), ?_, (But.of HB2.out).trans hbt⟩
      rw [HPT.out, HSG.out]
      have hC := HC.out
      have hE := HE.out
      refine ⟨a2, n2, c2, ?_, ?_⟩
      · rw [show decide ((if ng = true then (Z : Int) - (U : Int) else (U : Int) - (Z : Int)) < 0) = false from by cases ng <;> simp <;> omega]
        exact ((HK2.out.set_ 3 _).set_ 2 _).to rfl
      · rw [show (if ng = true then (Z : Int) - (U : Int) else (U : Int) - (Z : Int)).natAbs = Z - U from by cases ng <;> simp <;> omega]
        exact HN2.out.but HK2.out hbt
    · rw [decide_eq_false he] at hnul
      have HE := Lib.hid he
      clear he
      go_wp2_with fail
      go_ret
      have hbt : But g w2 (w2.setCell ⟨g, 3, none⟩ (.slice a2 n2 c2)) := (But.refl g w2).setCell 3 _
      refine ⟨ret_bool (by rw [decide_eq_true HLT.out]), ?_, (But.of HB2.out).trans hbt⟩
      rw [HPT.out, HSG.out]
      have hC := HC.out
      have hE := HE.out
      refine ⟨a2, n2, c2, ?_, ?_⟩
      · rw [show decide ((if ng = true then (Z : Int) - (U : Int) else (U : Int) - (Z : Int)) < 0) = !ng from by cases ng <;> simp <;> omega]
        exact (HK2.out.set_ 3 _).to rfl
      · rw [show (if ng = true then (Z : Int) - (U : Int) else (U : Int) - (Z : Int)).natAbs = Z - U from by cases ng <;> simp <;> omega]
        exact HN2.out.but HK2.out hbt

theorem put_any (w : World) (g b : Nat) (z : Int) (ng : Bool) (ua : Option Addr) (un uc U : Nat) (hs : SumAt w g b z) (hu : NatC w ua un uc (U : Int)) (hz : z.natAbs < ROOM) (hU : U < ROOM) (h0 : ng = true → 0 < U) :
    Calls Try.prog 51 #[.pointer (some ⟨g, 0, none⟩), .bool ng, .slice ua un uc] w (RPut g b z (signU ng U) w) := by
  by_cases h : ng = decide (z < 0)
  · rw [h]; exact put_same w g b z ua un uc U hs hu hz hU
  · exact put_diff w g b z ng ua un uc U hs hu hz hU h h0
end Go.Proofs.Ytgdddpbdcdheeaa
/- Contract of package exact's Add. Conditions: below 2^2240 units. -/
namespace Go.Proofs.Ytgdddpbdcdheeaa
open Go.RowKit Ieee

theorem bits_or_u8 {a b : Nat} (ha : a < 256) (hb : b < 256) : bits .or .u8 (a : Int) (b : Int) = ((a ||| b : Nat) : Int) := by
  have e : bits .or .u8 (a : Int) (b : Int) = IntKind.u8.wrap (((((a : Int) % 256).toNat ||| ((b : Int) % 256).toNat) : Nat) : Int) := by
    show IntKind.u8.wrap ((BitVec.ofInt 8 a ||| BitVec.ofInt 8 b).toNat : Int) = _
    rw [BitVec.toNat_or, BitVec.toNat_ofInt, BitVec.toNat_ofInt]
    rfl
  rw [e, Int.emod_eq_of_lt (by omega) (by omega), Int.emod_eq_of_lt (by omega) (by omega), Int.toNat_natCast, Int.toNat_natCast]
  have h : a ||| b < 2 ^ 8 := Nat.or_lt_two_pow ha hb
  simp only [IntKind.wrap, IntKind.bits, IntKind.signed]
  simp
  omega

/-- how many units a number is -/
def unitsOf (x : Nat) : Int := signU (decide (S63 ≤ x)) (iv (x % S63))
def addOk (z : Int) (x : Nat) : Bool := decide (kindZ x ≠ 1) || decide ((z + unitsOf x).natAbs < ROOM)
def addZ (z : Int) (x : Nat) : Int := if kindZ x = 1 then putZ z (unitsOf x) else z
def addF (b : Nat) (z : Int) (x : Nat) : Nat :=
  if kindZ x = 3 then b ||| 1 else if kindZ x = 2 then b ||| (if S63 ≤ x then 4 else 2) else if kindZ x = 0 then b ||| (if S63 ≤ x then 8 else 16) else if addOk z x then b ||| 16 else b
def RAdd (g b : Nat) (z : Int) (x : Nat) (w : World) (e : Ending) (w' : World) : Prop := e = .returned (.bool (addOk z x)) ∧ SumAt w' g (addF b z x) (addZ z x) ∧ But g w w'
theorem SumAt.flag {w : World} {g b d : Nat} {z : Int} (h : SumAt w g b z) : SumAt (w.setCell ⟨g, 1, none⟩ (.int .u8 (d : Int))) g d z := by
  obtain ⟨a, n, c, h1, h2⟩ := h
  exact ⟨a, n, c, (h1.set_ 1 _).to rfl, h2.but h1 ((But.refl g w).setCell 1 _)⟩
theorem kind_cases (x : Nat) : (kindZ x = 3) ∨ (kindZ x = 2 ∧ belowB x = decide (S63 ≤ x)) ∨ (kindZ x = 0 ∧ belowB x = decide (S63 ≤ x)) ∨ kindZ x = 1 := by
  unfold kindZ belowB
  by_cases h1 : INF < x % S63
  · left; rw [if_pos h1]
  · right
    rw [if_neg h1, show decide (x % S63 ≤ INF) = true from by simp; omega, Bool.and_true]
    by_cases h2 : x % S63 = INF
    · left; rw [if_pos h2]; exact ⟨rfl, rfl⟩
    · right
      rw [if_neg h2]
      by_cases h3 : x % S63 = 0
      · left; rw [if_pos h3]; exact ⟨rfl, rfl⟩
      · right; rw [if_neg h3]
theorem iv_room {x : Nat} (h : kindZ x = 1) : iv (x % S63) < ROOM ∧ 0 < iv (x % S63) := by
  obtain ⟨h1, h2⟩ := kind1.1 h
  refine ⟨?_, iv_pos h1⟩
  rw [room_eq]
  have h3 := iv_lt h2
  rw [iv_inf] at h3
  refine Nat.lt_trans h3 ?_
  rw [show B52 = 2 ^ 52 from by decide, ← Nat.pow_add]
  exact Nat.pow_lt_pow_right (by decide) (by decide)
theorem odd_le53 {r M k : Nat} (h : OddOf (iv r) M k) : M < 9007199254740992 := by
  obtain ⟨h1, h2⟩ := h
  unfold iv at h1
  have hk : sh r ≤ k := by
    rcases Nat.lt_or_ge k (sh r) with h3 | h3
    · exfalso
      obtain ⟨d, hd⟩ : ∃ d, sh r = k + 1 + d := ⟨sh r - k - 1, by omega⟩
      rw [hd] at h1
      have e : M = mg r * 2 ^ d * 2 := by
        apply Nat.eq_of_mul_eq_mul_right (Nat.two_pow_pos k)
        rw [← h1, Nat.pow_add, Nat.pow_succ]
        ac_rfl
      omega
    · exact h3
  obtain ⟨d, hd⟩ : ∃ d, k = d + sh r := ⟨k - sh r, by omega⟩
  rw [hd, Nat.pow_add, ← Nat.mul_assoc] at h1
  have h3 := Nat.eq_of_mul_eq_mul_right (Nat.two_pow_pos (sh r)) h1
  have h4 := mg_lt r
  have h5 := Nat.le_mul_of_pos_right M (Nat.two_pow_pos d)
  unfold B52 at h4
  omega
theorem odd_place {N M k K : Nat} (h : OddOf N M k) (hN : N < 2 ^ K) : k ≤ K ∧ M ≤ N := by
  obtain ⟨h1, h2⟩ := h
  have hM : 0 < M := by omega
  constructor
  · have h3 : 2 ^ k ≤ N := by rw [h1]; exact Nat.le_mul_of_pos_left _ hM
    exact Nat.le_of_lt (two_pow_lt (Nat.lt_of_le_of_lt h3 hN))
  · rw [h1]; exact Nat.le_mul_of_pos_right _ (Nat.two_pow_pos k)
set_option maxRecDepth 100000 in
set_option maxHeartbeats 4000000 in
theorem sumadd_any (w : World) (g b : Nat) (z : Int) (x : Nat) (hs : SumAt w g b z) (hz : z.natAbs < ROOM) (hb : b < 32) (hx : x < 18446744073709551616) :
    Calls Try.prog 15 #[.pointer (some ⟨g, 0, none⟩), .float .f64 x] w (RAdd g b z x w) := by
  have HI := Lib.hid (sumis_any w g b z hs)
  have HSP := Lib.hid (fsplit_any x w hx)
  have HKI := Lib.hid (fkind_any x w hx)
  have hcell : w.cell? ⟨g, 1, none⟩ = some (.int .u8 (b : Int)) ∧ ∀ o, w.frozen? ⟨g, o, none⟩ = false := by
    obtain ⟨a, n, c, h1, -⟩ := hs
    exact ⟨h1.cell 1, fun o => h1.frozen o⟩
  obtain ⟨c1, cf⟩ := hcell
  have HS := Lib.hid hs
  have o1 : bits .or .u8 (b : Int) 1 = ((b ||| 1 : Nat) : Int) := bits_or_u8 (b := 1) (by omega) (by omega)
  have o2 : bits .or .u8 (b : Int) 2 = ((b ||| 2 : Nat) : Int) := bits_or_u8 (b := 2) (by omega) (by omega)
  have o4 : bits .or .u8 (b : Int) 4 = ((b ||| 4 : Nat) : Int) := bits_or_u8 (b := 4) (by omega) (by omega)
  have o8 : bits .or .u8 (b : Int) 8 = ((b ||| 8 : Nat) : Int) := bits_or_u8 (b := 8) (by omega) (by omega)
  have o16 : bits .or .u8 (b : Int) 16 = ((b ||| 16 : Nat) : Int) := bits_or_u8 (b := 16) (by omega) (by omega)
  have HZ := Lib.hid hz
  have HBT : Hid (∀ i v, But g w (w.setCell ⟨g, i, none⟩ v)) := Lib.hid (fun i v => (But.refl g w).setCell i v)
  have hkc := kind_cases x
  clear hs hz
  rcases hkc with hk | ⟨hk, hbl⟩ | ⟨hk, hbl⟩ | hk
  · rw [hk] at HKI
    have HF : Hid (addF b z x = b ||| 1 ∧ addOk z x = true ∧ addZ z x = z) := Lib.hid (by
      unfold addF addOk addZ; rw [hk]; exact ⟨rfl, rfl, rfl⟩)
    clear hk hx
    go_enter Try.func15, Try.ntmps15
    go_wp2_with fail
    refine HI.out.mono ?_; rintro e w1 ⟨rfl, rfl⟩
    go_wp2_with fail
    refine HSP.out.mono ?_; rintro e w1 ⟨ng, m, ee, rfl, -, rfl⟩
    go_wp2_with fail
    refine HKI.out.mono ?_; rintro e w1 ⟨rfl, rfl⟩
    go_wp2_with fail
    go_ret
    refine ⟨ret_bool HF.out.2.1.symm, ?_, HBT.out _ _⟩
    rw [HF.out.1, HF.out.2.2]
    exact HS.out.flag
  · rw [hk] at HKI
    have hk1 : kindZ x ≠ 1 := by omega
    have HF : Hid (addF b z x = b ||| (if S63 ≤ x then 4 else 2) ∧ addOk z x = true ∧ addZ z x = z) := Lib.hid (by
      unfold addF addOk addZ; rw [hk]; exact ⟨rfl, rfl, rfl⟩)
    have HN : Hid (∀ ng m ee, SplitOut x ng m ee → ng = decide (S63 ≤ x)) := Lib.hid (fun ng m ee h => by
      rcases h with ⟨-, h, -⟩ | ⟨h, -⟩
      · rw [h, hbl]
      · exact absurd h hk1)
    clear hk hx hbl hk1
    by_cases hsn : S63 ≤ x
    all_goals
      have HSN := Lib.hid hsn
      clear hsn
      go_enter Try.func15, Try.ntmps15
      go_wp2_with fail
      refine HI.out.mono ?_; rintro e w1 ⟨rfl, rfl⟩
      go_wp2_with fail
      refine HSP.out.mono ?_; rintro e w1 ⟨ng, m, ee, rfl, hsp, rfl⟩
      have hng := HN.out ng m ee hsp
      clear hsp
    · rw [decide_eq_true HSN.out] at hng
      subst hng
      go_wp2_with fail
      refine HKI.out.mono ?_; rintro e w1 ⟨rfl, rfl⟩
      go_wp2_with fail
      go_ret
      refine ⟨ret_bool HF.out.2.1.symm, ?_, HBT.out _ _⟩
      rw [HF.out.1, HF.out.2.2, if_pos HSN.out]
      exact HS.out.flag
    · rw [decide_eq_false HSN.out] at hng
      subst hng
      go_wp2_with fail
      refine HKI.out.mono ?_; rintro e w1 ⟨rfl, rfl⟩
      go_wp2_with fail
      go_ret
      refine ⟨ret_bool HF.out.2.1.symm, ?_, HBT.out _ _⟩
      rw [HF.out.1, HF.out.2.2, if_neg HSN.out]
      exact HS.out.flag
  · rw [hk] at HKI
    have hk1 : kindZ x ≠ 1 := by omega
    have HF : Hid (addF b z x = b ||| (if S63 ≤ x then 8 else 16) ∧ addOk z x = true ∧ addZ z x = z) := Lib.hid (by
      unfold addF addOk addZ; rw [hk]; exact ⟨rfl, rfl, rfl⟩)
    have HN : Hid (∀ ng m ee, SplitOut x ng m ee → ng = decide (S63 ≤ x)) := Lib.hid (fun ng m ee h => by
      rcases h with ⟨-, h, -⟩ | ⟨h, -⟩
      · rw [h, hbl]
      · exact absurd h hk1)
    clear hk hx hbl hk1
    by_cases hsn : S63 ≤ x
    all_goals
      have HSN := Lib.hid hsn
      clear hsn
      go_enter Try.func15, Try.ntmps15
      go_wp2_with fail
      refine HI.out.mono ?_; rintro e w1 ⟨rfl, rfl⟩
      go_wp2_with fail
      refine HSP.out.mono ?_; rintro e w1 ⟨ng, m, ee, rfl, hsp, rfl⟩
      have hng := HN.out ng m ee hsp
      clear hsp
    · rw [decide_eq_true HSN.out] at hng
      subst hng
      go_wp2_with fail
      refine HKI.out.mono ?_; rintro e w1 ⟨rfl, rfl⟩
      go_wp2_with fail
      go_ret
      refine ⟨ret_bool HF.out.2.1.symm, ?_, HBT.out _ _⟩
      rw [HF.out.1, HF.out.2.2, if_pos HSN.out]
      exact HS.out.flag
    · rw [decide_eq_false HSN.out] at hng
      subst hng
      go_wp2_with fail
      refine HKI.out.mono ?_; rintro e w1 ⟨rfl, rfl⟩
      go_wp2_with fail
      go_ret
      refine ⟨ret_bool HF.out.2.1.symm, ?_, HBT.out _ _⟩
      rw [HF.out.1, HF.out.2.2, if_neg HSN.out]
      exact HS.out.flag
  · rw [hk] at HKI
    have HF : Hid (addF b z x = (if addOk z x then b ||| 16 else b) ∧ addOk z x = decide ((z + unitsOf x).natAbs < ROOM) ∧ addZ z x = putZ z (unitsOf x)) := Lib.hid (by
      unfold addF addOk addZ; rw [hk]; exact ⟨rfl, rfl, rfl⟩)
    obtain ⟨hr1, hr2⟩ := iv_room hk
    have HR1 := Lib.hid hr1
    have HR2 := Lib.hid hr2
    have HN : Hid (∀ ng m ee, SplitOut x ng m ee → ∃ M k : Nat, ng = decide (S63 ≤ x) ∧ m = (M : Int) ∧ ee = (k : Int) - 1074 ∧ M * 2 ^ k = iv (x % S63) ∧ M ≤ 9007199254740992 ∧ k ≤ 2240) := Lib.hid (fun ng m ee h => by
      rcases h with ⟨h, -⟩ | ⟨-, h1, M, k, h2, h3, h4⟩
      · exact absurd hk h
      · have h5 := odd_place h4 (show iv (x % S63) < 2 ^ K2240 by rw [← room_eq]; exact hr1)
        have h6 := odd_le53 h4
        have h7 : k ≤ 2240 := h5.1
        exact ⟨M, k, h1, h2, h3, h4.1.symm, by omega, h7⟩)
    have HUN : Hid (unitsOf x = signU (decide (S63 ≤ x)) (iv (x % S63))) := Lib.hid rfl
    clear hk hx hr1 hr2
    go_enter Try.func15, Try.ntmps15
    go_wp2_with fail
    refine HI.out.mono ?_; rintro e w1 ⟨rfl, rfl⟩
    go_wp2_with fail
    refine HSP.out.mono ?_; rintro e w1 ⟨ng, m, ee, rfl, hsp, rfl⟩
    obtain ⟨M, k, hng, rfl, rfl, hMk, hM, hk⟩ := HN.out ng m ee hsp
    have HNG := Lib.hid hng
    have HMK := Lib.hid hMk
    have hM2 : (M : Int) ≤ 9007199254740992 := by omega
    have hek : (k : Int) - 1074 - -1074 = (k : Int) := by omega
    have hk2 : (k : Int) ≤ 2240 := by omega
    have HOF := Lib.hid (fun w => nof_any (M : Int) w (by omega) (by omega))
    clear hsp hng hMk
    go_wp2_with fail
    refine HKI.out.mono ?_; rintro e w1 ⟨rfl, rfl⟩
    go_wp2_with fail
    refine (HOF.out _).mono ?_; rintro e w1 ⟨a1, n1, c1', rfl, hN1, hb1, -⟩
    have hl1 := hN1.short (pow64 (by omega))
    obtain ⟨us, u1, u2, u3⟩ := hN1.row
    have HSH := Lib.hid (nshl_yes a1 n1 c1' k us w1 u1 u2 (by omega) (by omega))
    rw [cast_shl u3, HMK.out] at HSH
    have HB1 := Lib.hid hb1
    clear hN1 hl1 u1 u2 u3 hb1
    go_wp2_with fail
    refine HSH.out.mono ?_; rintro e w2 ⟨a2, n2, c2, rfl, hN2, hb2, -⟩
    have HB2 := Lib.hid (HB1.out.trans (hb2.mono HB1.out.size))
    have HPT := Lib.hid (put_any w2 g b z ng a2 n2 c2 (iv (x % S63)) (HS.out.below HB2.out (Nat.le_refl _)) hN2 HZ.out HR1.out (fun _ => HR2.out))
    rw [HNG.out, ← HUN.out] at HPT
    rw [← HNG.out] at HPT
    clear hN2 hb2
    go_wp2_with fail
    refine HPT.out.mono ?_; rintro e w3 ⟨rfl, hs3, hb3⟩
    have HB3 := Lib.hid ((But.of (g := g) HB2.out).trans hb3)
    have HS3 := Lib.hid hs3
    have hcell : w3.cell? ⟨g, 1, none⟩ = some (.int .u8 (b : Int)) ∧ ∀ o, w3.frozen? ⟨g, o, none⟩ = false := by
      obtain ⟨a, n, c, h1, -⟩ := hs3
      exact ⟨h1.cell 1, fun o => h1.frozen o⟩
    obtain ⟨d1, df⟩ := hcell
    clear hs3 hb3
    by_cases hok : (z + unitsOf x).natAbs < ROOM
    · rw [decide_eq_true hok]
      have HOK := Lib.hid hok
      clear hok
      go_wp2_with fail
      go_ret
      refine ⟨ret_bool (by rw [HF.out.2.1, decide_eq_true HOK.out]), ?_, HB3.out.setCell _ _⟩
      rw [HF.out.1, HF.out.2.1, decide_eq_true HOK.out, HF.out.2.2, if_pos rfl]
      exact HS3.out.flag
    · rw [decide_eq_false hok]
      have HOK := Lib.hid hok
      clear hok
      go_wp2_with fail
      go_ret
      refine ⟨ret_bool (by rw [HF.out.2.1, decide_eq_false HOK.out]), ?_, HB3.out⟩
      rw [HF.out.1, HF.out.2.1, decide_eq_false HOK.out, HF.out.2.2, if_neg (by decide)]
      exact HS3.out
end Go.Proofs.Ytgdddpbdcdheeaa
/- Contract of package exact's Value. Conditions: below 2^2240 units. -/
namespace Go.Proofs.Ytgdddpbdcdheeaa
open Go.RowKit Ieee

theorem bits_and_u8 {a b : Nat} (ha : a < 256) (hb : b < 256) : bits .and .u8 (a : Int) (b : Int) = ((a &&& b : Nat) : Int) := by
  have e : bits .and .u8 (a : Int) (b : Int) = IntKind.u8.wrap (((((a : Int) % 256).toNat &&& ((b : Int) % 256).toNat) : Nat) : Int) := by
    show IntKind.u8.wrap ((BitVec.ofInt 8 a &&& BitVec.ofInt 8 b).toNat : Int) = _
    rw [BitVec.toNat_and, BitVec.toNat_ofInt, BitVec.toNat_ofInt]
    rfl
  rw [e, Int.emod_eq_of_lt (by omega) (by omega), Int.emod_eq_of_lt (by omega) (by omega), Int.toNat_natCast, Int.toNat_natCast]
  have h : a &&& b ≤ a := Nat.and_le_left
  simp only [IntKind.wrap, IntKind.bits, IntKind.signed]
  simp
  omega
theorem and_flags : ∀ b, b < 64 → b &&& 1 = b % 2 ∧ b &&& 2 = 2 * (b / 2 % 2) ∧ b &&& 4 = 4 * (b / 4 % 2) ∧ b &&& 7 = b % 8 := by decide

theorem room_words : ∃ m, m = 70 ∧ ROOM = 4294967296 ^ m := by
  obtain ⟨m, hm⟩ : ∃ m, m = 70 := ⟨_, rfl⟩
  refine ⟨m, hm, ?_⟩
  have h : K2240 = 32 * m := by rw [hm]; rfl
  rw [room_eq, h, Nat.pow_mul]
theorem NatC.words {w : World} {a : Option Addr} {n c z : Nat} (h : NatC w a n c (z : Int)) (hz : z < ROOM) : n ≤ 70 := by
  obtain ⟨m, hm, h2⟩ := room_words
  rw [h2] at hz
  have h3 := Int.ofNat_lt.2 hz
  rw [Int.natCast_pow] at h3
  have := h.len (k := m) h3
  omega
/-- what a sum's value is -/
def IsVal (b : Nat) (z : Int) (v : Nat) : Prop := v < 18446744073709551616 ∧
  (((b % 2 = 1 ∨ (b / 2 % 2 = 1 ∧ b / 4 % 2 = 1)) ∧ INF < v % S63) ∨ (b % 2 = 0 ∧ b / 2 % 2 = 1 ∧ b / 4 % 2 = 0 ∧ v = INF) ∨ (b % 2 = 0 ∧ b / 2 % 2 = 0 ∧ b / 4 % 2 = 1 ∧ v = S63 + INF) ∨
   (b % 2 = 0 ∧ b / 2 % 2 = 0 ∧ b / 4 % 2 = 0 ∧ v = joinN (decide (z < 0) || decide (b = 8)) z.natAbs (-1074)))
theorem IsVal.one {b : Nat} {z : Int} {u v : Nat} (h : IsVal b z u) (k : IsVal b z v) : keyN u = keyN v := by
  obtain ⟨-, h⟩ := h
  obtain ⟨-, k⟩ := k
  rcases h with ⟨h1, h2⟩ | ⟨h1, h2, h3, h4⟩ | ⟨h1, h2, h3, h4⟩ | ⟨h1, h2, h3, h4⟩ <;> rcases k with ⟨k1, k2⟩ | ⟨k1, k2, k3, k4⟩ | ⟨k1, k2, k3, k4⟩ | ⟨k1, k2, k3, k4⟩ <;> try omega
  · rw [key_nan h2, key_nan k2]
  all_goals rw [h4, k4]
def RVal (b : Nat) (z : Int) (w : World) (e : Ending) (w' : World) : Prop := ∃ v, e = .returned (.float .f64 v) ∧ IsVal b z v ∧ Below w.heap.size w w'

set_option maxRecDepth 100000 in
set_option maxHeartbeats 8000000 in
theorem sumval_any (w : World) (g b : Nat) (z : Int) (hs : SumAt w g b z) (hz : z.natAbs < ROOM) (hb : b < 32) :
    Calls Try.prog 22 #[.pointer (some ⟨g, 0, none⟩)] w (RVal b z w) := by
  have HI := Lib.hid (sumis_any w g b z hs)
  obtain ⟨f1, f2, f4, -⟩ := and_flags b (by omega)
  have a1 : bits .and .u8 (b : Int) 1 = ((b % 2 : Nat) : Int) := by rw [← f1]; exact bits_and_u8 (b := 1) (by omega) (by omega)
  have a2 : bits .and .u8 (b : Int) 2 = ((2 * (b / 2 % 2) : Nat) : Int) := by rw [← f2]; exact bits_and_u8 (b := 2) (by omega) (by omega)
  have a4 : bits .and .u8 (b : Int) 4 = ((4 * (b / 4 % 2) : Nat) : Int) := by rw [← f4]; exact bits_and_u8 (b := 4) (by omega) (by omega)
  obtain ⟨a, n, c, hk, hN⟩ := hs
  have c1 : w.cell? ⟨g, 1, none⟩ = some (.int .u8 (b : Int)) := hk.cell 1
  have c2 : w.cell? ⟨g, 2, none⟩ = some (.bool (decide (z < 0))) := hk.cell 2
  have c3 : w.cell? ⟨g, 3, none⟩ = some (.slice a n c) := hk.cell 3
  have hg : g < w.heap.size := hk.lt
  have hl := hN.short2 hz
  have HN := Lib.hid hN
  have hNaN := Lib.hid (nan_any w)
  have hI1 := Lib.hid (inf_any 1 w)
  rw [if_pos (by decide)] at hI1
  have hI2 := Lib.hid (inf_any (-1) w)
  rw [if_neg (by decide)] at hI2
  have HJ : Hid (∀ (ng : Bool) (w : World), NatC w a n c ((z.natAbs : Nat) : Int) → Calls Try.prog 59 #[.bool ng, .slice a n c, .int .i64 (-1074)] w (RJoin (joinN ng z.natAbs (-1074)) w)) := Lib.hid (fun ng w h => by
    obtain ⟨xs, x1, x2, x3⟩ := h.row
    exact fjoin_any ng a n c xs z.natAbs (-1074) w x1 x2 x3 (by
      have h1 := h.words hz
      omega) (by omega) (by omega))
  clear hk hN hz f1 f2 f4 hl
  have h1 : b % 2 = 0 ∨ b % 2 = 1 := by omega
  have h2 : b / 2 % 2 = 0 ∨ b / 2 % 2 = 1 := by omega
  have h4 : b / 4 % 2 = 0 ∨ b / 4 % 2 = 1 := by omega
  have H8 := Lib.hid (show (((b : Int) == 8) = decide (b = 8)) from by rw [Bool.eq_iff_iff]; simp only [beq_iff_eq, decide_eq_true_eq]; omega)
  rcases h1 with h1 | h1 <;> rcases h2 with h2 | h2 <;> rcases h4 with h4 | h4
  all_goals
    rw [h1] at a1
    rw [h2] at a2
    rw [h4] at a4
    have H1 := Lib.hid h1
    have H2 := Lib.hid h2
    have H4 := Lib.hid h4
    clear h1 h2 h4
  · -- no flag
    rcases hz0 : decide (z < 0) with _ | _
    · rw [hz0] at c2
      have HZ0 := Lib.hid hz0
      have HJ := Lib.hid (fun w h => HJ.out (decide (b = 8)) w h)
      rw [← H8.out] at HJ
      clear hz0
      go_enter Try.func22, Try.ntmps22
      go_wp2_with fail
      refine HI.out.mono ?_; rintro e w1 ⟨rfl, rfl⟩
      go_wp2_with fail
      refine wp_regionL (fun w' => w'.cell? ⟨g, 1, none⟩ = some (.int .u8 (b : Int)) ∧ w'.cell? ⟨g, 2, none⟩ = some (.bool false) ∧ w'.cell? ⟨g, 3, none⟩ = some (.slice a n c)) 16 (by kernel_rfl) (by exact ⟨c1, c2, c3⟩) (fun hHeld => ?_)
      refine wpAnyL_take (i := 0) (oi := ⟨some 46, _, _, _, _, _⟩) (v := ?_) rfl (by kernel_rfl) (by kernel_rfl) (by kernel_rfl) (by kernel_rfl) (by kernel_rfl) (fun _ _ _ h => h) (Or.inl ⟨by rfl, ?_⟩) (by assumption) ?_
      rotate_left 1
      · (intro w hSw; (try dsimp only at hSw); go_simp; try with_reducible rfl)
      try simp only [Act.put, List.setIfInBounds_toArray, List.set_cons_zero, List.set_cons_succ]
      refine wpAnyL_take (i := 1) (oi := ⟨some 47, _, _, _, _, _⟩) (v := ?_) rfl (by kernel_rfl) (by kernel_rfl) (by kernel_rfl) (by kernel_rfl) (by kernel_rfl) (fun _ _ _ h => h) (Or.inl ⟨by rfl, ?_⟩) (by assumption) ?_
      rotate_left 1
      · (intro w hSw; (try dsimp only at hSw); go_simp; try with_reducible rfl)
      try simp only [Act.put, List.setIfInBounds_toArray, List.set_cons_zero, List.set_cons_succ]
      refine wpAnyL_take (i := 2) (oi := ⟨some 48, _, _, _, _, _⟩) (v := ?_) rfl (by kernel_rfl) (by kernel_rfl) (by kernel_rfl) (by kernel_rfl) (by kernel_rfl) (fun _ _ _ h => h) (Or.inl ⟨by rfl, ?_⟩) (by assumption) ?_
      rotate_left 1
      · (intro w hSw; (try dsimp only at hSw); go_simp; try with_reducible rfl)
      try simp only [Act.put, List.setIfInBounds_toArray, List.set_cons_zero, List.set_cons_succ]
      refine wpAnyL_take (i := 3) (oi := ⟨some 49, _, _, _, _, _⟩) (v := ?_) rfl (by kernel_rfl) (by kernel_rfl) (by kernel_rfl) (by kernel_rfl) (by kernel_rfl) (fun _ _ _ h => h) (Or.inl ⟨by rfl, ?_⟩) (by assumption) ?_
      rotate_left 1
      · (intro w hSw; (try dsimp only at hSw); go_simp; try with_reducible rfl)
      try simp only [Act.put, List.setIfInBounds_toArray, List.set_cons_zero, List.set_cons_succ]
      refine wpAnyL_take (i := 4) (oi := ⟨some 50, _, _, _, _, _⟩) (v := ?_) rfl (by kernel_rfl) (by kernel_rfl) (by kernel_rfl) (by kernel_rfl) (by kernel_rfl) (fun _ _ _ h => h) (Or.inl ⟨by rfl, ?_⟩) (by assumption) ?_
      rotate_left 1
      · (intro w hSw; (try dsimp only at hSw); go_simp; try with_reducible rfl)
      try simp only [Act.put, List.setIfInBounds_toArray, List.set_cons_zero, List.set_cons_succ]
      refine wpAnyL_take (i := 5) (oi := ⟨some 51, _, _, _, _, _⟩) (v := ?_) rfl (by kernel_rfl) (by kernel_rfl) (by kernel_rfl) (by kernel_rfl) (by kernel_rfl) (fun _ _ _ h => h) (Or.inl ⟨by rfl, ?_⟩) (by assumption) ?_
      rotate_left 1
      · (intro w hSw; (try dsimp only at hSw); go_simp; try with_reducible rfl)
      try simp only [Act.put, List.setIfInBounds_toArray, List.set_cons_zero, List.set_cons_succ]
      refine wpAnyL_take (i := 6) (oi := ⟨some 52, _, _, _, _, _⟩) (v := ?_) rfl (by kernel_rfl) (by kernel_rfl) (by kernel_rfl) (by kernel_rfl) (by kernel_rfl) (fun _ _ _ h => h) (Or.inl ⟨by rfl, ?_⟩) (by assumption) ?_
      rotate_left 1
      · (intro w hSw; (try dsimp only at hSw); go_simp; try with_reducible rfl)
      try simp only [Act.put, List.setIfInBounds_toArray, List.set_cons_zero, List.set_cons_succ]
      refine wpAnyL_take (i := 7) (oi := ⟨some 53, _, _, _, _, _⟩) (v := ?_) rfl (by kernel_rfl) (by kernel_rfl) (by kernel_rfl) (by kernel_rfl) (by kernel_rfl) (fun _ _ _ h => h) (Or.inl ⟨by rfl, ?_⟩) (by assumption) ?_
      rotate_left 1
      · (intro w hSw; (try dsimp only at hSw); go_simp; try with_reducible rfl)
      try simp only [Act.put, List.setIfInBounds_toArray, List.set_cons_zero, List.set_cons_succ]
      refine wpAnyL_take (i := 8) (oi := ⟨some 54, _, _, _, _, _⟩) (v := ?_) rfl (by kernel_rfl) (by kernel_rfl) (by kernel_rfl) (by kernel_rfl) (by kernel_rfl) (fun _ _ _ h => h) (Or.inl ⟨by rfl, ?_⟩) (by assumption) ?_
      rotate_left 1
      · (intro w hSw; (try dsimp only at hSw); go_simp; try with_reducible rfl)
      try simp only [Act.put, List.setIfInBounds_toArray, List.set_cons_zero, List.set_cons_succ]
      refine wpAnyL_take (i := 9) (oi := ⟨some 55, _, _, _, _, _⟩) (v := ?_) rfl (by kernel_rfl) (by kernel_rfl) (by kernel_rfl) (by kernel_rfl) (by kernel_rfl) (fun _ _ _ h => h) (Or.inl ⟨by rfl, ?_⟩) (by assumption) ?_
      rotate_left 1
      · (intro w hSw; (try dsimp only at hSw); go_simp; try with_reducible rfl)
      try simp only [Act.put, List.setIfInBounds_toArray, List.set_cons_zero, List.set_cons_succ]
      refine wpAnyL_take (i := 10) (oi := ⟨some 56, _, _, _, _, _⟩) (v := ?_) rfl (by kernel_rfl) (by kernel_rfl) (by kernel_rfl) (by kernel_rfl) (by kernel_rfl) (fun _ _ _ h => h) (Or.inl ⟨by rfl, ?_⟩) (by assumption) ?_
      rotate_left 1
      · (intro w hSw; (try dsimp only at hSw); go_simp; try with_reducible rfl)
      try simp only [Act.put, List.setIfInBounds_toArray, List.set_cons_zero, List.set_cons_succ]
      refine wpAnyL_take (i := 11) (oi := ⟨some 57, _, _, _, _, _⟩) (v := ?_) rfl (by kernel_rfl) (by kernel_rfl) (by kernel_rfl) (by kernel_rfl) (by kernel_rfl) (fun _ _ _ h => h) (Or.inl ⟨by rfl, ?_⟩) (by assumption) ?_
      rotate_left 1
      · (intro w hSw; (try dsimp only at hSw); go_simp; try with_reducible rfl)
      try simp only [Act.put, List.setIfInBounds_toArray, List.set_cons_zero, List.set_cons_succ]
      refine wpAnyL_take (i := 12) (oi := ⟨some 58, _, _, _, _, _⟩) (v := ?_) rfl (by kernel_rfl) (by kernel_rfl) (by kernel_rfl) (by kernel_rfl) (by kernel_rfl) (fun _ _ _ h => h) (Or.inl ⟨by rfl, ?_⟩) (by assumption) ?_
      rotate_left 1
      · (intro w hSw; (try dsimp only at hSw); go_simp; try with_reducible rfl)
      try simp only [Act.put, List.setIfInBounds_toArray, List.set_cons_zero, List.set_cons_succ]
      refine wpAnyL_take (i := 13) (oi := ⟨some 59, _, _, _, _, _⟩) (v := ?_) rfl (by kernel_rfl) (by kernel_rfl) (by kernel_rfl) (by kernel_rfl) (by kernel_rfl) (fun _ _ _ h => h) (Or.inl ⟨by rfl, ?_⟩) (by assumption) ?_
      rotate_left 1
      · (intro w hSw; (try dsimp only at hSw); go_simp; try with_reducible rfl)
      try simp only [Act.put, List.setIfInBounds_toArray, List.set_cons_zero, List.set_cons_succ]
      refine wpAnyL_take (i := 14) (oi := ⟨some 60, _, _, _, _, _⟩) (v := ?_) rfl (by kernel_rfl) (by kernel_rfl) (by kernel_rfl) (by kernel_rfl) (by kernel_rfl) (fun _ _ _ h => h) (Or.inl ⟨by rfl, ?_⟩) (by assumption) ?_
      rotate_left 1
      · (intro w hSw; (try dsimp only at hSw); go_simp; try with_reducible rfl)
      try simp only [Act.put, List.setIfInBounds_toArray, List.set_cons_zero, List.set_cons_succ]
      refine wpAnyL_one (i := 15) (o := ⟨some 61, _, _, _, _, _⟩) (by kernel_rfl) rfl (fun K hK => ?_)
      go_simp
      refine (HJ.out _ (HN.out.below ((Below.refl _ _).drew) (Nat.le_refl _))).mono ?_
      rintro e w2 ⟨rfl, hb2⟩
      have hB2 := ((Below.refl w.heap.size w).drew).trans (hb2.mono (by exact Nat.le_refl _))
      have w21 : w2.cell? ⟨g, 1, none⟩ = some (.int .u8 (b : Int)) := by rw [(bcell hB2).1 _ _ hg]; exact c1
      have w22 : w2.cell? ⟨g, 2, none⟩ = some (.bool false) := by rw [(bcell hB2).1 _ _ hg]; exact c2
      have w23 : w2.cell? ⟨g, 3, none⟩ = some (.slice a n c) := by rw [(bcell hB2).1 _ _ hg]; exact c3
      refine hK.out _ _ (by exact ⟨w21, w22, w23⟩) ?_
      clear hK K hHeld
      intro hHeld
      try simp only [Act.put, List.setIfInBounds_toArray, List.set_cons_zero, List.set_cons_succ]
      refine wpAnyL_last (o := ⟨some 2, _, _, _, _, _⟩) (by kernel_rfl) (by kernel_rfl) rfl (fun K hK => ?_)
      go_simp
      refine hK _ _ ?_
      clear hK K hHeld
      try simp only [Act.put, List.setIfInBounds_toArray, List.set_cons_zero, List.set_cons_succ]
      go_wp2_with fail
      go_ret
      refine ⟨_, rfl, ⟨join_lt0 _ _ _, .inr (.inr (.inr ⟨H1.out, H2.out, H4.out, ?_⟩))⟩, hB2⟩
      rw [HZ0.out, H8.out, Bool.false_or]
    · rw [hz0] at c2
      have HZ0 := Lib.hid hz0
      have HJ := Lib.hid (fun w h => HJ.out true w h)
      clear hz0
      go_enter Try.func22, Try.ntmps22
      go_wp2_with fail
      refine HI.out.mono ?_; rintro e w1 ⟨rfl, rfl⟩
      go_wp2_with fail
      refine wp_regionL (fun w' => w'.cell? ⟨g, 1, none⟩ = some (.int .u8 (b : Int)) ∧ w'.cell? ⟨g, 2, none⟩ = some (.bool true) ∧ w'.cell? ⟨g, 3, none⟩ = some (.slice a n c)) 16 (by kernel_rfl) (by exact ⟨c1, c2, c3⟩) (fun hHeld => ?_)
      refine wpAnyL_take (i := 0) (oi := ⟨some 46, _, _, _, _, _⟩) (v := ?_) rfl (by kernel_rfl) (by kernel_rfl) (by kernel_rfl) (by kernel_rfl) (by kernel_rfl) (fun _ _ _ h => h) (Or.inl ⟨by rfl, ?_⟩) (by assumption) ?_
      rotate_left 1
      · (intro w hSw; (try dsimp only at hSw); go_simp; try with_reducible rfl)
      try simp only [Act.put, List.setIfInBounds_toArray, List.set_cons_zero, List.set_cons_succ]
      refine wpAnyL_take (i := 1) (oi := ⟨some 47, _, _, _, _, _⟩) (v := ?_) rfl (by kernel_rfl) (by kernel_rfl) (by kernel_rfl) (by kernel_rfl) (by kernel_rfl) (fun _ _ _ h => h) (Or.inl ⟨by rfl, ?_⟩) (by assumption) ?_
      rotate_left 1
      · (intro w hSw; (try dsimp only at hSw); go_simp; try with_reducible rfl)
      try simp only [Act.put, List.setIfInBounds_toArray, List.set_cons_zero, List.set_cons_succ]
      refine wpAnyL_take (i := 2) (oi := ⟨some 48, _, _, _, _, _⟩) (v := ?_) rfl (by kernel_rfl) (by kernel_rfl) (by kernel_rfl) (by kernel_rfl) (by kernel_rfl) (fun _ _ _ h => h) (Or.inl ⟨by rfl, ?_⟩) (by assumption) ?_
      rotate_left 1
      · (intro w hSw; (try dsimp only at hSw); go_simp; try with_reducible rfl)
      try simp only [Act.put, List.setIfInBounds_toArray, List.set_cons_zero, List.set_cons_succ]
      refine wpAnyL_take (i := 3) (oi := ⟨some 49, _, _, _, _, _⟩) (v := ?_) rfl (by kernel_rfl) (by kernel_rfl) (by kernel_rfl) (by kernel_rfl) (by kernel_rfl) (fun _ _ _ h => h) (Or.inl ⟨by rfl, ?_⟩) (by assumption) ?_
      rotate_left 1
      · (intro w hSw; (try dsimp only at hSw); go_simp; try with_reducible rfl)
      try simp only [Act.put, List.setIfInBounds_toArray, List.set_cons_zero, List.set_cons_succ]
      refine wpAnyL_take (i := 4) (oi := ⟨some 50, _, _, _, _, _⟩) (v := ?_) rfl (by kernel_rfl) (by kernel_rfl) (by kernel_rfl) (by kernel_rfl) (by kernel_rfl) (fun _ _ _ h => h) (Or.inl ⟨by rfl, ?_⟩) (by assumption) ?_
      rotate_left 1
      · (intro w hSw; (try dsimp only at hSw); go_simp; try with_reducible rfl)
      try simp only [Act.put, List.setIfInBounds_toArray, List.set_cons_zero, List.set_cons_succ]
      refine wpAnyL_take (i := 5) (oi := ⟨some 51, _, _, _, _, _⟩) (v := undef) rfl (by kernel_rfl) (by kernel_rfl) (by kernel_rfl) (by kernel_rfl) (by kernel_rfl) (fun _ _ _ h => h) (Or.inr ⟨by rfl, rfl⟩) (by assumption) ?_
      try simp only [Act.put, List.setIfInBounds_toArray, List.set_cons_zero, List.set_cons_succ]
      refine wpAnyL_take (i := 6) (oi := ⟨some 52, _, _, _, _, _⟩) (v := undef) rfl (by kernel_rfl) (by kernel_rfl) (by kernel_rfl) (by kernel_rfl) (by kernel_rfl) (fun _ _ _ h => h) (Or.inr ⟨by rfl, rfl⟩) (by assumption) ?_
      try simp only [Act.put, List.setIfInBounds_toArray, List.set_cons_zero, List.set_cons_succ]
      refine wpAnyL_take (i := 7) (oi := ⟨some 53, _, _, _, _, _⟩) (v := undef) rfl (by kernel_rfl) (by kernel_rfl) (by kernel_rfl) (by kernel_rfl) (by kernel_rfl) (fun _ _ _ h => h) (Or.inr ⟨by rfl, rfl⟩) (by assumption) ?_
      try simp only [Act.put, List.setIfInBounds_toArray, List.set_cons_zero, List.set_cons_succ]
      refine wpAnyL_take (i := 8) (oi := ⟨some 54, _, _, _, _, _⟩) (v := undef) rfl (by kernel_rfl) (by kernel_rfl) (by kernel_rfl) (by kernel_rfl) (by kernel_rfl) (fun _ _ _ h => h) (Or.inr ⟨by rfl, rfl⟩) (by assumption) ?_
      try simp only [Act.put, List.setIfInBounds_toArray, List.set_cons_zero, List.set_cons_succ]
      refine wpAnyL_take (i := 9) (oi := ⟨some 55, _, _, _, _, _⟩) (v := undef) rfl (by kernel_rfl) (by kernel_rfl) (by kernel_rfl) (by kernel_rfl) (by kernel_rfl) (fun _ _ _ h => h) (Or.inr ⟨by rfl, rfl⟩) (by assumption) ?_
      try simp only [Act.put, List.setIfInBounds_toArray, List.set_cons_zero, List.set_cons_succ]
      refine wpAnyL_take (i := 10) (oi := ⟨some 56, _, _, _, _, _⟩) (v := ?_) rfl (by kernel_rfl) (by kernel_rfl) (by kernel_rfl) (by kernel_rfl) (by kernel_rfl) (fun _ _ _ h => h) (Or.inl ⟨by rfl, ?_⟩) (by assumption) ?_
      rotate_left 1
      · (intro w hSw; (try dsimp only at hSw); go_simp; try with_reducible rfl)
      try simp only [Act.put, List.setIfInBounds_toArray, List.set_cons_zero, List.set_cons_succ]
      refine wpAnyL_take (i := 11) (oi := ⟨some 57, _, _, _, _, _⟩) (v := ?_) rfl (by kernel_rfl) (by kernel_rfl) (by kernel_rfl) (by kernel_rfl) (by kernel_rfl) (fun _ _ _ h => h) (Or.inl ⟨by rfl, ?_⟩) (by assumption) ?_
      rotate_left 1
      · (intro w hSw; (try dsimp only at hSw); go_simp; try with_reducible rfl)
      try simp only [Act.put, List.setIfInBounds_toArray, List.set_cons_zero, List.set_cons_succ]
      refine wpAnyL_take (i := 12) (oi := ⟨some 58, _, _, _, _, _⟩) (v := ?_) rfl (by kernel_rfl) (by kernel_rfl) (by kernel_rfl) (by kernel_rfl) (by kernel_rfl) (fun _ _ _ h => h) (Or.inl ⟨by rfl, ?_⟩) (by assumption) ?_
      rotate_left 1
      · (intro w hSw; (try dsimp only at hSw); go_simp; try with_reducible rfl)
      try simp only [Act.put, List.setIfInBounds_toArray, List.set_cons_zero, List.set_cons_succ]
      refine wpAnyL_take (i := 13) (oi := ⟨some 59, _, _, _, _, _⟩) (v := ?_) rfl (by kernel_rfl) (by kernel_rfl) (by kernel_rfl) (by kernel_rfl) (by kernel_rfl) (fun _ _ _ h => h) (Or.inl ⟨by rfl, ?_⟩) (by assumption) ?_
      rotate_left 1
      · (intro w hSw; (try dsimp only at hSw); go_simp; try with_reducible rfl)
      try simp only [Act.put, List.setIfInBounds_toArray, List.set_cons_zero, List.set_cons_succ]
      refine wpAnyL_take (i := 14) (oi := ⟨some 60, _, _, _, _, _⟩) (v := ?_) rfl (by kernel_rfl) (by kernel_rfl) (by kernel_rfl) (by kernel_rfl) (by kernel_rfl) (fun _ _ _ h => h) (Or.inl ⟨by rfl, ?_⟩) (by assumption) ?_
      rotate_left 1
      · (intro w hSw; (try dsimp only at hSw); go_simp; try with_reducible rfl)
      try simp only [Act.put, List.setIfInBounds_toArray, List.set_cons_zero, List.set_cons_succ]
      refine wpAnyL_one (i := 15) (o := ⟨some 61, _, _, _, _, _⟩) (by kernel_rfl) rfl (fun K hK => ?_)
      go_simp
      refine (HJ.out _ (HN.out.below ((Below.refl _ _).drew) (Nat.le_refl _))).mono ?_
      rintro e w2 ⟨rfl, hb2⟩
      have hB2 := ((Below.refl w.heap.size w).drew).trans (hb2.mono (by exact Nat.le_refl _))
      have w21 : w2.cell? ⟨g, 1, none⟩ = some (.int .u8 (b : Int)) := by rw [(bcell hB2).1 _ _ hg]; exact c1
      have w22 : w2.cell? ⟨g, 2, none⟩ = some (.bool true) := by rw [(bcell hB2).1 _ _ hg]; exact c2
      have w23 : w2.cell? ⟨g, 3, none⟩ = some (.slice a n c) := by rw [(bcell hB2).1 _ _ hg]; exact c3
      refine hK.out _ _ (by exact ⟨w21, w22, w23⟩) ?_
      clear hK K hHeld
      intro hHeld
      try simp only [Act.put, List.setIfInBounds_toArray, List.set_cons_zero, List.set_cons_succ]
      refine wpAnyL_last (o := ⟨some 2, _, _, _, _, _⟩) (by kernel_rfl) (by kernel_rfl) rfl (fun K hK => ?_)
      go_simp
      refine hK _ _ ?_
      clear hK K hHeld
      try simp only [Act.put, List.setIfInBounds_toArray, List.set_cons_zero, List.set_cons_succ]
      go_wp2_with fail
      go_ret
      refine ⟨_, rfl, ⟨join_lt0 _ _ _, .inr (.inr (.inr ⟨H1.out, H2.out, H4.out, ?_⟩))⟩, hB2⟩
      rw [HZ0.out, Bool.true_or]
  · go_enter Try.func22, Try.ntmps22
    go_wp2_with fail
    refine HI.out.mono ?_; rintro e w1 ⟨rfl, rfl⟩
    go_wp2_with fail
    refine hI2.out.mono ?_; rintro e w1 ⟨rfl, rfl⟩
    go_wp2_with fail
    go_ret
    exact ⟨_, rfl, ⟨by decide, .inr (.inr (.inl ⟨H1.out, H2.out, H4.out, rfl⟩))⟩, Below.refl _ _⟩
  · go_enter Try.func22, Try.ntmps22
    go_wp2_with fail
    refine HI.out.mono ?_; rintro e w1 ⟨rfl, rfl⟩
    go_wp2_with fail
    refine hI1.out.mono ?_; rintro e w1 ⟨rfl, rfl⟩
    go_wp2_with fail
    go_ret
    exact ⟨_, rfl, ⟨by decide, .inr (.inl ⟨H1.out, H2.out, H4.out, rfl⟩)⟩, Below.refl _ _⟩
  · go_enter Try.func22, Try.ntmps22
    go_wp2_with fail
    refine HI.out.mono ?_; rintro e w1 ⟨rfl, rfl⟩
    go_wp2_with fail
    refine hNaN.out.mono ?_; rintro e w1 ⟨rfl, rfl⟩
    go_wp2_with fail
    go_ret
    exact ⟨_, rfl, ⟨by decide, .inl ⟨.inr ⟨H2.out, H4.out⟩, by decide⟩⟩, Below.refl _ _⟩
  · go_enter Try.func22, Try.ntmps22
    go_wp2_with fail
    refine HI.out.mono ?_; rintro e w1 ⟨rfl, rfl⟩
    go_wp2_with fail
    refine hNaN.out.mono ?_; rintro e w1 ⟨rfl, rfl⟩
    go_wp2_with fail
    go_ret
    exact ⟨_, rfl, ⟨by decide, .inl ⟨.inl H1.out, by decide⟩⟩, Below.refl _ _⟩
  · go_enter Try.func22, Try.ntmps22
    go_wp2_with fail
    refine HI.out.mono ?_; rintro e w1 ⟨rfl, rfl⟩
    go_wp2_with fail
    refine hNaN.out.mono ?_; rintro e w1 ⟨rfl, rfl⟩
    go_wp2_with fail
    go_ret
    exact ⟨_, rfl, ⟨by decide, .inl ⟨.inl H1.out, by decide⟩⟩, Below.refl _ _⟩
  · go_enter Try.func22, Try.ntmps22
    go_wp2_with fail
    refine HI.out.mono ?_; rintro e w1 ⟨rfl, rfl⟩
    go_wp2_with fail
    refine hNaN.out.mono ?_; rintro e w1 ⟨rfl, rfl⟩
    go_wp2_with fail
    go_ret
    exact ⟨_, rfl, ⟨by decide, .inl ⟨.inl H1.out, by decide⟩⟩, Below.refl _ _⟩
  · go_enter Try.func22, Try.ntmps22
    go_wp2_with fail
    refine HI.out.mono ?_; rintro e w1 ⟨rfl, rfl⟩
    go_wp2_with fail
    refine hNaN.out.mono ?_; rintro e w1 ⟨rfl, rfl⟩
    go_wp2_with fail
    go_ret
    exact ⟨_, rfl, ⟨by decide, .inl ⟨.inl H1.out, by decide⟩⟩, Below.refl _ _⟩
end Go.Proofs.Ytgdddpbdcdheeaa
