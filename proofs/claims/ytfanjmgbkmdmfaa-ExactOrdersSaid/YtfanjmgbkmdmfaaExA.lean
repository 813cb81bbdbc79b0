/- What package exact's sums are in memory; contracts of its New, is and put. Conditions: below 2^2240 units. -/
import Derived.Test.YtfanjmgbkmdmfaaRatK
namespace Go.Proofs.Ytfanjmgbkmdmfaa
open Go.RowKit Ieee

/-- no block but g, of those that were there, has changed -/
structure But (g : Nat) (w w' : World) : Prop where
  os : w'.os = w.os
  tape : w'.tape = w.tape
  output : w'.output = w.output
  size : w.heap.size ≤ w'.heap.size
  block : ∀ k, k < w.heap.size → k ≠ g → w'.heap[k]? = w.heap[k]?
theorem But.refl (g : Nat) (w : World) : But g w w := ⟨rfl, rfl, rfl, Nat.le_refl _, fun _ _ _ => rfl⟩
theorem But.trans {g : Nat} {a b c : World} (h : But g a b) (k : But g b c) : But g a c :=
  ⟨k.os.trans h.os, k.tape.trans h.tape, k.output.trans h.output, Nat.le_trans h.size k.size, fun i hi hg => (k.block i (Nat.lt_of_lt_of_le hi h.size) hg).trans (h.block i hi hg)⟩
theorem But.of {g : Nat} {w w' : World} (h : Below w.heap.size w w') : But g w w' := ⟨h.os, h.tape, h.output, h.size, fun k hk _ => h.block k hk⟩
theorem But.setCell {g : Nat} {a w : World} (h : But g a w) (i : Nat) (v : Value) : But g a (w.setCell ⟨g, i, none⟩ v) :=
  h.trans ⟨rfl, rfl, rfl, by simp [World.setCell], fun k _ hg => Below.heap_setCell _ _ _ _ hg⟩
theorem But.below {g B : Nat} {w w' : World} (h : But g w w') (hg : B ≤ g) (hB : B ≤ w.heap.size) : Below B w w' := ⟨h.os, h.tape, h.output, h.size, fun k hk => h.block k (by omega) (by omega)⟩
theorem But.blk {g k : Nat} {w w' : World} {t : TypeId} {cs : Array Value} (h : But g w w') (hk : Blk w k t cs) (hg : k ≠ g) : Blk w' k t cs := by
  show w'.heap[k]? = _
  rw [h.block k hk.lt hg]; exact hk
theorem But.cell {g b o : Nat} {w w' : World} (h : But g w w') (hb : b < w.heap.size) (hg : b ≠ g) : w'.cell? ⟨b, o, none⟩ = w.cell? ⟨b, o, none⟩ := by
  simp only [World.cell?, h.block b hb hg]

/-- a sum's cells -/
def sumCells (b : Nat) (neg : Bool) (a : Option Addr) (n c : Nat) : Array Value := #[.bool true, .int .u8 (b : Int), .bool neg, .slice a n c]
theorem RowK.but {w w' : World} {a : Option Addr} {n c g b l q : Nat} {neg : Bool} {A : Option Addr} {xs : List Int} {t : TypeId} (h : RowK .u32 w a n c xs) (hk : Blk w g t (sumCells b neg A l q)) (hb : But g w w') : RowK .u32 w' a n c xs := by
  obtain ⟨h1, h2, h3, h4⟩ := h
  refine ⟨h1, h2, h3, ?_⟩
  rcases h4 with h4 | ⟨bb, off, rfl, hlt, hc⟩
  · exact .inl h4
  · refine .inr ⟨bb, off, rfl, Nat.lt_of_lt_of_le hlt hb.size, fun i hi => ?_⟩
    by_cases hg : bb = g
    · subst hg
      have h5 := hc i hi
      rw [hk.cell] at h5
      have h6 : off + i = 0 ∨ off + i = 1 ∨ off + i = 2 ∨ off + i = 3 ∨ 4 ≤ off + i := by omega
      rcases h6 with h6 | h6 | h6 | h6 | h6
      · rw [h6] at h5; cases h5
      · rw [h6] at h5; cases h5
      · rw [h6] at h5; cases h5
      · rw [h6] at h5; cases h5
      · rw [Array.getElem?_eq_none (by simp [sumCells]; omega)] at h5; cases h5
    · rw [hb.cell hlt hg]
      exact hc i hi
theorem NatC.but {w w' : World} {a : Option Addr} {n c g b l q : Nat} {z : Int} {neg : Bool} {A : Option Addr} {t : TypeId} (h : NatC w a n c z) (hk : Blk w g t (sumCells b neg A l q)) (hb : But g w w') : NatC w' a n c z := by
  obtain ⟨xs, h1, h2, h3, h4⟩ := h
  exact ⟨xs, h1.but hk hb, h2, h3, h4⟩

def K2240 : Nat := 2240
/-- block g is a sum: the kinds b that came, z units -/
def SumAt (w : World) (g : Nat) (b : Nat) (z : Int) : Prop :=
  ∃ a n c, Blk w g 72 (sumCells b (decide (z < 0)) a n c) ∧ NatC w a n c ((z.natAbs : Nat) : Int)
theorem SumAt.lt {w : World} {g b : Nat} {z : Int} (h : SumAt w g b z) : g < w.heap.size := by
  obtain ⟨a, n, c, h, -⟩ := h
  exact h.lt
theorem SumAt.below {w w' : World} {g b B : Nat} {z : Int} (h : SumAt w g b z) (hb : Below B w w') (hB : w.heap.size ≤ B) : SumAt w' g b z := by
  obtain ⟨a, n, c, h1, h2⟩ := h
  exact ⟨a, n, c, h1.below hb (Nat.lt_of_lt_of_le h1.lt hB), h2.below hb hB⟩
/-- another sum stays -/
theorem SumAt.other {w w' : World} {g k b d : Nat} {z y : Int} (h : SumAt w k d y) (hs : SumAt w g b z) (hb : But g w w') (hg : k ≠ g) : SumAt w' k d y := by
  obtain ⟨a, n, c, h1, h2⟩ := h
  obtain ⟨a', n', c', h1', -⟩ := hs
  exact ⟨a, n, c, hb.blk h1 hg, h2.but h1' hb⟩

theorem sumis_any (w : World) (g b : Nat) (z : Int) (h : SumAt w g b z) :
    Calls Try.prog 74 #[.pointer (some ⟨g, 0, none⟩)] w fun e w' => e = .returned (.bool true) ∧ w = w' := by
  obtain ⟨a, n, c, h1, -⟩ := h
  have c0 : w.cell? ⟨g, 0, none⟩ = some (.bool true) := h1.cell 0
  clear h1
  go_enter Try.func74, Try.ntmps74
  go_wp2_with fail
  go_ret
  exact ⟨rfl, rfl⟩
theorem sumis_nil (w : World) :
    Calls Try.prog 74 #[.pointer none] w fun e w' => e = .returned (.bool false) ∧ w = w' := by
  go_enter Try.func74, Try.ntmps74
  go_wp2_with fail
  go_ret
  exact ⟨rfl, rfl⟩
theorem sumis_not (w : World) (g : Nat) (h : w.cell? ⟨g, 0, none⟩ = some (.bool false)) :
    Calls Try.prog 74 #[.pointer (some ⟨g, 0, none⟩)] w fun e w' => e = .returned (.bool false) ∧ w = w' := by
  go_enter Try.func74, Try.ntmps74
  go_wp2_with fail
  go_ret
  exact ⟨rfl, rfl⟩
theorem sumnew_any (w : World) :
    Calls Try.prog 26 #[] w fun e w' => e = .returned (.pointer (some ⟨w.heap.size, 0, none⟩)) ∧ SumAt w' w.heap.size 0 0 ∧ Below w.heap.size w w' := by
  go_enter Try.func26, Try.ntmps26
  go_wp2_with fail
  go_ret
  refine ⟨rfl, ⟨none, 0, 0, Blk.new _ _ _, ⟨[], RowK.nil, Dig.nil, .inl rfl, rfl⟩⟩, (Below.refl _ _).alloc (Nat.le_refl _) _⟩
end Go.Proofs.Ytfanjmgbkmdmfaa
