/- What the walks say of slices of integers in memory, and plain lemmas on it. No conditions but those stated. -/
import Derived.Test.YtnbhcemgoifkgaaProg
import Derived.WalkKit
import Derived.ProofKit
import Derived.Lib.Hide
import Derived.WalkSmall
import Derived.Deep.LoopGhost
import Derived.Deep.QuietTactic
import Derived.BigQuiet
import Derived.Deep.RegionHeld3
import Derived.Test.YtnbhcemgoifkgaaDigits
namespace Go.Proofs.Ytnbhcemgoifkgaa
open Go.RowKit

theorem ret_int {k : IntKind} {a b : Int} (h : a = b) : Ending.returned (.int k a) = .returned (.int k b) := by rw [h]
theorem ret_ib {k : IntKind} {a b : Int} {x y : Bool} (h : a = b) (h' : x = y) : Ending.returned (.tuple #[.int k a, .bool x]) = .returned (.tuple #[.int k b, .bool y]) := by rw [h, h']
theorem ret_iib {k l : IntKind} {a b c d : Int} {x y : Bool} (h : a = b) (h1 : c = d) (h' : x = y) : Ending.returned (.tuple #[.int k a, .int l c, .bool x]) = .returned (.tuple #[.int k b, .int l d, .bool y]) := by rw [h, h1, h']
theorem ret_bool {x y : Bool} (h : x = y) : Ending.returned (.bool x) = .returned (.bool y) := by rw [h]

/-- the slice (a, n, cap) holds the numbers xs of kind k -/
def RowK (k : IntKind) (w : World) (a : Option Addr) (n cap : Nat) (xs : List Int) : Prop :=
  xs.length = n ∧ n ≤ cap ∧ cap ≤ maxLen ∧ (cap = 0 ∨ ∃ b off, a = some ⟨b, off, none⟩ ∧ b < w.heap.size ∧ ∀ i, i < n → w.cell? ⟨b, off + i, none⟩ = some (.int k (xs.getD i 0)))

theorem RowK.below {k : IntKind} {w w' : World} {a : Option Addr} {n cap : Nat} {xs : List Int} {B : Nat} (h : RowK k w a n cap xs) (hb : Below B w w') (hB : w.heap.size ≤ B) : RowK k w' a n cap xs := by
  obtain ⟨h1, h2, h3, h4⟩ := h
  refine ⟨h1, h2, h3, ?_⟩
  rcases h4 with h4 | ⟨b, off, e, hlt, hc⟩
  · exact .inl h4
  · refine .inr ⟨b, off, e, by have := hb.size; omega, fun i hi => ?_⟩
    rw [hb.cell (p := ⟨b, off + i, none⟩) (by show b < B; omega)]
    exact hc i hi

/-- what the rows' shells say of a slice of integers that came in -/
def IsRow (k : IntKind) (w : World) (a : Option Addr) (len cap : Nat) (zs : List Int) : Prop :=
  (a = none ∧ len = 0 ∧ cap = 0 ∧ zs = []) ∨
  ∃ x, a = some x ∧ len ≤ cap ∧ cap ≤ maxLen ∧ zs.length = cap ∧ (∀ i, i < zs.length → w.cell? (x.add i) = some (.int k (zs.getD i 0))) ∧ ∀ n ∈ zs, (Lit.int k n).wf = true

theorem IsRow.row {k : IntKind} {w : World} {a : Option Addr} {n cap : Nat} {zs : List Int} (h : IsRow k w a n cap zs) : RowK k w a n cap (zs.take n) := by
  rcases h with ⟨rfl, rfl, rfl, rfl⟩ | ⟨x, rfl, hl, hm, hz, hcell, _⟩
  · exact ⟨rfl, Nat.le_refl _, Nat.zero_le _, .inl rfl⟩
  · refine ⟨by rw [List.length_take]; omega, hl, hm, ?_⟩
    by_cases h0 : cap = 0
    · exact .inl h0
    · obtain ⟨b, off, spot⟩ := x
      have hc := hcell 0 (by omega)
      have hspot : spot = none := by simpa [Addr.add] using World.cell?_spot hc
      subst hspot
      refine .inr ⟨b, off, rfl, World.block_lt_of_cell? w _ hc, fun i hi => ?_⟩
      have := hcell i (by omega)
      rw [getD_take hi]
      by_cases hi0 : i = 0
      · subst hi0; simpa [Addr.add] using this
      · simpa [Addr.add, hi0] using this

theorem RowK.nil {k : IntKind} {w : World} : RowK k w none 0 0 [] := ⟨rfl, Nat.le_refl _, Nat.zero_le _, .inl rfl⟩

/-- the first m of them -/
theorem RowK.take {k : IntKind} {w : World} {a : Option Addr} {n cap : Nat} {xs : List Int} (h : RowK k w a n cap xs) {m : Nat} (hm : m ≤ n) : RowK k w a m cap (xs.take m) := by
  obtain ⟨h1, h2, h3, h4⟩ := h
  refine ⟨by rw [List.length_take]; omega, by omega, h3, ?_⟩
  rcases h4 with h4 | ⟨b, off, e, hlt, hc⟩
  · exact .inl h4
  · refine .inr ⟨b, off, e, hlt, fun i hi => ?_⟩
    rw [hc i (by omega), getD_take (by omega)]

/-- a cell that holds no number of kind k is none of the row's: a store into it leaves the row -/
theorem RowK.set {k : IntKind} {w : World} {a : Option Addr} {n cap : Nat} {xs : List Int} (h : RowK k w a n cap xs) {p : Addr} {u : Value} (hu : w.cell? p = some u) (hn : ∀ m, u ≠ .int k m) (v : Value) : RowK k (w.setCell p v) a n cap xs := by
  obtain ⟨h1, h2, h3, h4⟩ := h
  refine ⟨h1, h2, h3, ?_⟩
  rcases h4 with h4 | ⟨b, off, e, hlt, hc⟩
  · exact .inl h4
  · refine .inr ⟨b, off, e, by simpa [World.setCell] using hlt, fun i hi => ?_⟩
    rw [World.cell?_setCell_other]
    · exact hc i hi
    · intro e
      have := hc i hi
      rw [← e, hu] at this
      exact hn _ (Option.some.inj this)

theorem RowK.of_own {k : IntKind} {w : World} {base : Nat} {e : TypeId} {v : Value} {n : Nat} {xs : List Int} (h : w.ownsRow base e 1 v n (xs.map (Value.int k))) : ∃ a cap, v = .slice a n cap ∧ RowK k w a n cap xs := by
  obtain ⟨h1, h2⟩ := h
  have hl : xs.length = n := by simpa using h1
  rcases h2 with ⟨rfl, rfl⟩ | ⟨g, cap, cur, rfl, hb, hg, hn, hm, hs, ht⟩
  · exact ⟨none, 0, rfl, hl, Nat.le_refl _, Nat.zero_le _, .inl rfl⟩
  · refine ⟨_, cap, rfl, hl, hn, hm, .inr ⟨g, 0, rfl, (Array.getElem?_eq_some_iff.1 hg).1, fun i hi => ?_⟩⟩
    rw [Nat.zero_add, cell_of_row w g i cur e (0, 0) hg]
    have h3 : (cur.toList.take (n * 1))[i]? = (xs.map (Value.int k))[i]? := by rw [ht]
    rw [List.getElem?_take_of_lt (by omega)] at h3
    rw [← Array.getElem?_toList, h3, List.getElem?_map, List.getD_eq_getElem?_getD, List.getElem?_eq_getElem (by omega)]
    rfl

/-- all old cells and marks, as the walk wants them -/
theorem bcell {W w1 : World} {B : Nat} (hb : Below B W w1) : (∀ b o, b < B → w1.cell? ⟨b, o, none⟩ = W.cell? ⟨b, o, none⟩) ∧ (∀ b o, b < B → w1.frozen? ⟨b, o, none⟩ = W.frozen? ⟨b, o, none⟩) :=
  ⟨fun b o h => hb.cell (p := ⟨b, o, none⟩) h, fun b o h => hb.frozen (p := ⟨b, o, none⟩) h⟩
end Go.Proofs.Ytnbhcemgoifkgaa
