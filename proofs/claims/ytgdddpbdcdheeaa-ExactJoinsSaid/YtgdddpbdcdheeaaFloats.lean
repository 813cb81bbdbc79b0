/- A slice of floats that comes in: what its cells hold. No conditions. -/
import Derived.Test.YtgdddpbdcdheeaaMNum
import Derived.Laws.Cover2
import Derived.ChangeSlices
namespace Go.Proofs.Ytgdddpbdcdheeaa
open Go.RowKit

section
variable {H : Type} {enc : TypeId × Value → H} {P : Program} {w : World} {base : Nat} {spare : Nat → Bool} {held : Bool}
theorem trod_flt {t : TypeId} {k : FloatKind} {fuel : Nat} {cs : List Value} {x : DataW H × List MemPlace} (ht : P.underlying t = some (.float k)) (h : DataW.trod enc P w base spare held fuel t cs = some x) : ∃ b, cs = [.float k b] ∧ (Lit.float k b).wf = true := by
  cases fuel with
  | zero => simp [DataW.trod] at h
  | succ n =>
    unfold DataW.trod at h
    rw [ht] at h
    split at h <;> simp_all
theorem float_cells {e : TypeId} {k : FloatKind} {fuel : Nat} {a : Addr} (he : P.underlying e = some (.float k)) (hc : P.cellsOf e = 1) :
    ∀ (n : Nat), (∀ i, i < n → ∃ y, (w.cells? base (a.add (i * P.cellsOf e)) (P.cellsOf e)).bind (DataW.trod enc P w base spare held fuel e) = some y) →
      ∃ zs : List Nat, zs.length = n ∧ (∀ i, i < n → w.cell? (a.add i) = some (.float k (zs.getD i 0))) ∧ ∀ b ∈ zs, (Lit.float k b).wf = true
  | 0, _ => ⟨[], rfl, fun i hi => by omega, fun b hb => by cases hb⟩
  | n + 1, h => by
    obtain ⟨zs, h1, h2, h3⟩ := float_cells he hc n (fun i hi => h i (by omega))
    obtain ⟨y, hy⟩ := h n (by omega)
    rw [hc, Nat.mul_one, Option.bind_eq_some_iff] at hy
    obtain ⟨cs, hcs, hy⟩ := hy
    obtain ⟨b, rfl, hb⟩ := trod_flt he hy
    have hcell := ChangeShapes.cell_of_cells?_one hcs
    refine ⟨zs ++ [b], by simp [h1], fun i hi => ?_, fun c hc => ?_⟩
    · rcases Nat.lt_or_ge i n with h4 | h4
      · rw [List.getD_eq_getElem?_getD, List.getElem?_append_left (by omega), ← List.getD_eq_getElem?_getD]
        exact h2 i h4
      · obtain rfl : i = n := by omega
        rw [hcell]
        simp [h1]
    · rw [List.mem_append] at hc
      rcases hc with hc | hc
      · exact h3 c hc
      · simp at hc; rw [hc]; exact hb
end
/-- a slice of floats as it comes in -/
def IsFloats (w : World) (a : Option Addr) (len cap : Nat) (zs : List Nat) : Prop :=
  (a = none ∧ len = 0 ∧ cap = 0 ∧ zs = []) ∨
  ∃ x, a = some x ∧ len ≤ cap ∧ cap ≤ maxLen ∧ zs.length = len ∧ (∀ i, i < len → w.cell? (x.add i) = some (.float .f64 (zs.getD i 0))) ∧ ∀ n ∈ zs, (Lit.float .f64 n).wf = true
theorem open_floats {H : Type} {enc : TypeId × Value → H} {P : Program} {w : World} {base : Nat} {spare : Nat → Bool} {held : Bool} {t e : TypeId} {fuel len cap : Nat} {a : Option Addr} {x : DataW H × List MemPlace} (ht : P.underlying t = some (.slice e)) (he : P.underlying e = some (.float .f64)) (hc : P.cellsOf e = 1)
    (h : DataW.trod enc P w base spare held fuel t (Value.slice a len cap).cells.toList = some x) : ∃ zs, IsFloats w a len cap zs := by
  rcases DataW.trod_slice ht h with ⟨h0, _⟩ | ⟨a', len', cap', elems, rest, n, _, hcs, _, hb, hl, hm, hlen, hel, _, _⟩
  · simp [Value.cells] at h0
    obtain ⟨rfl, rfl, rfl⟩ := h0
    exact ⟨[], .inl ⟨rfl, rfl, rfl, rfl⟩⟩
  · simp [Value.cells] at hcs
    obtain ⟨rfl, rfl, rfl⟩ := hcs
    obtain ⟨zs, h1, h2, h3⟩ := float_cells he hc len (fun i hi => ⟨elems[i], by rw [hel i hi]; exact List.getElem?_eq_getElem (by omega)⟩)
    exact ⟨zs, .inr ⟨a', rfl, hl, hm, h1, h2, h3⟩⟩
theorem IsFloats.len {w : World} {a : Option Addr} {len cap : Nat} {zs : List Nat} (h : IsFloats w a len cap zs) : zs.length = len ∧ len ≤ cap ∧ cap ≤ maxLen ∧ ∀ n ∈ zs, n < 18446744073709551616 := by
  rcases h with ⟨rfl, rfl, rfl, rfl⟩ | ⟨x, rfl, hl, hm, hz, _, hw⟩
  · exact ⟨rfl, Nat.le_refl _, Nat.zero_le _, fun n hn => by cases hn⟩
  · refine ⟨hz, hl, hm, fun n hn => ?_⟩
    have h2 : n < 2 ^ 64 := by simpa [Lit.wf] using hw n hn
    omega
theorem IsFloats.cells {w : World} {a : Option Addr} {len cap : Nat} {zs : List Nat} (h : IsFloats w a len cap zs) : cap = 0 ∨ len = 0 ∨ ∃ b off, a = some ⟨b, off, none⟩ ∧ b < w.heap.size ∧ ∀ i, i < len → w.cell? ⟨b, off + i, none⟩ = some (.float .f64 (zs.getD i 0)) := by
  rcases h with ⟨rfl, rfl, rfl, rfl⟩ | ⟨x, rfl, hl, hm, hz, hcell, hw⟩
  · exact .inl rfl
  · rcases Nat.eq_zero_or_pos len with h0 | h0
    · exact .inr (.inl h0)
    · right; right
      obtain ⟨b, off, spot⟩ := x
      have hc := hcell 0 h0
      have hspot : spot = none := by simpa [Addr.add] using World.cell?_spot hc
      subst hspot
      refine ⟨b, off, rfl, World.block_lt_of_cell? w _ hc, fun i hi => ?_⟩
      have := hcell i hi
      by_cases hi0 : i = 0
      · subst hi0; simpa [Addr.add] using this
      · simpa [Addr.add, hi0] using this
end Go.Proofs.Ytgdddpbdcdheeaa
