/- Rows stay where a block without such cells changes; sums of at most 40 numbers never lack room. No conditions. -/
import Derived.Test.YtgdddpbdcdheeaaExT
import Derived.Test.YtgdddpbdcdheeaaMReg
namespace Go.Proofs.Ytgdddpbdcdheeaa
open Go.RowKit Ieee

theorem RowK.farB {k : IntKind} {w w' : World} {a : Option Addr} {n c g : Nat} {xs : List Int} {t : TypeId} {cs : Array Value} (h : RowK k w a n c xs) (hk : Blk w g t cs) (hc : ∀ (i : Nat) (x : Int), cs[i]? ≠ some (.int k x)) (hb : But g w w') : RowK k w' a n c xs := by
  obtain ⟨h1, h2, h3, h4⟩ := h
  refine ⟨h1, h2, h3, ?_⟩
  rcases h4 with h4 | ⟨bb, off, rfl, hlt, hcell⟩
  · exact .inl h4
  · refine .inr ⟨bb, off, rfl, Nat.lt_of_lt_of_le hlt hb.size, fun i hi => ?_⟩
    by_cases hg : bb = g
    · subst hg
      have h5 := hcell i hi
      rw [hk.cell] at h5
      exact absurd h5 (hc _ _)
    · rw [hb.cell hlt hg]
      exact hcell i hi
theorem FRow.farB {w w' : World} {a : Option Addr} {n c g : Nat} {zs : List Nat} {t : TypeId} {cs : Array Value} (h : FRow w a n c zs) (hk : Blk w g t cs) (hc : ∀ (i : Nat) (x : Nat), cs[i]? ≠ some (.float .f64 x)) (hb : But g w w') : FRow w' a n c zs := by
  obtain ⟨h1, h2, h3, h4⟩ := h
  refine ⟨h1, h2, h3, ?_⟩
  rcases h4 with h4 | ⟨bb, off, rfl, hlt, hcell⟩
  · exact .inl h4
  · refine .inr ⟨bb, off, rfl, Nat.lt_of_lt_of_le hlt hb.size, fun i hi => ?_⟩
    by_cases hg : bb = g
    · subst hg
      have h5 := hcell i hi
      rw [hk.cell] at h5
      exact absurd h5 (hc _ _)
    · rw [hb.cell hlt hg]
      exact hcell i hi
theorem NumC.farB {w w' : World} {neg : Bool} {a : Option Addr} {n c g : Nat} {z : Int} {t : TypeId} {cs : Array Value} (h : NumC w neg a n c z) (hk : Blk w g t cs) (hc : ∀ (i : Nat) (x : Int), cs[i]? ≠ some (.int .i64 x)) (hb : But g w w') : NumC w' neg a n c z := by
  obtain ⟨xs, h1, h2⟩ := h
  exact ⟨xs, h1.farB hk hc hb, h2⟩
theorem NatC.farB {w w' : World} {a : Option Addr} {n c g : Nat} {z : Int} {t : TypeId} {cs : Array Value} (h : NatC w a n c z) (hk : Blk w g t cs) (hc : ∀ (i : Nat) (x : Int), cs[i]? ≠ some (.int .u32 x)) (hb : But g w w') : NatC w' a n c z := by
  obtain ⟨xs, h1, h2⟩ := h
  exact ⟨xs, h1.farB hk hc hb, h2⟩
theorem SumAt.far {w w' : World} {g k b : Nat} {z : Int} {t : TypeId} {cs : Array Value} (h : SumAt w g b z) (hk : Blk w k t cs) (hc : ∀ (i : Nat) (x : Int), cs[i]? ≠ some (.int .u32 x)) (hb : But k w w') (hg : g ≠ k) : SumAt w' g b z := by
  obtain ⟨a, n, c, h1, h2⟩ := h
  exact ⟨a, n, c, hb.blk h1 hg, h2.farB hk hc hb⟩
theorem none_of_four {P : Value → Prop} {v0 v1 v2 v3 : Value} (h0 : ¬ P v0) (h1 : ¬ P v1) (h2 : ¬ P v2) (h3 : ¬ P v3) (i : Nat) (u : Value) (hu : P u) : #[v0, v1, v2, v3][i]? ≠ some u := by
  intro h
  have h6 : i = 0 ∨ i = 1 ∨ i = 2 ∨ i = 3 ∨ 4 ≤ i := by omega
  rcases h6 with rfl | rfl | rfl | rfl | h6
  · cases h; exact h0 hu
  · cases h; exact h1 hu
  · cases h; exact h2 hu
  · cases h; exact h3 hu
  · rw [Array.getElem?_eq_none (by simp; omega)] at h; cases h
theorem none_of_seven {P : Value → Prop} {v0 v1 v2 v3 v4 v5 v6 : Value} (h0 : ¬ P v0) (h1 : ¬ P v1) (h2 : ¬ P v2) (h3 : ¬ P v3) (h4 : ¬ P v4) (h5 : ¬ P v5) (h6 : ¬ P v6) (i : Nat) (u : Value) (hu : P u) : #[v0, v1, v2, v3, v4, v5, v6][i]? ≠ some u := by
  intro h
  have hi : i = 0 ∨ i = 1 ∨ i = 2 ∨ i = 3 ∨ i = 4 ∨ i = 5 ∨ i = 6 ∨ 7 ≤ i := by omega
  rcases hi with rfl | rfl | rfl | rfl | rfl | rfl | rfl | hi
  · cases h; exact h0 hu
  · cases h; exact h1 hu
  · cases h; exact h2 hu
  · cases h; exact h3 hu
  · cases h; exact h4 hu
  · cases h; exact h5 hu
  · cases h; exact h6 hu
  · rw [Array.getElem?_eq_none (by simp; omega)] at h; cases h
theorem seven_no_int {c0 c1 c2 c3 c4 c5 : Bool} {A : Option Addr} {L C : Nat} (k : IntKind) (i : Nat) (x : Int) : (#[.bool c0, .bool c1, .bool c2, .bool c3, .bool c4, .bool c5, .slice A L C] : Array Value)[i]? ≠ some (.int k x) :=
  none_of_seven (P := fun u => ∃ k x, u = .int k x) (by rintro ⟨k, x, h⟩; cases h) (by rintro ⟨k, x, h⟩; cases h) (by rintro ⟨k, x, h⟩; cases h) (by rintro ⟨k, x, h⟩; cases h) (by rintro ⟨k, x, h⟩; cases h) (by rintro ⟨k, x, h⟩; cases h) (by rintro ⟨k, x, h⟩; cases h) i _ ⟨k, x, rfl⟩
theorem sum_no_i64 {b : Nat} {neg : Bool} {a : Option Addr} {n c : Nat} (i : Nat) (x : Int) : (sumCells b neg a n c)[i]? ≠ some (.int .i64 x) :=
  none_of_four (P := fun u => ∃ x, u = .int .i64 x) (by rintro ⟨x, h⟩; cases h) (by rintro ⟨x, h⟩; cases h) (by rintro ⟨x, h⟩; cases h) (by rintro ⟨x, h⟩; cases h) i _ ⟨x, rfl⟩
theorem NumC.sum {w w' : World} {neg : Bool} {a : Option Addr} {n c g b : Nat} {z y : Int} (h : NumC w neg a n c z) (hs : SumAt w g b y) (hb : But g w w') : NumC w' neg a n c z := by
  obtain ⟨a', n', c', h1, -⟩ := hs
  exact h.farB h1 sum_no_i64 hb
theorem but7 (w : World) (B : Nat) (v0 v1 v2 v3 v4 v5 v6 : Value) : But B w (((((((w.setCell ⟨B, 0, none⟩ v0).setCell ⟨B, 1, none⟩ v1).setCell ⟨B, 2, none⟩ v2).setCell ⟨B, 3, none⟩ v3).setCell ⟨B, 4, none⟩ v4).setCell ⟨B, 5, none⟩ v5).setCell ⟨B, 6, none⟩ v6) :=
  (((((((But.refl B w).setCell 0 _).setCell 1 _).setCell 2 _).setCell 3 _).setCell 4 _).setCell 5 _).setCell 6 _
theorem SumAt.seven {w : World} {g b B : Nat} {z : Int} {T : TypeId} {c0 c1 c2 c3 c4 c5 : Bool} {A : Option Addr} {L C : Nat} (h : SumAt w g b z) (hk : Blk w B T #[.bool c0, .bool c1, .bool c2, .bool c3, .bool c4, .bool c5, .slice A L C]) (hg : g ≠ B) (v0 v1 v2 v3 v4 v5 v6 : Value) :
    SumAt (((((((w.setCell ⟨B, 0, none⟩ v0).setCell ⟨B, 1, none⟩ v1).setCell ⟨B, 2, none⟩ v2).setCell ⟨B, 3, none⟩ v3).setCell ⟨B, 4, none⟩ v4).setCell ⟨B, 5, none⟩ v5).setCell ⟨B, 6, none⟩ v6) g b z :=
  h.far hk (seven_no_int _) (but7 w B v0 v1 v2 v3 v4 v5 v6) hg
theorem plus0 : Plus 0 0 := fun h => absurd rfl h
theorem Plus.of (zs : List Nat) : Plus (foldS zs).1 (foldS zs).2 := Plus.fold zs _ plus0
end Go.Proofs.Ytgdddpbdcdheeaa
