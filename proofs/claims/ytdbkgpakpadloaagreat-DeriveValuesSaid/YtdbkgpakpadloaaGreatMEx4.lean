/- Contract of package bushelref05's Add at a finite number that is no nought, and at any. -/
import Derived.Test.YtdbkgpakpadloaaGreatExP
import Derived.Test.YtdbkgpakpadloaaGreatMReg
namespace Go.Proofs.YtdbkgpakpadloaaGreat
open Go.RowKit Ieee

end Go.Proofs.YtdbkgpakpadloaaGreat
/- Contract of package bushelref05's Of. No conditions. -/
namespace Go.Proofs.YtdbkgpakpadloaaGreat
open Go.RowKit Ieee

theorem Blk.far7 {w : World} {g B : Nat} {T : TypeId} {cs : Array Value} (h : Blk w g T cs) (hg : g ≠ B) (v0 v1 v2 v3 v4 v5 v6 : Value) :
  Blk (((((((w.setCell ⟨B, 0, none⟩ (v0)).setCell ⟨B, 1, none⟩ (v1)).setCell ⟨B, 2, none⟩ (v2)).setCell ⟨B, 3, none⟩ (v3)).setCell ⟨B, 4, none⟩ (v4)).setCell ⟨B, 5, none⟩ (v5)).setCell ⟨B, 6, none⟩ (v6)) g T cs :=
 ((((((h.far (p := ⟨B, 0, none⟩) hg v0).far (p := ⟨B, 1, none⟩) hg v1).far (p := ⟨B, 2, none⟩) hg v2).far (p := ⟨B, 3, none⟩) hg v3).far (p := ⟨B, 4, none⟩) hg v4).far (p := ⟨B, 5, none⟩) hg v5).far (p := ⟨B, 6, none⟩) hg v6
theorem below_set7 {w0 w : World} {S B : Nat} (h : Below S w0 w) (hB : S ≤ B) (v0 v1 v2 v3 v4 v5 v6 : Value) :
  Below S w0 (((((((w.setCell ⟨B, 0, none⟩ (v0)).setCell ⟨B, 1, none⟩ (v1)).setCell ⟨B, 2, none⟩ (v2)).setCell ⟨B, 3, none⟩ (v3)).setCell ⟨B, 4, none⟩ (v4)).setCell ⟨B, 5, none⟩ (v5)).setCell ⟨B, 6, none⟩ (v6)) :=
 ((((((h.setCell (p := ⟨B, 0, none⟩) hB v0).setCell (p := ⟨B, 1, none⟩) hB v1).setCell (p := ⟨B, 2, none⟩) hB v2).setCell (p := ⟨B, 3, none⟩) hB v3).setCell (p := ⟨B, 4, none⟩) hB v4).setCell (p := ⟨B, 5, none⟩) hB v5).setCell (p := ⟨B, 6, none⟩) hB v6

end Go.Proofs.YtdbkgpakpadloaaGreat
