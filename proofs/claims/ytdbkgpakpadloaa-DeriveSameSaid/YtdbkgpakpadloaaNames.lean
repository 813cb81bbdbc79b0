/- Contracts of package bushelref10 and of package names: lists of strings. Conditions: those stated. -/
import Derived.Test.YtdbkgpakpadloaaStrs
namespace Go.Proofs.Ytdbkgpakpadloaa
open Go.RowKit

theorem words_row (w : World) (cs : Array Value) (t : TypeId) (h : cs = (wordList.map Value.string).toArray) : RowS (w.alloc (.cells cs t)) (some ⟨w.heap.size, 0, none⟩) 16 16 wordList := by
  refine ⟨rfl, Nat.le_refl _, by unfold maxLen; omega, .inr ⟨w.heap.size, 0, rfl, by simp, fun i hi => ?_⟩⟩
  rw [cell_of_row _ _ _ cs t (0, 0) (heap_alloc_new w _), h, Nat.zero_add]
  have hl : i < wordList.length := hi
  simp [hl]

theorem pwords_any (w : World) : Calls Try.prog 55 #[] w fun e w' => e = .returned (.slice (some ⟨w.heap.size, 0, none⟩) 16 16) ∧ RowS w' (some ⟨w.heap.size, 0, none⟩) 16 16 wordList ∧ Below w.heap.size w w' := by
  go_enter Try.func55, Try.ntmps55
  go_wp2
  go_ret
  exact ⟨rfl, words_row _ _ _ rfl, (Below.refl _ _).alloc (Nat.le_refl _) _⟩

end Go.Proofs.Ytdbkgpakpadloaa
