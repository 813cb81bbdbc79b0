/- The contract of package bushelref37's Text: printed by gen_shwp.py. Conditions: those stated. -/
import Derived.Test.YtkojcamlllenkaaDoorShwM
import Derived.Test.YtkojcamlllenkaaDoorShwN
import Derived.Test.YtkojcamlllenkaaDoorMRs1
import Derived.Deep.DeepCutAuto
namespace Go.Proofs.YtkojcamlllenkaaDoor
open Go.RowKit

theorem own_noneS (w : World) (e : TypeId) (N : Nat) (h : N ≤ w.heap.size) : (w.alloc (.cells #[] e)).ownsRow N e 1 (.slice (some ⟨w.heap.size, 0, none⟩) 0 0) 0 [] :=
 ⟨rfl, .inr ⟨w.heap.size, 0, #[], rfl, h, heap_alloc_new w _, Nat.le_refl _, Nat.zero_le _, rfl, rfl⟩⟩
end Go.Proofs.YtkojcamlllenkaaDoor
