/- Contracts of package bushelref04's fits and fits0. Conditions: numbers that fit; units from 2^-1074 on. -/
import Derived.Test.YtdbkgpakpadloaaGreatDoorMRat2
import Derived.Test.YtdbkgpakpadloaaGreatDoorMReg
import Derived.IntWalk
import Derived.Deep.DeepCutAuto
namespace Go.Proofs.YtdbkgpakpadloaaGreatDoor
open Go.RowKit Ieee

theorem three_bx (w : World) (t : TypeId) (c1 c2 c3 : Array Value) : Blk (((w.alloc (.cells c1 t)).alloc (.cells c2 t)).alloc (.cells c3 t)) w.heap.size t c1 ∧ Blk (((w.alloc (.cells c1 t)).alloc (.cells c2 t)).alloc (.cells c3 t)) (w.heap.size + 1) t c2 ∧ Blk (((w.alloc (.cells c1 t)).alloc (.cells c2 t)).alloc (.cells c3 t)) (w.heap.size + 2) t c3 ∧
    Below w.heap.size w (((w.alloc (.cells c1 t)).alloc (.cells c2 t)).alloc (.cells c3 t)) := by
  obtain ⟨h0, h1, hb, hs⟩ := two_bx w t c1 c2
  refine ⟨h0.alloc _, h1.alloc _, ?_, hb.alloc (by omega) _⟩
  have h := Blk.new ((w.alloc (.cells c1 t)).alloc (.cells c2 t)) t c3
  rw [hs] at h
  exact h

end Go.Proofs.YtdbkgpakpadloaaGreatDoor
