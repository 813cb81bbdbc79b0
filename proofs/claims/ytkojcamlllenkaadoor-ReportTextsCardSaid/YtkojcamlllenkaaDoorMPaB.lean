/- The reader of package parse in memory, and what its small methods do. Conditions: those stated. -/
import Derived.Test.YtkojcamlllenkaaDoorMPaA
import Derived.Test.YtkojcamlllenkaaDoorMSch
import Derived.Test.YtkojcamlllenkaaDoorMLxA
import Derived.Test.YtkojcamlllenkaaDoorBlk
import Derived.WalkLawsBesides
import Derived.StillTailTactics
import Derived.Recover
namespace Go.Proofs.YtkojcamlllenkaaDoor
open Go.RowKit

end Go.Proofs.YtkojcamlllenkaaDoor
/- The contract of package schema's Find, where the schema is right. Conditions: those stated. -/
namespace Go.Proofs.YtkojcamlllenkaaDoor
open Go.RowKit

def dimN (s : Sch) : List ByteArray := s.dims.map (·.1)
end Go.Proofs.YtkojcamlllenkaaDoor
/- What the reader of package parse goes past: a number, a name of a dimension, a name of a measure. Conditions: those stated. -/
namespace Go.Proofs.YtkojcamlllenkaaDoor
open Go.RowKit

theorem place_lt : ∀ {xs : List ByteArray} {s : ByteArray}, s ∈ xs → place xs s < xs.length
 | [], _, h => by cases h
 | x :: xs, s, h => by
  unfold place
  split
  ·simp
  ·rename_i hne
   rcases List.mem_cons.1 h with e | e
   ·exact absurd e.symm hne
   ·have := place_lt e
    have h2 := place_mem.2 e
    rw [if_neg (by omega)]
    simp; omega
def measN (s : Sch) : List ByteArray := s.ints ++ s.nums
end Go.Proofs.YtkojcamlllenkaaDoor
/- What the reader of package parse goes past: a column. Conditions: those stated. -/
namespace Go.Proofs.YtkojcamlllenkaaDoor
open Go.RowKit

end Go.Proofs.YtkojcamlllenkaaDoor
/- The lists that the reader of package parse goes past: things with a word or a sign between. Conditions: those stated. -/
namespace Go.Proofs.YtkojcamlllenkaaDoor
open Go.RowKit

end Go.Proofs.YtkojcamlllenkaaDoor
/- The query that the reader of package parse builds, in memory; what a column, a name and an order add to it. Conditions: those stated. -/
namespace Go.Proofs.YtkojcamlllenkaaDoor
open Go.RowKit

end Go.Proofs.YtkojcamlllenkaaDoor
