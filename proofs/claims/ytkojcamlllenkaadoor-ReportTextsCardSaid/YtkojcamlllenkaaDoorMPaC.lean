/- What the reader of package parse does with a column, with a name behind by, and with what rows are put in order by. Conditions: those stated. -/
import Derived.Test.YtkojcamlllenkaaDoorMPaB
import Derived.Test.YtkojcamlllenkaaDoorMRs1
import Derived.Deep.DeepCutAuto
import Derived.Defers
import Derived.Recover
namespace Go.Proofs.YtkojcamlllenkaaDoor
open Go.RowKit

theorem i64_small {x : Int} (h0 : 0 ≤ x) (h1 : x ≤ 2000000000000000000) : I64 x := ⟨by omega, by omega⟩
end Go.Proofs.YtkojcamlllenkaaDoor
/- What the reader of package parse does with a condition. Conditions: those stated. -/
namespace Go.Proofs.YtkojcamlllenkaaDoor
open Go.RowKit

end Go.Proofs.YtkojcamlllenkaaDoor
/- What the reader of package parse goes past: a condition. Conditions: those stated. -/
namespace Go.Proofs.YtkojcamlllenkaaDoor
open Go.RowKit

end Go.Proofs.YtkojcamlllenkaaDoor
/- What the reader of package parse does with a condition of a query, and the whole reading. Conditions: those stated. -/
namespace Go.Proofs.YtkojcamlllenkaaDoor
open Go.RowKit

end Go.Proofs.YtkojcamlllenkaaDoor
/- The whole reading of package parse. Conditions: those stated. -/
namespace Go.Proofs.YtkojcamlllenkaaDoor
open Go.RowKit

end Go.Proofs.YtkojcamlllenkaaDoor
/- The contract of package parse's Parse. Conditions: those stated. -/
namespace Go.Proofs.YtkojcamlllenkaaDoor
open Go.RowKit

end Go.Proofs.YtkojcamlllenkaaDoor
