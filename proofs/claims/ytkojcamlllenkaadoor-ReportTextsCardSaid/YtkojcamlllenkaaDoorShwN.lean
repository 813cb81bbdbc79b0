/- Contracts of package bushelref37's number, behind and part. Conditions: those stated. -/
import Derived.Test.YtkojcamlllenkaaDoorMShC
import Derived.Test.YtkojcamlllenkaaDoorRef02e
import Derived.Test.YtkojcamlllenkaaDoorRef01o
namespace Go.Proofs.YtkojcamlllenkaaDoor
open Go.RowKit

end Go.Proofs.YtkojcamlllenkaaDoor
