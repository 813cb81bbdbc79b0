/- The walk of the law NatBack. No conditions. -/
import Derived.Test.YtkojcamlllenkaaDoorNatS
namespace Go.Proofs.YtkojcamlllenkaaDoor
open Go.RowKit

end Go.Proofs.YtkojcamlllenkaaDoor
