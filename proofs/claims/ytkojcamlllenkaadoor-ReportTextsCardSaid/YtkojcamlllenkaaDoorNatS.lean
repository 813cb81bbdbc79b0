/- Contracts of package bushelref02's Same (two lists alike) and of the law's awake. No conditions. -/
import Derived.Test.YtkojcamlllenkaaDoorMNtB
import Derived.Test.YtkojcamlllenkaaDoorMNatB
namespace Go.Proofs.YtkojcamlllenkaaDoor
open Go.RowKit

end Go.Proofs.YtkojcamlllenkaaDoor
