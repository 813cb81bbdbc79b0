/- Contract of package bushelref02's Read. No conditions. -/
import Derived.Test.YtkojcamlllenkaaDoorMNtB
import Derived.Test.YtkojcamlllenkaaDoorMRef02
namespace Go.Proofs.YtkojcamlllenkaaDoor
open Go.RowKit

end Go.Proofs.YtkojcamlllenkaaDoor
