/- The walk of the law ExactOrders. No conditions. -/
import Derived.Test.YtdbkgpakpadloaaGreatExK
import Derived.Test.YtdbkgpakpadloaaGreatMEx3
import Derived.Test.YtdbkgpakpadloaaGreatFloats
namespace Go.Proofs.YtdbkgpakpadloaaGreat
open Go.RowKit Ieee

end Go.Proofs.YtdbkgpakpadloaaGreat
