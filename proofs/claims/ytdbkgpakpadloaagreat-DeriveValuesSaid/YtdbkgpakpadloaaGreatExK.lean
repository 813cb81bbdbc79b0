/- The walk of the law ExactNobody. No conditions. -/
import Derived.Test.YtdbkgpakpadloaaGreatExJ
import Derived.Test.YtdbkgpakpadloaaGreatRatM
namespace Go.Proofs.YtdbkgpakpadloaaGreat
open Go.RowKit Ieee

end Go.Proofs.YtdbkgpakpadloaaGreat
