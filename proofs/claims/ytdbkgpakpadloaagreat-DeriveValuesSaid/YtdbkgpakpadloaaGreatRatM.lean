/- The walk of the law RatioRoots. No conditions. -/
import Derived.Test.YtdbkgpakpadloaaGreatMEx3
import Derived.Test.YtdbkgpakpadloaaGreatRatJ
namespace Go.Proofs.YtdbkgpakpadloaaGreat
open Go.RowKit Ieee

end Go.Proofs.YtdbkgpakpadloaaGreat
