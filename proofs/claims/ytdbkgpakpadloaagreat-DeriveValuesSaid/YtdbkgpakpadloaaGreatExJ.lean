/- The chapter's examples of exact: bushellaw05.awake; the walk of the law ExactNobody. No conditions. -/
import Derived.Test.YtdbkgpakpadloaaGreatMEx3
namespace Go.Proofs.YtdbkgpakpadloaaGreat
open Go.RowKit Ieee

end Go.Proofs.YtdbkgpakpadloaaGreat
