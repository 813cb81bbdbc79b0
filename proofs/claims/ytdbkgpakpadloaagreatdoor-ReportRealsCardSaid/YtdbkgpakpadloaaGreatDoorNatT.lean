/- The walk of the law NatBack. No conditions. -/
import Derived.Test.YtdbkgpakpadloaaGreatDoorNatS
namespace Go.Proofs.YtdbkgpakpadloaaGreatDoor
open Go.RowKit

end Go.Proofs.YtdbkgpakpadloaaGreatDoor
