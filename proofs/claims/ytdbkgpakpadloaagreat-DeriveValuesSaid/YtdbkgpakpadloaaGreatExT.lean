/- Contract of bushellaw05's is: a sum tells what the reference's sum of the same value tells. Conditions: below 2^2240 units; units come with their flag. -/
import Derived.Test.YtdbkgpakpadloaaGreatExS
import Derived.Test.YtdbkgpakpadloaaGreatExM
namespace Go.Proofs.YtdbkgpakpadloaaGreat
open Go.RowKit Ieee

end Go.Proofs.YtdbkgpakpadloaaGreat
