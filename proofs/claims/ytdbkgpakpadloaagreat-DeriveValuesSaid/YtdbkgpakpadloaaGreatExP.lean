/- Contract of package bushelref05's Add. Conditions: below 2^2240 units. -/
import Derived.Test.YtdbkgpakpadloaaGreatExO
namespace Go.Proofs.YtdbkgpakpadloaaGreat
open Go.RowKit Ieee

end Go.Proofs.YtdbkgpakpadloaaGreat
