/- Contract of package bushelref05's Bytes. Conditions: below 2^2240 units. -/
import Derived.Test.YtdbkgpakpadloaaGreatMEx4
import Derived.Test.YtdbkgpakpadloaaGreatMEx2
import Derived.Test.YtdbkgpakpadloaaGreatRef02f
namespace Go.Proofs.YtdbkgpakpadloaaGreat
open Go.RowKit Ieee

end Go.Proofs.YtdbkgpakpadloaaGreat
