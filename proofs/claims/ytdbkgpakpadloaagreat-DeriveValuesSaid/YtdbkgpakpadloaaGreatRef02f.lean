/- Contract of package bushelref02's Of. Conditions: the number is not below 0; at most 100000 digits of base 1000. -/
import Derived.Test.YtdbkgpakpadloaaGreatNatR
import Derived.Test.YtdbkgpakpadloaaGreatMRef02
namespace Go.Proofs.YtdbkgpakpadloaaGreat
open Go.RowKit

end Go.Proofs.YtdbkgpakpadloaaGreat
