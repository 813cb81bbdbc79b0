/- Contract of package nat's Read. No conditions. -/
import Derived.Test.YtdbkgpakpadloaaGreatNatQ
import Derived.Lib.Strings
namespace Go.Proofs.YtdbkgpakpadloaaGreat
open Go.RowKit

end Go.Proofs.YtdbkgpakpadloaaGreat
