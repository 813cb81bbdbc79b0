/- Contract of package nat's Text. Conditions: the words are below 2^32; at most 40000 of them. -/
import Derived.Test.YtdbkgpakpadloaaGreatMNatB
import Derived.Laws.BytesArg
import Derived.BigRegion
namespace Go.Proofs.YtdbkgpakpadloaaGreat
open Go.RowKit

end Go.Proofs.YtdbkgpakpadloaaGreat
