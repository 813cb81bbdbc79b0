/- A slice of floats that comes in: what its cells hold. No conditions. -/
import Derived.Test.YtdbkgpakpadloaaGreatMNum
import Derived.Laws.Cover2
import Derived.ChangeSlices
namespace Go.Proofs.YtdbkgpakpadloaaGreat
open Go.RowKit

section
variable {H : Type} {enc : TypeId × Value → H} {P : Program} {w : World} {base : Nat} {spare : Nat → Bool} {held : Bool}
end
end Go.Proofs.YtdbkgpakpadloaaGreat
