/- A query that comes in: what its cells hold. No conditions. -/
import Derived.Test.YtaofjnidniekjaaGreatDoorMOpn
import Derived.Test.YtaofjnidniekjaaGreatDoorMSch
namespace Go.Proofs.YtaofjnidniekjaaGreatDoor
open Go.RowKit

section
variable {H : Type} {enc : TypeId × Value → H} {w : World} {base : Nat} {spare : Nat → Bool} {held : Bool}
end
end Go.Proofs.YtaofjnidniekjaaGreatDoor
