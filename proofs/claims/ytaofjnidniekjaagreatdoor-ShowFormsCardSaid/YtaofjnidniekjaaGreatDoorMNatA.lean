/- Contracts of package nat's size, Trim, Cmp. Condition: the words of the lists are below 2^32. -/
import Derived.Test.YtaofjnidniekjaaGreatDoorMNum
import Derived.Test.YtaofjnidniekjaaGreatDoorMDiv
namespace Go.Proofs.YtaofjnidniekjaaGreatDoor
open Go.RowKit

end Go.Proofs.YtaofjnidniekjaaGreatDoor
/- Contract of package nat's Cmp. Condition: the words of the lists are below 2^32. -/
namespace Go.Proofs.YtaofjnidniekjaaGreatDoor
open Go.RowKit

end Go.Proofs.YtaofjnidniekjaaGreatDoor
/- Contract of package nat's Add. Conditions: the words are below 2^32; at most 100000 of them. -/
namespace Go.Proofs.YtaofjnidniekjaaGreatDoor
open Go.RowKit

end Go.Proofs.YtaofjnidniekjaaGreatDoor
/- Contract of package nat's Sub. Conditions: the words are below 2^32; at most 100000 of them. -/
namespace Go.Proofs.YtaofjnidniekjaaGreatDoor
open Go.RowKit

end Go.Proofs.YtaofjnidniekjaaGreatDoor
/- Contract of package nat's Mul. Conditions: the words are below 2^32; at most 100000 of them. -/
namespace Go.Proofs.YtaofjnidniekjaaGreatDoor
open Go.RowKit

end Go.Proofs.YtaofjnidniekjaaGreatDoor
/- Contracts of package nat's small and move. Conditions: the words are below 2^32; at most 100000 of them. -/
namespace Go.Proofs.YtaofjnidniekjaaGreatDoor
open Go.RowKit

end Go.Proofs.YtaofjnidniekjaaGreatDoor
