/- Contract of package bushelref02's Num. Conditions: the words are below 2^32; at most 1000 of them. -/
import Derived.Test.YtaofjnidniekjaaGreatDoorMNatA
import Derived.Test.YtaofjnidniekjaaGreatDoorBlk
import Derived.Test.YtaofjnidniekjaaGreatDoorMReg
import Derived.Test.YtaofjnidniekjaaGreatDoorMDiv
import Derived.Test.YtaofjnidniekjaaGreatDoorMNatB
namespace Go.Proofs.YtaofjnidniekjaaGreatDoor
open Go.RowKit

end Go.Proofs.YtaofjnidniekjaaGreatDoor
/- Contract of package bushelref02's Is, where it says yes: a trim list of the number that is asked. Condition: at most 1000 words. -/
namespace Go.Proofs.YtaofjnidniekjaaGreatDoor
open Go.RowKit

end Go.Proofs.YtaofjnidniekjaaGreatDoor
/- Contracts of package bushelref01's Two and of package bushelref02's Bits. Conditions: below 2^900000. -/
namespace Go.Proofs.YtaofjnidniekjaaGreatDoor
open Go.RowKit

end Go.Proofs.YtaofjnidniekjaaGreatDoor
