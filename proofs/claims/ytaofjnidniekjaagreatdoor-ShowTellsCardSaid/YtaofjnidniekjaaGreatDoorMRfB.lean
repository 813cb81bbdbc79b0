/- The reference's reading (package bushelref36): where its states stand (plain); group. Conditions: those stated. -/
import Derived.Test.YtaofjnidniekjaaGreatDoorMRfA
import Derived.Test.YtaofjnidniekjaaGreatDoorMPaC
import Derived.Test.YtaofjnidniekjaaGreatDoorMPaD
import Derived.Test.YtaofjnidniekjaaGreatDoorMReg
import Derived.Deep.DeepCutAuto
import Derived.StillTailTactics
namespace Go.Proofs.YtaofjnidniekjaaGreatDoor
open Go.RowKit

end Go.Proofs.YtaofjnidniekjaaGreatDoor
/- The reference's reading (package bushelref36): ord. Conditions: those stated. -/
namespace Go.Proofs.YtaofjnidniekjaaGreatDoor
open Go.RowKit

end Go.Proofs.YtaofjnidniekjaaGreatDoor
/- The reference's reading (package bushelref36): col. Conditions: those stated. -/
namespace Go.Proofs.YtaofjnidniekjaaGreatDoor
open Go.RowKit

end Go.Proofs.YtaofjnidniekjaaGreatDoor
