/- The contract of package bushelref36's Parse: it answers as the plain definition says. Conditions: those stated. -/
import Derived.Test.YtaofjnidniekjaaGreatDoorMRfC
import Derived.Test.YtaofjnidniekjaaGreatDoorMRs1
import Derived.Test.YtaofjnidniekjaaGreatDoorLexH
namespace Go.Proofs.YtaofjnidniekjaaGreatDoor
open Go.RowKit

end Go.Proofs.YtaofjnidniekjaaGreatDoor
