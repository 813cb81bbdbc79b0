/- The reference's reading (package bushelref36): cond. Conditions: those stated. -/
import Derived.Test.YtaofjnidniekjaaGreatDoorMRfB
namespace Go.Proofs.YtaofjnidniekjaaGreatDoor
open Go.RowKit

end Go.Proofs.YtaofjnidniekjaaGreatDoor
/- The reference's reading (package bushelref36): one, part. Conditions: those stated. -/
namespace Go.Proofs.YtaofjnidniekjaaGreatDoor
open Go.RowKit

end Go.Proofs.YtaofjnidniekjaaGreatDoor
