/- Contract of package nat's move. Conditions: the words are below 2^32; at most 100000 of them; the shift below 32. -/
import Derived.Test.YtaofjnidniekjaaGreatDoorMNatA
import Derived.Deep.DeepCutAuto
namespace Go.Proofs.YtaofjnidniekjaaGreatDoor
open Go.RowKit

end Go.Proofs.YtaofjnidniekjaaGreatDoor
/- Contracts of package nat's take and give: both change one block in place. Conditions: the words are below 2^32. -/
namespace Go.Proofs.YtaofjnidniekjaaGreatDoor
open Go.RowKit

end Go.Proofs.YtaofjnidniekjaaGreatDoor
/- Contract of package nat's word: one word of a quotient. Conditions: the words are below 2^32; the divisor has two words or more, and its highest is not 0. -/
namespace Go.Proofs.YtaofjnidniekjaaGreatDoor
open Go.RowKit

end Go.Proofs.YtaofjnidniekjaaGreatDoor
/- Contract of package nat's word. Conditions: the words are below 2^32; the divisor has two words or more, and its highest is not 0. -/
namespace Go.Proofs.YtaofjnidniekjaaGreatDoor
open Go.RowKit

end Go.Proofs.YtaofjnidniekjaaGreatDoor
/- Contract of package nat's Shr. Conditions: the words are below 2^32; at most 100000 of them. Any shift. -/
namespace Go.Proofs.YtaofjnidniekjaaGreatDoor
open Go.RowKit

end Go.Proofs.YtaofjnidniekjaaGreatDoor
/- Contracts of package nat's Bits, Of, Uint. Conditions: the words are below 2^32; at most 100000 of them. -/
namespace Go.Proofs.YtaofjnidniekjaaGreatDoor
open Go.RowKit

end Go.Proofs.YtaofjnidniekjaaGreatDoor
/- Contract of package nat's Div: plain laws and the small cases. Conditions: the words are below 2^32; at most 90000 of them. -/
namespace Go.Proofs.YtaofjnidniekjaaGreatDoor
open Go.RowKit

end Go.Proofs.YtaofjnidniekjaaGreatDoor
/- Contract of package nat's Div: the long division. Conditions: the words are below 2^32; at most 90000 of them. -/
namespace Go.Proofs.YtaofjnidniekjaaGreatDoor
open Go.RowKit

end Go.Proofs.YtaofjnidniekjaaGreatDoor
/- Contract of package nat's Root. Conditions: the words are below 2^32; at most 40000 of them. -/
namespace Go.Proofs.YtaofjnidniekjaaGreatDoor
open Go.RowKit

end Go.Proofs.YtaofjnidniekjaaGreatDoor
/- Contracts of package nat's Shl and Noughts. Conditions: the words are below 2^32; at most 80000 of them. -/
namespace Go.Proofs.YtaofjnidniekjaaGreatDoor
open Go.RowKit

end Go.Proofs.YtaofjnidniekjaaGreatDoor
/- Contracts of package nat's Shl and Shr at any count, a number's bit by its words. Conditions: at most 80000 words. -/
namespace Go.Proofs.YtaofjnidniekjaaGreatDoor
open Go.RowKit

end Go.Proofs.YtaofjnidniekjaaGreatDoor
