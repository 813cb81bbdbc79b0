/- Contract of lex.Kind, the example of the layer, and the walk of the law LexTokens. Conditions: the text is no longer than Go's longest length. -/
import Derived.Test.YtaofjnidniekjaaGreatDoorLexF
import Derived.Test.YtaofjnidniekjaaGreatDoorLexG
namespace Go.Proofs.YtaofjnidniekjaaGreatDoor
open Go.RowKit

end Go.Proofs.YtaofjnidniekjaaGreatDoor
