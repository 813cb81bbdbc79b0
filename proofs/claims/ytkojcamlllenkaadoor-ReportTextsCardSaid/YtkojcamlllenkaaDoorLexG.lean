/- Contract of bushelref35.Tokens: the tokens of any text, or the place and the error. Condition: the text is no longer than Go's longest length. -/
import Derived.Test.YtkojcamlllenkaaDoorMLxA
import Derived.Laws.Concat
namespace Go.Proofs.YtkojcamlllenkaaDoor
open Go.RowKit

def runS1 : ByteArray := smallS ++ tensS
def runS : ByteArray := runS1 ++ ⟨#[95]⟩
theorem in_runS (c : UInt8) : inB c runS = runB c := in_run c
attribute [irreducible] runS1 runS
end Go.Proofs.YtkojcamlllenkaaDoor
