/- The nearest number to a quotient of two whole numbers: there is one, and only one. No conditions. -/
import Derived.Test.YtkojcamlllenkaaDoorMFloB
import Derived.Test.YtkojcamlllenkaaDoorBlk
namespace Go.Proofs.YtkojcamlllenkaaDoor
open Go.RowKit Ieee

end Go.Proofs.YtkojcamlllenkaaDoor
/- Rounding a quotient by so many bits and one more that tells whether something is left. No conditions. -/
namespace Go.Proofs.YtkojcamlllenkaaDoor
open Go.RowKit Ieee

end Go.Proofs.YtkojcamlllenkaaDoor
/- The nearest number to the root of a quotient: there is one, and only one; it is rounded by the root's first bits. No conditions. -/
namespace Go.Proofs.YtkojcamlllenkaaDoor
open Go.RowKit Ieee

end Go.Proofs.YtkojcamlllenkaaDoor
/- Contracts of package ratio's scaled and sticky. Conditions: numbers below 2^10000; at most 80000 words. -/
namespace Go.Proofs.YtkojcamlllenkaaDoor
open Go.RowKit Ieee

end Go.Proofs.YtkojcamlllenkaaDoor
/- Contract of package ratio's Quot. Conditions: numbers below 2^3000; at most 80000 words. -/
namespace Go.Proofs.YtkojcamlllenkaaDoor
open Go.RowKit Ieee

end Go.Proofs.YtkojcamlllenkaaDoor
/- Contract of package ratio's Root. Conditions: numbers below 2^3000; at most 80000 words. -/
namespace Go.Proofs.YtkojcamlllenkaaDoor
open Go.RowKit Ieee

end Go.Proofs.YtkojcamlllenkaaDoor
