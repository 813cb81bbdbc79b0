/- Contract of package bushelref02's Num. Conditions: the words are below 2^32; at most 1000 of them. -/
import Derived.Test.YtkojcamlllenkaaDoorMNatA
import Derived.Test.YtkojcamlllenkaaDoorBlk
import Derived.Test.YtkojcamlllenkaaDoorMReg
import Derived.Test.YtkojcamlllenkaaDoorMDiv
import Derived.Test.YtkojcamlllenkaaDoorMNatB
namespace Go.Proofs.YtkojcamlllenkaaDoor
open Go.RowKit

end Go.Proofs.YtkojcamlllenkaaDoor
/- Contract of package bushelref02's Is, where it says yes: a trim list of the number that is asked. Condition: at most 1000 words. -/
namespace Go.Proofs.YtkojcamlllenkaaDoor
open Go.RowKit

end Go.Proofs.YtkojcamlllenkaaDoor
/- Contracts of package bushelref01's Two and of package bushelref02's Bits. Conditions: below 2^900000. -/
namespace Go.Proofs.YtkojcamlllenkaaDoor
open Go.RowKit

end Go.Proofs.YtkojcamlllenkaaDoor
