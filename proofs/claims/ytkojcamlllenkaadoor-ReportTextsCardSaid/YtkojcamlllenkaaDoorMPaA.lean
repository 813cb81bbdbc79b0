/- What package parse reads, by definition (plain): a query out of tokens, or the place and the reason of the first fault. No conditions. -/
import Derived.Test.YtkojcamlllenkaaDoorMLxA
namespace Go.Proofs.YtkojcamlllenkaaDoor
open Go.RowKit

/-- a query, without the places of its lists -/
structure QP where
 group : Int
 flts : List (Int × List Int)
 cols : List (Int × Int)
 ord : List (Int × Bool)
 limit : Int
def aggW : List (List UInt8) := [[99, 111, 117, 110, 116], [115, 117, 109], [109, 105, 110], [109, 97, 120], [109, 101, 97, 110], [100, 101, 118], [115, 104, 97, 114, 101]]
end Go.Proofs.YtkojcamlllenkaaDoor
/- How far a reading goes (plain): each thing goes past one token at least; more fuel changes nothing. No conditions. -/
namespace Go.Proofs.YtkojcamlllenkaaDoor
open Go.RowKit

end Go.Proofs.YtkojcamlllenkaaDoor
