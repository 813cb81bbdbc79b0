/- A slice of floats that comes in: what its cells hold. No conditions. -/
import Derived.Test.YtehmompbmnejkaaGreatMNum
import Derived.Test.YtehmompbmnejkaaGreatMExq
import Derived.Test.YtehmompbmnejkaaGreatMEx3
import Derived.Test.YtehmompbmnejkaaGreatMExt
import Derived.Laws.Cover2
import Derived.ChangeSlices
namespace Go.Proofs.YtehmompbmnejkaaGreat
open Go.RowKit

section
variable {H : Type} {enc : TypeId × Value → H} {P : Program} {w : World} {base : Nat} {spare : Nat → Bool} {held : Bool}
end
end Go.Proofs.YtehmompbmnejkaaGreat
/- The walk of the law ExactOrders. No conditions. -/
namespace Go.Proofs.YtehmompbmnejkaaGreat
open Go.RowKit Ieee

end Go.Proofs.YtehmompbmnejkaaGreat
/- Contract of bushellaw05's is: a sum tells what the reference's sum of the same value tells. Conditions: below 2^2240 units; units come with their flag. -/
namespace Go.Proofs.YtehmompbmnejkaaGreat
open Go.RowKit Ieee

theorem rsbytes_any (w : World) (b : Nat) (z : Int) (ng : Bool) (a : Option Addr) (l c : Nat) (hN : NumC w ng a l c z) (hz : z.natAbs < ROOM) (hb : b < 32) :
  Calls Tryz.prog 33 #[.agg (rsCells b ng a l c)] w (RBytes b z w) :=
 rsbytes_b w b z _ _ _ _ _ ng a l c hN hz hb rfl rfl rfl rfl rfl

end Go.Proofs.YtehmompbmnejkaaGreat
