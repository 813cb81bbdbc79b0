/- The chapter's examples of exact: bushellaw05.awake; the walk of the law ExactNobody. No conditions. -/
import Derived.Test.YtehmompbmnejkaaGreatMEx3
import Derived.Test.YtehmompbmnejkaaGreatMExs
namespace Go.Proofs.YtehmompbmnejkaaGreat
open Go.RowKit Ieee

end Go.Proofs.YtehmompbmnejkaaGreat
/- Contract of package bushelref04's Root. Conditions: numbers below 2^3000. -/
namespace Go.Proofs.YtehmompbmnejkaaGreat
open Go.RowKit Ieee

end Go.Proofs.YtehmompbmnejkaaGreat
/- The walk of the law RatioRoots. No conditions. -/
namespace Go.Proofs.YtehmompbmnejkaaGreat
open Go.RowKit Ieee

end Go.Proofs.YtehmompbmnejkaaGreat
/- The walk of the law ExactNobody. No conditions. -/
namespace Go.Proofs.YtehmompbmnejkaaGreat
open Go.RowKit Ieee

end Go.Proofs.YtehmompbmnejkaaGreat
