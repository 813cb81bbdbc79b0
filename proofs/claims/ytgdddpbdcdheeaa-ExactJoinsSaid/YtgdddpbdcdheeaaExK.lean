/- The walk of the law ExactNobody. No conditions. -/
import Derived.Test.YtgdddpbdcdheeaaExJ
import Derived.Test.YtgdddpbdcdheeaaRatM
namespace Go.Proofs.Ytgdddpbdcdheeaa
open Go.RowKit Ieee

end Go.Proofs.Ytgdddpbdcdheeaa
