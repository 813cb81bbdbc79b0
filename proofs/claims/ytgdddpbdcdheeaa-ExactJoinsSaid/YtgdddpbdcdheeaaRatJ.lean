/- Contract of package bushelref04's Root. Conditions: numbers below 2^3000. -/
import Derived.Test.YtgdddpbdcdheeaaRatI
namespace Go.Proofs.Ytgdddpbdcdheeaa
open Go.RowKit Ieee

end Go.Proofs.Ytgdddpbdcdheeaa
