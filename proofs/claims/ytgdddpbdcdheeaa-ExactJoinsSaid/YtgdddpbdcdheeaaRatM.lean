/- The walk of the law RatioRoots. No conditions. -/
import Derived.Test.YtgdddpbdcdheeaaMEx3
import Derived.Test.YtgdddpbdcdheeaaRatJ
namespace Go.Proofs.Ytgdddpbdcdheeaa
open Go.RowKit Ieee

theorem rsame_key {z y : Nat} (hz : z < 18446744073709551616) (hy : y < 18446744073709551616) (h : keyN z = keyN y) (w : World) :
    Calls Try.prog 17 #[.float .f64 z, .float .f64 y] w fun e w' => e = .returned (.bool true) ∧ Below w.heap.size w w' := by
  have := rsame_any z y w hz hy
  rw [decide_eq_true h] at this
  exact this

end Go.Proofs.Ytgdddpbdcdheeaa
