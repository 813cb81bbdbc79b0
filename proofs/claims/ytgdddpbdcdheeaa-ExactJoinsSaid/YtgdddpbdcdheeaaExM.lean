/- The walk of the law ExactOrders. No conditions. -/
import Derived.Test.YtgdddpbdcdheeaaExK
import Derived.Test.YtgdddpbdcdheeaaMEx3
import Derived.Test.YtgdddpbdcdheeaaFloats
namespace Go.Proofs.Ytgdddpbdcdheeaa
open Go.RowKit Ieee

def BRow (w : World) (a : Option Addr) (n c : Nat) (bs : List Int) : Prop := RowK .u8 w a n c bs ∧ 0 < n
theorem BRow.mk {w : World} {a : Option Addr} {n c b : Nat} {z : Int} {bs : List Int} (h : RowK .u8 w a n c bs) (hb : IsBytes b z bs) : BRow w a n c bs := by
  refine ⟨h, ?_⟩
  obtain ⟨xs, l, -, -, -, -, he⟩ := hb
  have := h.1
  rw [he] at this
  simp at this
  omega
theorem BRow.below {w w' : World} {a : Option Addr} {n c B : Nat} {bs : List Int} (h : BRow w a n c bs) (hb : Below B w w') (hB : w.heap.size ≤ B) : BRow w' a n c bs := ⟨h.1.below hb hB, h.2⟩
theorem bytes_str {w : World} {a : Option Addr} {n c : Nat} {bs : List Int} (h : BRow w a n c bs) : (convert 41 9 (.slice a n c)).run Try.prog w = .ok (.string (strOfNums bs)) w := by
  obtain ⟨⟨h1, h2, h3, h4⟩, h5⟩ := h
  rcases h4 with h4 | ⟨b, off, rfl, hlt, hc⟩
  · omega
  · exact run_convert_bytes_arg (P := Try.prog) w 41 5 Try.underlying41 Try.underlying5 b off n c bs h1 hc 9 Try.underlying9
end Go.Proofs.Ytgdddpbdcdheeaa
