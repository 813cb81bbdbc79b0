/- The walk of the law ExactReads. No conditions. -/
import Derived.Test.YtgdddpbdcdheeaaExRd
import Derived.Test.YtgdddpbdcdheeaaExM
import Derived.Test.YtgdddpbdcdheeaaExU
namespace Go.Proofs.Ytgdddpbdcdheeaa
open Go.RowKit Ieee

theorem byt_of {w : World} {a : Option Addr} {n c : Nat} {zs : List Int} (h : IsRow .u8 w a n c zs) : Byt (zs.take n) := by
  intro x hx
  rcases h with ⟨-, h, -, -⟩ | ⟨y, -, h1, -, h2, -, h4⟩
  · subst h; simp at hx
  · have := h4 _ (List.mem_of_mem_take hx)
    simp [Lit.wf, IntKind.min, IntKind.max, IntKind.bits, IntKind.signed] at this
    omega
/-- a result that is put into a new box -/
theorem put_box (w : World) (q0 q1 q2 q3 q4 q5 : Bool) (p : Option Addr) (l c : Nat) :
    Blk (w.alloc (.cells #[.bool q0, .bool q1, .bool q2, .bool q3, .bool q4, .bool q5, .slice p l c] 30)) w.heap.size 30 #[.bool q0, .bool q1, .bool q2, .bool q3, .bool q4, .bool q5, .slice p l c] ∧ Below w.heap.size w (w.alloc (.cells #[.bool q0, .bool q1, .bool q2, .bool q3, .bool q4, .bool q5, .slice p l c] 30)) := by
  exact one_box w 30 _

end Go.Proofs.Ytgdddpbdcdheeaa
