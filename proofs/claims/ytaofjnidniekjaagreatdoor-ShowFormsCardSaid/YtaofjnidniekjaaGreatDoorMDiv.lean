/- One law for an append of whatever row to a row of the call's own. Condition: at most 2^43 elements. -/
import Derived.Test.YtaofjnidniekjaaGreatDoorMNum
import Derived.Test.YtaofjnidniekjaaGreatDoorMReg
namespace Go.Proofs.YtaofjnidniekjaaGreatDoor
open Go.RowKit

end Go.Proofs.YtaofjnidniekjaaGreatDoor
/- Contract of package bushelref01's Div. Conditions: the divisor is not 0; the numbers together lie below 1000^1000000. -/
namespace Go.Proofs.YtaofjnidniekjaaGreatDoor
open Go.RowKit

/-- the number of a list with one more digit ahead -/
theorem V_cons {B : Int} {d : Int} : ∀ (ys : List Int), V B (d :: ys) = d + B * V B ys := by
 intro ys
 have key : ∀ n, vf B (fun i => (d :: ys).getD i 0) (n + 1) = d + B * vf B (fun i => ys.getD i 0) n := by
  intro n
  induction n with
  | zero => simp [vf]
  | succ n ih =>
   show vf B _ (n + 1) + (d :: ys).getD (n + 1) 0 * B ^ (n + 1) = d + B * (vf B _ n + ys.getD n 0 * B ^ n)
   rw [ih, Int.mul_add, List.getD_cons_succ, Int.pow_succ, Int.mul_comm B (ys.getD n 0 * B ^ n), Int.mul_assoc]; omega
 show vf B _ (ys.length + 1) = _
 rw [key]; rfl
end Go.Proofs.YtaofjnidniekjaaGreatDoor
/- Contract of package bushelref01's Power. Conditions: the count is not below 0; all powers up to it lie below 1000^1000000. -/
namespace Go.Proofs.YtaofjnidniekjaaGreatDoor
open Go.RowKit

end Go.Proofs.YtaofjnidniekjaaGreatDoor
