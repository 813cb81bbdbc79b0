/- The awake of package bushellaw03 and the walk of the law FloOrders. No conditions. -/
import Derived.Test.YtdbkgpakpadloaaGreatDoorMFloB
namespace Go.Proofs.YtdbkgpakpadloaaGreatDoor
open Go.RowKit Ieee

theorem split_m6 : SplitOut 13841813454723219456 true 3 1 := by
  have h : ∀ s, 3 * 2251799813685248 * 2 ^ s = 3 * 2 ^ (51 + s) := fun s => by rw [Nat.pow_add, Nat.mul_assoc]
  refine .inr ⟨by decide, by decide, 3, 51 + sh 4618441417868443648, rfl, by decide, ?_, by decide⟩
  rw [show 13841813454723219456 % S63 = 4618441417868443648 from by decide, ← h]
  unfold iv
  rw [show mg 4618441417868443648 = 3 * 2251799813685248 from by decide]
theorem join_53 : joinN false 9007199254740993 0 = 4845873199050653696 := by decide
theorem up_m0 : upN 9223372036854775808 = 0 := by decide
theorem flip_0 : flipS 0 = 9223372036854775808 := by decide
theorem key_0 : ((keyN 0 : Nat) : Int) = 9223372036854775808 := by decide
theorem dig_53 : Dig 4294967296 [1, 2097152] := by unfold Dig; decide

theorem wf_f64 {b : Nat} (h : (Lit.float .f64 b).wf = true) : b < 18446744073709551616 := by
  have h2 : b < 2 ^ 64 := by simpa [Lit.wf] using h
  exact h2

end Go.Proofs.YtdbkgpakpadloaaGreatDoor
