/- A column's value that comes in: what its cells hold. No conditions. -/
import Derived.Test.YtdbkgpakpadloaaOpn
namespace Go.Proofs.Ytdbkgpakpadloaa
open Go.RowKit

section
variable {H : Type} {enc : TypeId × Value → H} {w : World} {base : Nat} {spare : Nat → Bool} {held : Bool}
theorem opn_val {cs : List Value} (h : Trd enc Try.prog w base spare held 24 cs) : ∃ (r : Bool) (n : Int) (x : Nat), cs = [.bool r, .int .i64 n, .float .f64 x] ∧ (-9223372036854775808 ≤ n ∧ n ≤ 9223372036854775807) ∧ x < 18446744073709551616 := by
  obtain ⟨hl, hf⟩ := h.struct Try.underlying24
  rw [show Try.prog.cellsOf 24 = 3 from by kernel_rfl] at hl
  obtain ⟨r, p0⟩ := (hf 0 _ rfl).bool Try.underlying4
  replace p0 : (cs.drop 0).take 1 = [.bool r] := cut_is p0 (show Try.prog.cellsOf 4 = 1 from by kernel_rfl)
  obtain ⟨n, p1, hn⟩ := (hf 1 _ rfl).i64 Try.underlying2
  replace p1 : (cs.drop 1).take 1 = [.int .i64 n] := cut_is p1 (show Try.prog.cellsOf 2 = 1 from by kernel_rfl)
  obtain ⟨x, p2, hx⟩ := (hf 2 _ rfl).flt Try.underlying22
  replace p2 : (cs.drop 2).take 1 = [.float .f64 x] := cut_is p2 (show Try.prog.cellsOf 22 = 1 from by kernel_rfl)
  have g := glue (glue (glue (off := 0) (A := []) rfl p0) p1) p2
  rw [List.take_of_length_le (by omega)] at g
  exact ⟨r, n, x, g, hn, hx⟩
end
end Go.Proofs.Ytdbkgpakpadloaa
