/- A column's value that comes in: what its cells hold. No conditions. -/
import Derived.Test.YtkojcamlllenkaaDoorMOpn
import Derived.Test.YtkojcamlllenkaaDoorMRtA
namespace Go.Proofs.YtkojcamlllenkaaDoor
open Go.RowKit

section
variable {H : Type} {enc : TypeId × Value → H} {w : World} {base : Nat} {spare : Nat → Bool} {held : Bool}
theorem opn_val {cs : List Value} (h : Trd enc Tryd.prog w base spare held 56 cs) : ∃ (r : Bool) (n : Int) (x : Nat), cs = [.bool r, .int .i64 n, .float .f64 x] ∧ (-9223372036854775808 ≤ n ∧ n ≤ 9223372036854775807) ∧ x < 18446744073709551616 := by
 obtain ⟨hl, hf⟩ := h.struct Tryd.underlying56
 rw [show Tryd.prog.cellsOf 56 = 3 from by kernel_rfl] at hl
 obtain ⟨r, p0⟩ := (hf 0 _ rfl).bool Tryd.underlying4
 replace p0 : (cs.drop 0).take 1 = [.bool r] := cut_is p0 (show Tryd.prog.cellsOf 4 = 1 from by kernel_rfl)
 obtain ⟨n, p1, hn⟩ := (hf 1 _ rfl).i64 Tryd.underlying2
 replace p1 : (cs.drop 1).take 1 = [.int .i64 n] := cut_is p1 (show Tryd.prog.cellsOf 2 = 1 from by kernel_rfl)
 obtain ⟨x, p2, hx⟩ := (hf 2 _ rfl).flt Tryd.underlying54
 replace p2 : (cs.drop 2).take 1 = [.float .f64 x] := cut_is p2 (show Tryd.prog.cellsOf 54 = 1 from by kernel_rfl)
 have g := glue (glue (glue (off := 0) (A := []) rfl p0) p1) p2
 rw [List.take_of_length_le (by omega)] at g
 exact ⟨r, n, x, g, hn, hx⟩
end
end Go.Proofs.YtkojcamlllenkaaDoor
/- Rows that come in: what their cells hold. No conditions. -/
namespace Go.Proofs.YtkojcamlllenkaaDoor
open Go.RowKit

/-- rows as they lie in memory -/
def rowCells : List (RowL × (List Int × List (Bool × Int × Nat))) → List Value
 | [] => []
 | z :: r => .slice z.1.ca z.1.cn z.1.cc :: .slice z.1.va z.1.vn z.1.vc :: rowCells r
def RowsAt (w : World) (a : Option Addr) (n c : Nat) (zs : List (RowL × (List Int × List (Bool × Int × Nat)))) : Prop :=
 RowG 2 w a n c (rowCells zs) ∧ zs.length = n ∧ ∀ z ∈ zs, RowAt w z.1 z.2
theorem RowsAt.below {w w' : World} {a : Option Addr} {n c B : Nat} {zs : List (RowL × (List Int × List (Bool × Int × Nat)))} (h : RowsAt w a n c zs) (hb : Below B w w') (hB : w.heap.size ≤ B) : RowsAt w' a n c zs :=
 ⟨h.1.below hb hB, h.2.1, fun z hz => (h.2.2 z hz).below hb hB⟩
section
variable {H : Type} {enc : TypeId × Value → H} {w : World} {base : Nat} {spare : Nat → Bool} {held : Bool}
theorem valCells_flat : ∀ vs : List (Bool × Int × Nat), valCells vs = vs.flatMap fun v => [.bool v.1, .int .i64 v.2.1, .float .f64 v.2.2]
 | [] => rfl
 | v :: vs => by rw [List.flatMap_cons, ← valCells_flat vs]; rfl
theorem rowCells_flat : ∀ zs : List (RowL × (List Int × List (Bool × Int × Nat))), rowCells zs = zs.flatMap fun z => [.slice z.1.ca z.1.cn z.1.cc, .slice z.1.va z.1.vn z.1.vc]
 | [] => rfl
 | z :: zs => by rw [List.flatMap_cons, ← rowCells_flat zs]; rfl
theorem opn_row {cs : List Value} (hsp : ∀ b, spare b = true) (h : Trd enc Tryd.prog w base spare held 49 cs) : ∃ z : RowL × (List Int × List (Bool × Int × Nat)), cs = [.slice z.1.ca z.1.cn z.1.cc, .slice z.1.va z.1.vn z.1.vc] ∧ RowAt w z.1 z.2 := by
 obtain ⟨hl, hf⟩ := h.struct Tryd.underlying49
 rw [show Tryd.prog.cellsOf 49 = 2 from by kernel_rfl] at hl
 obtain ⟨a, n, c, zs, p0, h02, h03⟩ := (hf 0 _ rfl).i64s Tryd.underlying46 Tryd.underlying3 (by kernel_rfl) hsp
 replace p0 : (cs.drop 0).take 1 = [.slice a n c] := cut_is p0 (show Tryd.prog.cellsOf 46 = 1 from by kernel_rfl)
 obtain ⟨va, vn, vc, vs, p1, h11, h12, h13⟩ := (hf 1 _ rfl).slice (fun v : Bool × Int × Nat => [.bool v.1, .int .i64 v.2.1, .float .f64 v.2.2]) ValOk Tryd.underlying47 (sz := 3) (by kernel_rfl) (by decide) (fun _ => rfl) (fun cs hc => by
  obtain ⟨r, n, x, e, hn, hx⟩ := opn_val hc
  exact ⟨(r, n, x), e, hn, hx⟩) hsp
 replace p1 : (cs.drop 1).take 1 = [.slice va vn vc] := cut_is p1 (show Tryd.prog.cellsOf 47 = 1 from by kernel_rfl)
 have g := glue (glue (off := 0) (A := []) rfl p0) p1
 rw [List.take_of_length_le (by omega)] at g
 exact ⟨(⟨a, n, c, va, vn, vc⟩, (zs, vs)), g, h02, by rw [valCells_flat]; exact h12, h11, h03, h13⟩
theorem opn_rows {cs : List Value} (hsp : ∀ b, spare b = true) (h : Trd enc Tryd.prog w base spare held 33 cs) : ∃ (a : Option Addr) (n c : Nat) (zs : List (RowL × (List Int × List (Bool × Int × Nat)))), cs = [.slice a n c] ∧ RowsAt w a n c zs := by
 obtain ⟨a, n, c, zs, h1, h2, h3, h4⟩ := h.slice (fun z : RowL × (List Int × List (Bool × Int × Nat)) => [.slice z.1.ca z.1.cn z.1.cc, .slice z.1.va z.1.vn z.1.vc]) (fun z => RowAt w z.1 z.2) Tryd.underlying33 (sz := 2) (by kernel_rfl) (by decide) (fun _ => rfl) (fun cs hc => opn_row hsp hc) hsp
 exact ⟨a, n, c, zs, h1, by rw [rowCells_flat]; exact h3, h2, h4⟩
end
end Go.Proofs.YtkojcamlllenkaaDoor
