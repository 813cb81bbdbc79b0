/- A query that comes in: what its cells hold. No conditions. -/
import Derived.Test.YtkojcamlllenkaaDoorMOpn
import Derived.Test.YtkojcamlllenkaaDoorMSch
namespace Go.Proofs.YtkojcamlllenkaaDoor
open Go.RowKit

section
variable {H : Type} {enc : TypeId × Value → H} {w : World} {base : Nat} {spare : Nat → Bool} {held : Bool}
theorem opn_flt {cs : List Value} (hsp : ∀ b, spare b = true) (h : Trd enc Tryd.prog w base spare held 79 cs) : ∃ z : Flt, cs = [.int .i64 z.dim, .slice z.a z.n z.c] ∧ (RowK .i64 w z.a z.n z.c z.codes ∧ -9223372036854775808 ≤ z.dim ∧ z.dim ≤ 9223372036854775807 ∧ ∀ x ∈ z.codes, -9223372036854775808 ≤ x ∧ x ≤ 9223372036854775807) := by
 obtain ⟨hl, hf⟩ := h.struct Tryd.underlying79
 rw [show Tryd.prog.cellsOf 79 = 2 from by kernel_rfl] at hl
 obtain ⟨k, p0, hk⟩ := (hf 0 _ rfl).i64 Tryd.underlying3
 replace p0 : (cs.drop 0).take 1 = [.int .i64 k] := cut_is p0 (show Tryd.prog.cellsOf 3 = 1 from by kernel_rfl)
 obtain ⟨a, n, c, zs, p1, h12, h13⟩ := (hf 1 _ rfl).i64s Tryd.underlying46 Tryd.underlying3 (by kernel_rfl) hsp
 replace p1 : (cs.drop 1).take 1 = [.slice a n c] := cut_is p1 (show Tryd.prog.cellsOf 46 = 1 from by kernel_rfl)
 have g := glue (glue (off := 0) (A := []) rfl p0) p1
 rw [List.take_of_length_le (by omega)] at g
 exact ⟨⟨k, zs, a, n, c⟩, g, h12, hk.1, hk.2, h13⟩
theorem opn_sort {cs : List Value} (h : Trd enc Tryd.prog w base spare held 90 cs) : ∃ z : Int × Bool, cs = [.int .i64 z.1, .bool z.2] ∧ (-9223372036854775808 ≤ z.1 ∧ z.1 ≤ 9223372036854775807) := by
 obtain ⟨hl, hf⟩ := h.struct Tryd.underlying90
 rw [show Tryd.prog.cellsOf 90 = 2 from by kernel_rfl] at hl
 obtain ⟨k, p0, hk⟩ := (hf 0 _ rfl).i64 Tryd.underlying3
 replace p0 : (cs.drop 0).take 1 = [.int .i64 k] := cut_is p0 (show Tryd.prog.cellsOf 3 = 1 from by kernel_rfl)
 obtain ⟨b, p1⟩ := (hf 1 _ rfl).bool Tryd.underlying4
 replace p1 : (cs.drop 1).take 1 = [.bool b] := cut_is p1 (show Tryd.prog.cellsOf 4 = 1 from by kernel_rfl)
 have g := glue (glue (off := 0) (A := []) rfl p0) p1
 rw [List.take_of_length_le (by omega)] at g
 exact ⟨(k, b), g, hk⟩
theorem fltCells_flat : ∀ fs : List Flt, fltCells fs = fs.flatMap fun z => [.int .i64 z.dim, .slice z.a z.n z.c]
 | [] => rfl
 | d :: ds => by rw [List.flatMap_cons, ← fltCells_flat ds]; rfl
theorem colCells_flat : ∀ fs : List (Int × Int), colCells fs = fs.flatMap fun z => [.int .i64 z.1, .int .i64 z.2]
 | [] => rfl
 | d :: ds => by rw [List.flatMap_cons, ← colCells_flat ds]; rfl
theorem ordCells_flat : ∀ fs : List (Int × Bool), ordCells fs = fs.flatMap fun z => [.int .i64 z.1, .bool z.2]
 | [] => rfl
 | d :: ds => by rw [List.flatMap_cons, ← ordCells_flat ds]; rfl
theorem opn_query {cs : List Value} (hsp : ∀ b, spare b = true) (h : Trd enc Tryd.prog w base spare held 32 cs) : ∃ (l : QryL) (q : Qry), cs = [.int .u32 q.group, .slice l.af l.nf l.cf, .slice l.ac l.nc l.cc, .slice l.ao l.no l.co, .int .i64 q.limit] ∧ QryAt w l q := by
 obtain ⟨hl, hf⟩ := h.struct Tryd.underlying32
 rw [show Tryd.prog.cellsOf 32 = 5 from by kernel_rfl] at hl
 obtain ⟨g, p0, hg⟩ := (hf 0 _ rfl).u32 Tryd.underlying27
 replace p0 : (cs.drop 0).take 1 = [.int .u32 g] := cut_is p0 (show Tryd.prog.cellsOf 27 = 1 from by kernel_rfl)
 obtain ⟨af, nf, cf, fs, p1, h11, h12, h13⟩ := (hf 1 _ rfl).slice (fun z : Flt => [.int .i64 z.dim, .slice z.a z.n z.c]) _ Tryd.underlying28 (sz := 2) (by kernel_rfl) (by decide) (fun _ => rfl) (fun cs hc => opn_flt hsp hc) hsp
 replace p1 : (cs.drop 1).take 1 = [.slice af nf cf] := cut_is p1 (show Tryd.prog.cellsOf 28 = 1 from by kernel_rfl)
 obtain ⟨ac, nc, cc, ks, p2, h21, h22, h23⟩ := (hf 2 _ rfl).slice (fun z : Int × Int => [.int .i64 z.1, .int .i64 z.2]) _ Tryd.underlying29 (sz := 2) (by kernel_rfl) (by decide) (fun _ => rfl) (fun cs hc => opn_col hc) hsp
 replace p2 : (cs.drop 2).take 1 = [.slice ac nc cc] := cut_is p2 (show Tryd.prog.cellsOf 29 = 1 from by kernel_rfl)
 obtain ⟨ao, no, co, os, p3, h31, h32, h33⟩ := (hf 3 _ rfl).slice (fun z : Int × Bool => [.int .i64 z.1, .bool z.2]) _ Tryd.underlying30 (sz := 2) (by kernel_rfl) (by decide) (fun _ => rfl) (fun cs hc => opn_sort hc) hsp
 replace p3 : (cs.drop 3).take 1 = [.slice ao no co] := cut_is p3 (show Tryd.prog.cellsOf 30 = 1 from by kernel_rfl)
 obtain ⟨lm, p4, hlm⟩ := (hf 4 _ rfl).i64 Tryd.underlying3
 replace p4 : (cs.drop 4).take 1 = [.int .i64 lm] := cut_is p4 (show Tryd.prog.cellsOf 3 = 1 from by kernel_rfl)
 have gg := glue (glue (glue (glue (glue (off := 0) (A := []) rfl p0) p1) p2) p3) p4
 rw [List.take_of_length_le (by omega)] at gg
 exact ⟨⟨af, nf, cf, ac, nc, cc, ao, no, co⟩, ⟨g, fs, ks, os, lm⟩, gg, ⟨by rw [fltCells_flat]; exact h12, h11, h13⟩, by rw [colCells_flat]; exact h22, h21, by rw [ordCells_flat]; exact h32, h31, hg, hlm, h23, h33⟩
end
end Go.Proofs.YtkojcamlllenkaaDoor
