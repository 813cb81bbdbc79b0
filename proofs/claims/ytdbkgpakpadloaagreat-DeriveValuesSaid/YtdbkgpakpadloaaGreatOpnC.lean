/- Cells that come in: what their cells hold. No conditions. -/
import Derived.Test.YtdbkgpakpadloaaGreatMOpn
import Derived.Test.YtdbkgpakpadloaaGreatMDer
namespace Go.Proofs.YtdbkgpakpadloaaGreat
open Go.RowKit

section
variable {H : Type} {enc : TypeId × Value → H} {w : World} {base : Nat} {spare : Nat → Bool} {held : Bool}
theorem opn_whole {cs : List Value} (hsp : ∀ b, spare b = true) (h : Trd enc Tryz.prog w base spare held 59 cs) : ∃ z : Whl, cs = [.int .i64 z.sum, .int .i64 z.abs, .slice z.a z.n z.c, .int .i64 z.min, .int .i64 z.max] ∧ z.at_ w := by
 obtain ⟨hl, hf⟩ := h.struct Tryz.underlying59
 rw [show Tryz.prog.cellsOf 59 = 5 from by kernel_rfl] at hl
 obtain ⟨s, p0, hs⟩ := (hf 0 _ rfl).i64 Tryz.underlying2
 replace p0 : (cs.drop 0).take 1 = [.int .i64 s] := cut_is p0 (show Tryz.prog.cellsOf 2 = 1 from by kernel_rfl)
 obtain ⟨b, p1, hb⟩ := (hf 1 _ rfl).i64 Tryz.underlying2
 replace p1 : (cs.drop 1).take 1 = [.int .i64 b] := cut_is p1 (show Tryz.prog.cellsOf 2 = 1 from by kernel_rfl)
 obtain ⟨a, n, c, q, p2, hr, hq⟩ := (hf 2 _ rfl).u32s Tryz.underlying24 Tryz.underlying55 (by kernel_rfl) hsp
 replace p2 : (cs.drop 2).take 1 = [.slice a n c] := cut_is p2 (show Tryz.prog.cellsOf 24 = 1 from by kernel_rfl)
 obtain ⟨mn, p3, hmn⟩ := (hf 3 _ rfl).i64 Tryz.underlying2
 replace p3 : (cs.drop 3).take 1 = [.int .i64 mn] := cut_is p3 (show Tryz.prog.cellsOf 2 = 1 from by kernel_rfl)
 obtain ⟨mx, p4, hmx⟩ := (hf 4 _ rfl).i64 Tryz.underlying2
 replace p4 : (cs.drop 4).take 1 = [.int .i64 mx] := cut_is p4 (show Tryz.prog.cellsOf 2 = 1 from by kernel_rfl)
 have g := glue (glue (glue (glue (glue (off := 0) (A := []) rfl p0) p1) p2) p3) p4
 rw [List.take_of_length_le (by omega)] at g
 exact ⟨⟨s, b, q, a, n, c, mn, mx⟩, g, hr, fun z hz => ⟨(hq z hz).1, by have := (hq z hz).2; omega⟩, hs, hb, hmn, hmx⟩
theorem opn_real {cs : List Value} (hsp : ∀ b, spare b = true) (h : Trd enc Tryz.prog w base spare held 62 cs) : ∃ z : Rel, cs = [.slice z.a z.n z.c, .float .f64 z.min, .float .f64 z.max] ∧ z.at_ w := by
 obtain ⟨hl, hf⟩ := h.struct Tryz.underlying62
 rw [show Tryz.prog.cellsOf 62 = 3 from by kernel_rfl] at hl
 obtain ⟨a, n, c, q, p0, hr, hq⟩ := (hf 0 _ rfl).u8s Tryz.underlying60 Tryz.underlying5 (by kernel_rfl) hsp
 replace p0 : (cs.drop 0).take 1 = [.slice a n c] := cut_is p0 (show Tryz.prog.cellsOf 60 = 1 from by kernel_rfl)
 obtain ⟨mn, p1, hmn⟩ := (hf 1 _ rfl).flt Tryz.underlying38
 replace p1 : (cs.drop 1).take 1 = [.float .f64 mn] := cut_is p1 (show Tryz.prog.cellsOf 38 = 1 from by kernel_rfl)
 obtain ⟨mx, p2, hmx⟩ := (hf 2 _ rfl).flt Tryz.underlying38
 replace p2 : (cs.drop 2).take 1 = [.float .f64 mx] := cut_is p2 (show Tryz.prog.cellsOf 38 = 1 from by kernel_rfl)
 have g := glue (glue (glue (off := 0) (A := []) rfl p0) p1) p2
 rw [List.take_of_length_le (by omega)] at g
 exact ⟨⟨q, a, n, c, mn, mx⟩, g, hr, hq, hmn, hmx⟩
theorem whlCells_flat : ∀ ds : List Whl, whlCells ds = ds.flatMap fun z => [.int .i64 z.sum, .int .i64 z.abs, .slice z.a z.n z.c, .int .i64 z.min, .int .i64 z.max]
 | [] => rfl
 | d :: ds => by rw [List.flatMap_cons, ← whlCells_flat ds]; rfl
theorem relCells_flat : ∀ ds : List Rel, relCells ds = ds.flatMap fun z => [.slice z.a z.n z.c, .float .f64 z.min, .float .f64 z.max]
 | [] => rfl
 | d :: ds => by rw [List.flatMap_cons, ← relCells_flat ds]; rfl
theorem opn_cell {cs : List Value} (hsp : ∀ b, spare b = true) (h : Trd enc Tryz.prog w base spare held 33 cs) : ∃ (l : CellL) (c : CellV), cs = [.int .u64 c.key, .int .i64 c.count, .slice l.ai l.ni l.ci, .slice l.an l.nn l.cn] ∧ CellAt w l c := by
 obtain ⟨hl, hf⟩ := h.struct Tryz.underlying33
 rw [show Tryz.prog.cellsOf 33 = 4 from by kernel_rfl] at hl
 obtain ⟨ky, p0, hky⟩ := (hf 0 _ rfl).u64 Tryz.underlying29
 replace p0 : (cs.drop 0).take 1 = [.int .u64 ky] := cut_is p0 (show Tryz.prog.cellsOf 29 = 1 from by kernel_rfl)
 obtain ⟨ct, p1, hct⟩ := (hf 1 _ rfl).i64 Tryz.underlying2
 replace p1 : (cs.drop 1).take 1 = [.int .i64 ct] := cut_is p1 (show Tryz.prog.cellsOf 2 = 1 from by kernel_rfl)
 obtain ⟨ai, ni, ci, is, p2, h21, h22, h23⟩ := (hf 2 _ rfl).slice (fun z : Whl => [.int .i64 z.sum, .int .i64 z.abs, .slice z.a z.n z.c, .int .i64 z.min, .int .i64 z.max]) _ Tryz.underlying30 (sz := 5) (by kernel_rfl) (by decide) (fun _ => rfl) (fun cs hc => opn_whole hsp hc) hsp
 replace p2 : (cs.drop 2).take 1 = [.slice ai ni ci] := cut_is p2 (show Tryz.prog.cellsOf 30 = 1 from by kernel_rfl)
 obtain ⟨an, nn, cn, ns, p3, h31, h32, h33⟩ := (hf 3 _ rfl).slice (fun z : Rel => [.slice z.a z.n z.c, .float .f64 z.min, .float .f64 z.max]) _ Tryz.underlying31 (sz := 3) (by kernel_rfl) (by decide) (fun _ => rfl) (fun cs hc => opn_real hsp hc) hsp
 replace p3 : (cs.drop 3).take 1 = [.slice an nn cn] := cut_is p3 (show Tryz.prog.cellsOf 31 = 1 from by kernel_rfl)
 have g := glue (glue (glue (glue (off := 0) (A := []) rfl p0) p1) p2) p3
 rw [List.take_of_length_le (by omega)] at g
 exact ⟨⟨ai, ni, ci, an, nn, cn⟩, ⟨ky, ct, is, ns⟩, g, by rw [whlCells_flat]; exact h22, h21, by rw [relCells_flat]; exact h32, h31, hky, hct, h23, h33⟩
theorem opn_cell2 {cs : List Value} (hsp : ∀ b, spare b = true) (h : Trd enc Tryz.prog w base spare held 34 cs) : ∃ (l : CellL) (c : CellV) (l2 : CellL) (c2 : CellV),
  cs = [.int .u64 c.key, .int .i64 c.count, .slice l.ai l.ni l.ci, .slice l.an l.nn l.cn, .int .u64 c2.key, .int .i64 c2.count, .slice l2.ai l2.ni l2.ci, .slice l2.an l2.nn l2.cn] ∧ CellAt w l c ∧ CellAt w l2 c2 := by
 obtain ⟨hl, hf⟩ := h.array Tryz.underlying34
 rw [show Tryz.prog.cellsOf 34 = 8 from by kernel_rfl] at hl
 rw [show Tryz.prog.cellsOf 33 = 4 from by kernel_rfl] at hf
 obtain ⟨l, c, p0, h0⟩ := opn_cell hsp (hf 0 (by decide))
 obtain ⟨l2, c2, p1, h1⟩ := opn_cell hsp (hf 1 (by decide))
 rw [Nat.zero_mul] at p0
 rw [Nat.one_mul] at p1
 have g := glue (glue (off := 0) (A := []) rfl p0) p1
 rw [List.take_of_length_le (by omega)] at g
 exact ⟨l, c, l2, c2, g, h0, h1⟩
end
end Go.Proofs.YtdbkgpakpadloaaGreat
