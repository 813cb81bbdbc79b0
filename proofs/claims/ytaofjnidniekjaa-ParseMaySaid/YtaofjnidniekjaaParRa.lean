/- The reference's reading (package bushelref36): its state, and next, is, on, fail, want. Conditions: those stated. -/
import Derived.Test.YtaofjnidniekjaaParC
import Derived.Test.YtaofjnidniekjaaParR
namespace Go.Proofs.Ytaofjnidniekjaa
open Go.RowKit

/-- what lies under a reading -/
structure RX where
  l : SchL
  s : Sch
  ta : Option Addr
  tc : Nat
  L : List Tok
structure RX.At (X : RX) (w : World) : Prop where
  sch : SchAt w X.l X.s
  chk : chkS X.s = 0
  tok : OwnT w 0 31 (.slice X.ta X.L.length X.tc) X.L.length X.L
  good : TokOk X.L
theorem RX.At.below {X : RX} {w w' : World} {B : Nat} (h : X.At w) (hb : Below B w w') (hB : w.heap.size ≤ B) : X.At w' := ⟨h.sch.below hb hB, h.chk, h.tok.below hb hB, h.good⟩
/-- a state's value: its query's rows at the places m -/
def StV (X : RX) (m : QryL) (p : PState) : Value := .agg #[.slice X.l.ad X.l.nd X.l.cd, .slice X.l.ai X.l.ni X.l.ci, .slice X.l.an X.l.nn X.l.cn, .slice X.l.av X.l.nv X.l.cv, .slice X.ta X.L.length X.tc, .int .i64 (p.at' : Int), .int .u32 p.q.group, .slice m.af m.nf m.cf, .slice m.ac m.nc m.cc, .slice m.ao m.no m.co, .int .i64 p.q.limit, .int .i64 (p.err : Int)]
theorem tok_f0' (k n a : Int) (t : ByteArray) (w : World) : (Instr.field 31 (.agg #[.int .i64 k, .string t, .int .i64 n, .int .i64 a]) 0).run Try.prog w = .ok (.int .i64 k) w := by kernel_rfl
theorem tok_f1' (k n a : Int) (t : ByteArray) (w : World) : (Instr.field 31 (.agg #[.int .i64 k, .string t, .int .i64 n, .int .i64 a]) 1).run Try.prog w = .ok (.string t) w := by kernel_rfl
theorem tok_f2' (k n a : Int) (t : ByteArray) (w : World) : (Instr.field 31 (.agg #[.int .i64 k, .string t, .int .i64 n, .int .i64 a]) 2).run Try.prog w = .ok (.int .i64 n) w := by kernel_rfl
theorem tok_f3' (k n a : Int) (t : ByteArray) (w : World) : (Instr.field 31 (.agg #[.int .i64 k, .string t, .int .i64 n, .int .i64 a]) 3).run Try.prog w = .ok (.int .i64 a) w := by kernel_rfl

theorem blk_st4 {w : World} {b : Nat} {t : TypeId} {d0 d1 d2 d3 : Value} (h : Blk w b t #[d0, d1, d2, d3]) (c0 c1 c2 c3 : Value) : Blk ((((w.setCell ⟨b, 0, none⟩ (c0)).setCell ⟨b, 1, none⟩ (c1)).setCell ⟨b, 2, none⟩ (c2)).setCell ⟨b, 3, none⟩ (c3)) b t #[c0, c1, c2, c3] := ((((((((h.set_ 0 c0).to (cs' := #[c0, d1, d2, d3]) rfl).set_ 1 c1).to (cs' := #[c0, c1, d2, d3]) rfl).set_ 2 c2).to (cs' := #[c0, c1, c2, d3]) rfl).set_ 3 c3).to (cs' := #[c0, c1, c2, c3]) rfl)
theorem blk_far4 {w : World} {b g : Nat} {t : TypeId} {cs : Array Value} (h : Blk w g t cs) (hne : g ≠ b) (c0 c1 c2 c3 : Value) : Blk ((((w.setCell ⟨b, 0, none⟩ (c0)).setCell ⟨b, 1, none⟩ (c1)).setCell ⟨b, 2, none⟩ (c2)).setCell ⟨b, 3, none⟩ (c3)) g t cs := ((((h.far (p := ⟨b, 0, none⟩) hne c0).far (p := ⟨b, 1, none⟩) hne c1).far (p := ⟨b, 2, none⟩) hne c2).far (p := ⟨b, 3, none⟩) hne c3)
theorem below_st4 {w0 w : World} {B b : Nat} (hb : Below B w0 w) (hB : B ≤ b) (c0 c1 c2 c3 : Value) : Below B w0 ((((w.setCell ⟨b, 0, none⟩ (c0)).setCell ⟨b, 1, none⟩ (c1)).setCell ⟨b, 2, none⟩ (c2)).setCell ⟨b, 3, none⟩ (c3)) := (below_set (below_set (below_set (below_set hb (p := ⟨b, 0, none⟩) hB c0) (p := ⟨b, 1, none⟩) hB c1) (p := ⟨b, 2, none⟩) hB c2) (p := ⟨b, 3, none⟩) hB c3)
theorem size_st4 {w : World} {b : Nat} (c0 c1 c2 c3 : Value) : ((((w.setCell ⟨b, 0, none⟩ (c0)).setCell ⟨b, 1, none⟩ (c1)).setCell ⟨b, 2, none⟩ (c2)).setCell ⟨b, 3, none⟩ (c3)).heap.size = w.heap.size := by simp
theorem blk_st5 {w : World} {b : Nat} {t : TypeId} {d0 d1 d2 d3 d4 : Value} (h : Blk w b t #[d0, d1, d2, d3, d4]) (c0 c1 c2 c3 c4 : Value) : Blk (((((w.setCell ⟨b, 0, none⟩ (c0)).setCell ⟨b, 1, none⟩ (c1)).setCell ⟨b, 2, none⟩ (c2)).setCell ⟨b, 3, none⟩ (c3)).setCell ⟨b, 4, none⟩ (c4)) b t #[c0, c1, c2, c3, c4] := ((((((((((h.set_ 0 c0).to (cs' := #[c0, d1, d2, d3, d4]) rfl).set_ 1 c1).to (cs' := #[c0, c1, d2, d3, d4]) rfl).set_ 2 c2).to (cs' := #[c0, c1, c2, d3, d4]) rfl).set_ 3 c3).to (cs' := #[c0, c1, c2, c3, d4]) rfl).set_ 4 c4).to (cs' := #[c0, c1, c2, c3, c4]) rfl)
theorem blk_far5 {w : World} {b g : Nat} {t : TypeId} {cs : Array Value} (h : Blk w g t cs) (hne : g ≠ b) (c0 c1 c2 c3 c4 : Value) : Blk (((((w.setCell ⟨b, 0, none⟩ (c0)).setCell ⟨b, 1, none⟩ (c1)).setCell ⟨b, 2, none⟩ (c2)).setCell ⟨b, 3, none⟩ (c3)).setCell ⟨b, 4, none⟩ (c4)) g t cs := (((((h.far (p := ⟨b, 0, none⟩) hne c0).far (p := ⟨b, 1, none⟩) hne c1).far (p := ⟨b, 2, none⟩) hne c2).far (p := ⟨b, 3, none⟩) hne c3).far (p := ⟨b, 4, none⟩) hne c4)
theorem below_st5 {w0 w : World} {B b : Nat} (hb : Below B w0 w) (hB : B ≤ b) (c0 c1 c2 c3 c4 : Value) : Below B w0 (((((w.setCell ⟨b, 0, none⟩ (c0)).setCell ⟨b, 1, none⟩ (c1)).setCell ⟨b, 2, none⟩ (c2)).setCell ⟨b, 3, none⟩ (c3)).setCell ⟨b, 4, none⟩ (c4)) := (below_set (below_set (below_set (below_set (below_set hb (p := ⟨b, 0, none⟩) hB c0) (p := ⟨b, 1, none⟩) hB c1) (p := ⟨b, 2, none⟩) hB c2) (p := ⟨b, 3, none⟩) hB c3) (p := ⟨b, 4, none⟩) hB c4)
theorem size_st5 {w : World} {b : Nat} (c0 c1 c2 c3 c4 : Value) : (((((w.setCell ⟨b, 0, none⟩ (c0)).setCell ⟨b, 1, none⟩ (c1)).setCell ⟨b, 2, none⟩ (c2)).setCell ⟨b, 3, none⟩ (c3)).setCell ⟨b, 4, none⟩ (c4)).heap.size = w.heap.size := by simp
theorem blk_st12 {w : World} {b : Nat} {t : TypeId} {d0 d1 d2 d3 d4 d5 d6 d7 d8 d9 d10 d11 : Value} (h : Blk w b t #[d0, d1, d2, d3, d4, d5, d6, d7, d8, d9, d10, d11]) (c0 c1 c2 c3 c4 c5 c6 c7 c8 c9 c10 c11 : Value) : Blk ((((((((((((w.setCell ⟨b, 0, none⟩ (c0)).setCell ⟨b, 1, none⟩ (c1)).setCell ⟨b, 2, none⟩ (c2)).setCell ⟨b, 3, none⟩ (c3)).setCell ⟨b, 4, none⟩ (c4)).setCell ⟨b, 5, none⟩ (c5)).setCell ⟨b, 6, none⟩ (c6)).setCell ⟨b, 7, none⟩ (c7)).setCell ⟨b, 8, none⟩ (c8)).setCell ⟨b, 9, none⟩ (c9)).setCell ⟨b, 10, none⟩ (c10)).setCell ⟨b, 11, none⟩ (c11)) b t #[c0, c1, c2, c3, c4, c5, c6, c7, c8, c9, c10, c11] := ((((((((((((((((((((((((h.set_ 0 c0).to (cs' := #[c0, d1, d2, d3, d4, d5, d6, d7, d8, d9, d10, d11]) rfl).set_ 1 c1).to (cs' := #[c0, c1, d2, d3, d4, d5, d6, d7, d8, d9, d10, d11]) rfl).set_ 2 c2).to (cs' := #[c0, c1, c2, d3, d4, d5, d6, d7, d8, d9, d10, d11]) rfl).set_ 3 c3).to (cs' := #[c0, c1, c2, c3, d4, d5, d6, d7, d8, d9, d10, d11]) rfl).set_ 4 c4).to (cs' := #[c0, c1, c2, c3, c4, d5, d6, d7, d8, d9, d10, d11]) rfl).set_ 5 c5).to (cs' := #[c0, c1, c2, c3, c4, c5, d6, d7, d8, d9, d10, d11]) rfl).set_ 6 c6).to (cs' := #[c0, c1, c2, c3, c4, c5, c6, d7, d8, d9, d10, d11]) rfl).set_ 7 c7).to (cs' := #[c0, c1, c2, c3, c4, c5, c6, c7, d8, d9, d10, d11]) rfl).set_ 8 c8).to (cs' := #[c0, c1, c2, c3, c4, c5, c6, c7, c8, d9, d10, d11]) rfl).set_ 9 c9).to (cs' := #[c0, c1, c2, c3, c4, c5, c6, c7, c8, c9, d10, d11]) rfl).set_ 10 c10).to (cs' := #[c0, c1, c2, c3, c4, c5, c6, c7, c8, c9, c10, d11]) rfl).set_ 11 c11).to (cs' := #[c0, c1, c2, c3, c4, c5, c6, c7, c8, c9, c10, c11]) rfl)
theorem blk_far12 {w : World} {b g : Nat} {t : TypeId} {cs : Array Value} (h : Blk w g t cs) (hne : g ≠ b) (c0 c1 c2 c3 c4 c5 c6 c7 c8 c9 c10 c11 : Value) : Blk ((((((((((((w.setCell ⟨b, 0, none⟩ (c0)).setCell ⟨b, 1, none⟩ (c1)).setCell ⟨b, 2, none⟩ (c2)).setCell ⟨b, 3, none⟩ (c3)).setCell ⟨b, 4, none⟩ (c4)).setCell ⟨b, 5, none⟩ (c5)).setCell ⟨b, 6, none⟩ (c6)).setCell ⟨b, 7, none⟩ (c7)).setCell ⟨b, 8, none⟩ (c8)).setCell ⟨b, 9, none⟩ (c9)).setCell ⟨b, 10, none⟩ (c10)).setCell ⟨b, 11, none⟩ (c11)) g t cs := ((((((((((((h.far (p := ⟨b, 0, none⟩) hne c0).far (p := ⟨b, 1, none⟩) hne c1).far (p := ⟨b, 2, none⟩) hne c2).far (p := ⟨b, 3, none⟩) hne c3).far (p := ⟨b, 4, none⟩) hne c4).far (p := ⟨b, 5, none⟩) hne c5).far (p := ⟨b, 6, none⟩) hne c6).far (p := ⟨b, 7, none⟩) hne c7).far (p := ⟨b, 8, none⟩) hne c8).far (p := ⟨b, 9, none⟩) hne c9).far (p := ⟨b, 10, none⟩) hne c10).far (p := ⟨b, 11, none⟩) hne c11)
theorem below_st12 {w0 w : World} {B b : Nat} (hb : Below B w0 w) (hB : B ≤ b) (c0 c1 c2 c3 c4 c5 c6 c7 c8 c9 c10 c11 : Value) : Below B w0 ((((((((((((w.setCell ⟨b, 0, none⟩ (c0)).setCell ⟨b, 1, none⟩ (c1)).setCell ⟨b, 2, none⟩ (c2)).setCell ⟨b, 3, none⟩ (c3)).setCell ⟨b, 4, none⟩ (c4)).setCell ⟨b, 5, none⟩ (c5)).setCell ⟨b, 6, none⟩ (c6)).setCell ⟨b, 7, none⟩ (c7)).setCell ⟨b, 8, none⟩ (c8)).setCell ⟨b, 9, none⟩ (c9)).setCell ⟨b, 10, none⟩ (c10)).setCell ⟨b, 11, none⟩ (c11)) := (below_set (below_set (below_set (below_set (below_set (below_set (below_set (below_set (below_set (below_set (below_set (below_set hb (p := ⟨b, 0, none⟩) hB c0) (p := ⟨b, 1, none⟩) hB c1) (p := ⟨b, 2, none⟩) hB c2) (p := ⟨b, 3, none⟩) hB c3) (p := ⟨b, 4, none⟩) hB c4) (p := ⟨b, 5, none⟩) hB c5) (p := ⟨b, 6, none⟩) hB c6) (p := ⟨b, 7, none⟩) hB c7) (p := ⟨b, 8, none⟩) hB c8) (p := ⟨b, 9, none⟩) hB c9) (p := ⟨b, 10, none⟩) hB c10) (p := ⟨b, 11, none⟩) hB c11)
theorem size_st12 {w : World} {b : Nat} (c0 c1 c2 c3 c4 c5 c6 c7 c8 c9 c10 c11 : Value) : ((((((((((((w.setCell ⟨b, 0, none⟩ (c0)).setCell ⟨b, 1, none⟩ (c1)).setCell ⟨b, 2, none⟩ (c2)).setCell ⟨b, 3, none⟩ (c3)).setCell ⟨b, 4, none⟩ (c4)).setCell ⟨b, 5, none⟩ (c5)).setCell ⟨b, 6, none⟩ (c6)).setCell ⟨b, 7, none⟩ (c7)).setCell ⟨b, 8, none⟩ (c8)).setCell ⟨b, 9, none⟩ (c9)).setCell ⟨b, 10, none⟩ (c10)).setCell ⟨b, 11, none⟩ (c11)).heap.size = w.heap.size := by simp
theorem blk12 {w : World} {b : Nat} {t : TypeId} {d0 d1 d2 d3 d4 d5 d6 d7 d8 d9 d10 d11 : Value} (h : Blk w b t #[d0, d1, d2, d3, d4, d5, d6, d7, d8, d9, d10, d11]) : w.cell? ⟨b, 0, none⟩ = some d0 ∧ w.cell? ⟨b, 1, none⟩ = some d1 ∧ w.cell? ⟨b, 2, none⟩ = some d2 ∧ w.cell? ⟨b, 3, none⟩ = some d3 ∧ w.cell? ⟨b, 4, none⟩ = some d4 ∧ w.cell? ⟨b, 5, none⟩ = some d5 ∧ w.cell? ⟨b, 6, none⟩ = some d6 ∧ w.cell? ⟨b, 7, none⟩ = some d7 ∧ w.cell? ⟨b, 8, none⟩ = some d8 ∧ w.cell? ⟨b, 9, none⟩ = some d9 ∧ w.cell? ⟨b, 10, none⟩ = some d10 ∧ w.cell? ⟨b, 11, none⟩ = some d11 := ⟨h.cell 0, h.cell 1, h.cell 2, h.cell 3, h.cell 4, h.cell 5, h.cell 6, h.cell 7, h.cell 8, h.cell 9, h.cell 10, h.cell 11⟩
set_option maxRecDepth 100000 in
theorem vnext_any (X : RX) (m : QryL) (p : PState) (w : World) (hX : X.At w) (hi : p.at' < X.L.length) :
    Calls Try.prog 34 #[StV X m p] w fun e w' => e = .returned (tokAt X.L p.at').val ∧ Below w.heap.size w w' := by
  have HX := Lib.hid hX
  obtain ⟨⟨ad, nd, cd, ai, ni, ci, an, nn, cn, av, nv, cv⟩, s, ta, tc, L⟩ := X
  obtain ⟨af, nf, cf, ac, nc, cc, ao, no, co⟩ := m
  obtain ⟨i, ⟨g, fq, cq, oq, lm⟩, er⟩ := p
  (try dsimp only at *)
  obtain ⟨W0, hW0⟩ : ∃ W0, ((w.alloc (.cells #[.slice ad nd cd, .slice ai ni ci, .slice an nn cn, .slice av nv cv, .slice ta L.length tc, .int .i64 (i : Int), .int .u32 g, .slice af nf cf, .slice ac nc cc, .slice ao no co, .int .i64 lm, .int .i64 (er : Int)] 82)).alloc (.cells #[.int .i64 0, .string ⟨#[]⟩, .int .i64 0, .int .i64 0] 31)) = W0 := ⟨_, rfl⟩
  have HB0 : Hid (Below w.heap.size w W0) := Lib.hid (by
    rw [← hW0]
    exact (((Below.refl _ _).alloc (Nat.le_refl _) _).alloc (by simp) _))
  have HZ0 : Hid (W0.heap.size = w.heap.size + 2) := Lib.hid (by rw [← hW0]; simp)
  have HK0 : Hid (Blk W0 (w.heap.size) 82 #[.slice ad nd cd, .slice ai ni ci, .slice an nn cn, .slice av nv cv, .slice ta L.length tc, .int .i64 (i : Int), .int .u32 g, .slice af nf cf, .slice ac nc cc, .slice ao no co, .int .i64 lm, .int .i64 (er : Int)]) := Lib.hid (by
    rw [← hW0]
    have h := Blk.new w 82 #[.slice ad nd cd, .slice ai ni ci, .slice an nn cn, .slice av nv cv, .slice ta L.length tc, .int .i64 (i : Int), .int .u32 g, .slice af nf cf, .slice ac nc cc, .slice ao no co, .int .i64 lm, .int .i64 (er : Int)]
    exact h.alloc _)
  have HK1 : Hid (Blk W0 (w.heap.size + 1) 31 #[.int .i64 0, .string ⟨#[]⟩, .int .i64 0, .int .i64 0]) := Lib.hid (by
    rw [← hW0]
    have h := Blk.new (w.alloc (.cells #[.slice ad nd cd, .slice ai ni ci, .slice an nn cn, .slice av nv cv, .slice ta L.length tc, .int .i64 (i : Int), .int .u32 g, .slice af nf cf, .slice ac nc cc, .slice ao no co, .int .i64 lm, .int .i64 (er : Int)] 82)) 31 #[.int .i64 0, .string ⟨#[]⟩, .int .i64 0, .int .i64 0]
    rw [World.size_alloc] at h
    exact h)
  obtain ⟨gt, hga, hnc, hgl, htc⟩ := ((hX.below HB0.out (Nat.le_refl _)).tok).cell (tokAt_mem hi).1
  have t0 := htc 0 _ rfl
  have t1 := htc 1 _ rfl
  have t2 := htc 2 _ rfl
  have t3 := htc 3 _ rfl
  obtain ⟨⟨k, t, n, a⟩, hx⟩ : ∃ x, tokAt L i = x := ⟨_, rfl⟩
  rw [hx] at t0 t1 t2 t3 ⊢
  simp only [Nat.add_zero] at t0 t1 t2 t3
  unfold Tok.val
  subst hga
  have i0 : (0 : Int) ≤ (i : Int) ∧ (i : Int) < (L.length : Int) := by omega
  clear hX hi hx htc hgl
  (try unfold StV)
  (try dsimp only)
  go_enter Try.func34, Try.ntmps34
  go_upto_region 1 with fail
  clear hW0
  generalize hS : w.heap.size = S at *
  have HSW := Lib.hid hS
  clear hS
  have c4 : W0.cell? ⟨S, 4, none⟩ = some (.slice (some ⟨gt, 0, none⟩) L.length tc) := HK0.out.cell 4
  have c5 : W0.cell? ⟨S, 5, none⟩ = some (.int .i64 (i : Int)) := HK0.out.cell 5
  have d0 : W0.cell? ⟨S + 1, 0, none⟩ = some (.int .i64 0) := HK1.out.cell 0
  have d1 : W0.cell? ⟨S + 1, 1, none⟩ = some (.string ⟨#[]⟩) := HK1.out.cell 1
  have d2 : W0.cell? ⟨S + 1, 2, none⟩ = some (.int .i64 0) := HK1.out.cell 2
  have d3 : W0.cell? ⟨S + 1, 3, none⟩ = some (.int .i64 0) := HK1.out.cell 3
  have df : ∀ o, W0.frozen? ⟨S + 1, o, none⟩ = false := fun o => HK1.out.frozen o
  go_wp2_with fail
  have HKF := Lib.hid (blk_st4 HK1.out (.int .i64 k) (.string t) (.int .i64 n) (.int .i64 a))
  have HBF := Lib.hid (below_st4 HB0.out (b := S + 1) (by have := HSW.out; omega) (.int .i64 k) (.string t) (.int .i64 n) (.int .i64 a))
  generalize ((((W0.setCell ⟨S + 1, 0, none⟩ (.int .i64 k)).setCell ⟨S + 1, 1, none⟩ (.string t)).setCell ⟨S + 1, 2, none⟩ (.int .i64 n)).setCell ⟨S + 1, 3, none⟩ (.int .i64 a)) = Wf at *
  have z0 : Wf.cell? ⟨S + 1, 0, none⟩ = some (.int .i64 k) := HKF.out.cell 0
  have z1 : Wf.cell? ⟨S + 1, 1, none⟩ = some (.string t) := HKF.out.cell 1
  have z2 : Wf.cell? ⟨S + 1, 2, none⟩ = some (.int .i64 n) := HKF.out.cell 2
  have z3 : Wf.cell? ⟨S + 1, 3, none⟩ = some (.int .i64 a) := HKF.out.cell 3
  refine bodyPost_ret (v := .agg #[.int .i64 k, .string t, .int .i64 n, .int .i64 a]) ?_ rfl ⟨rfl, by rw [HSW.out]; exact HBF.out⟩
  simp [results, Try.results34, go_sem, z0, z1, z2, z3]

set_option maxRecDepth 100000 in
theorem vis_any (X : RX) (m : QryL) (p : PState) (w : World) (hX : X.At w) (hi : p.at' < X.L.length) (u : ByteArray) (b : Bool) (hb : isR X.L p u.data.toList = b) :
    Calls Try.prog 31 #[StV X m p, .string u] w fun e w' => e = .returned (.bool b) ∧ Below w.heap.size w w' := by
  have HN : Hid (∀ w', Below w.heap.size w w' → Calls Try.prog 34 #[StV X m p] w' fun e w'' => e = .returned (tokAt X.L p.at').val ∧ Below w'.heap.size w' w'') := Lib.hid (fun w' hb => vnext_any X m p w' (hX.below hb (Nat.le_refl _)) hi)
  unfold isR at hb
  rw [word_iff] at hb
  obtain ⟨⟨k, t, n, a⟩, hx⟩ : ∃ x, tokAt X.L p.at' = x := ⟨_, rfl⟩
  rw [hx] at HN hb
  unfold Tok.val StV at HN
  obtain ⟨⟨ad, nd, cd, ai, ni, ci, an, nn, cn, av, nv, cv⟩, s, ta, tc, L⟩ := X
  obtain ⟨af, nf, cf, ac, nc, cc, ao, no, co⟩ := m
  obtain ⟨i, ⟨g, fq, cq, oq, lm⟩, er⟩ := p
  (try dsimp only at *)
  have HBB := Lib.hid hb
  obtain ⟨W0, hW0⟩ : ∃ W0, (w.alloc (.cells #[.slice ad nd cd, .slice ai ni ci, .slice an nn cn, .slice av nv cv, .slice ta L.length tc, .int .i64 (i : Int), .int .u32 g, .slice af nf cf, .slice ac nc cc, .slice ao no co, .int .i64 lm, .int .i64 (er : Int)] 82)) = W0 := ⟨_, rfl⟩
  have HB0 : Hid (Below w.heap.size w W0) := Lib.hid (by
    rw [← hW0]
    exact ((Below.refl _ _).alloc (Nat.le_refl _) _))
  have HZ0 : Hid (W0.heap.size = w.heap.size + 1) := Lib.hid (by rw [← hW0]; simp)
  have HK0 : Hid (Blk W0 (w.heap.size) 82 #[.slice ad nd cd, .slice ai ni ci, .slice an nn cn, .slice av nv cv, .slice ta L.length tc, .int .i64 (i : Int), .int .u32 g, .slice af nf cf, .slice ac nc cc, .slice ao no co, .int .i64 lm, .int .i64 (er : Int)]) := Lib.hid (by
    rw [← hW0]
    have h := Blk.new w 82 #[.slice ad nd cd, .slice ai ni ci, .slice an nn cn, .slice av nv cv, .slice ta L.length tc, .int .i64 (i : Int), .int .u32 g, .slice af nf cf, .slice ac nc cc, .slice ao no co, .int .i64 lm, .int .i64 (er : Int)]
    exact h)
  clear hX hi hx hb
  (try unfold StV)
  (try dsimp only)
  go_enter Try.func31, Try.ntmps31
  go_upto_region 1 with fail
  clear hW0
  generalize hS : w.heap.size = S at *
  have HSW := Lib.hid hS
  clear hS
  have c0 : W0.cell? ⟨S, 0, none⟩ = some (.slice ad nd cd) := HK0.out.cell 0
  have c1 : W0.cell? ⟨S, 1, none⟩ = some (.slice ai ni ci) := HK0.out.cell 1
  have c2 : W0.cell? ⟨S, 2, none⟩ = some (.slice an nn cn) := HK0.out.cell 2
  have c3 : W0.cell? ⟨S, 3, none⟩ = some (.slice av nv cv) := HK0.out.cell 3
  have c4 : W0.cell? ⟨S, 4, none⟩ = some (.slice ta L.length tc) := HK0.out.cell 4
  have c5 : W0.cell? ⟨S, 5, none⟩ = some (.int .i64 (i : Int)) := HK0.out.cell 5
  have c6 : W0.cell? ⟨S, 6, none⟩ = some (.int .u32 g) := HK0.out.cell 6
  have c7 : W0.cell? ⟨S, 7, none⟩ = some (.slice af nf cf) := HK0.out.cell 7
  have c8 : W0.cell? ⟨S, 8, none⟩ = some (.slice ac nc cc) := HK0.out.cell 8
  have c9 : W0.cell? ⟨S, 9, none⟩ = some (.slice ao no co) := HK0.out.cell 9
  have c10 : W0.cell? ⟨S, 10, none⟩ = some (.int .i64 lm) := HK0.out.cell 10
  have c11 : W0.cell? ⟨S, 11, none⟩ = some (.int .i64 (er : Int)) := HK0.out.cell 11
  go_wp2_with fail
  refine (HN.out _ (HB0.out)).mono ?_; rintro e w1 ⟨rfl, hb1⟩
  have HB1 := Lib.hid (HB0.out.trans (hb1.mono (by have := HZ0.out; omega)))
  have hSl : S < w1.heap.size := by have := hb1.size; have := HZ0.out; omega
  have e11 : w1.cell? ⟨S, 11, none⟩ = some (.int .i64 (er : Int)) := by rw [hb1.cell (p := ⟨S, 11, none⟩) (by have := HZ0.out; show S < _; omega)]; exact c11
  clear c0 c1 c2 c3 c4 c5 c6 c7 c8 c9 c10 c11
  clear hb1
  have HBF : Hid (Below S w (w1.alloc (.cells #[.int .i64 k, .string t, .int .i64 n, .int .i64 a] 31))) := Lib.hid (HB1.out.alloc (by omega) _)
  by_cases h0 : er = 0
  · subst h0
    have t0 : (((0 : Nat) : Int) == 0) = true := rfl
    by_cases h1 : k = 1
    · subst h1
      by_cases ht : t = u
      · have q0 := str_eq ht
        have hbt : b = true := by rw [← HBB.out, ht]; simp
        subst ht hbt
        go_wp2_with fail
        go_ret
        exact ⟨rfl, by rw [HSW.out]; exact HBF.out⟩
      · have q0 := str_ne ht
        have hbt : b = false := by rw [← HBB.out]; simp [ht]
        subst hbt
        clear ht
        go_wp2_with fail
        go_ret
        exact ⟨rfl, by rw [HSW.out]; exact HBF.out⟩
    · have q1 : (k == 1) = false := by simp; omega
      by_cases h4 : k = 4
      · subst h4
        by_cases ht : t = u
        · have q0 := str_eq ht
          have hbt : b = true := by rw [← HBB.out, ht]; simp
          subst ht hbt
          clear h1
          go_wp2_with fail
          go_ret
          exact ⟨rfl, by rw [HSW.out]; exact HBF.out⟩
        · have q0 := str_ne ht
          have hbt : b = false := by rw [← HBB.out]; simp [ht]
          subst hbt
          clear ht h1
          go_wp2_with fail
          go_ret
          exact ⟨rfl, by rw [HSW.out]; exact HBF.out⟩
      · have q4 : (k == 4) = false := by simp; omega
        have hbt : b = false := by rw [← HBB.out]; simp [h1, h4]
        subst hbt
        clear h1 h4
        go_wp2_with fail
        go_ret
        exact ⟨rfl, by rw [HSW.out]; exact HBF.out⟩
  · have t0 : ((er : Int) == 0) = false := by simp; omega
    have hbt : b = false := by rw [← HBB.out]; simp [h0]
    subst hbt
    clear h0
    go_wp2_with fail
    go_ret
    exact ⟨rfl, by rw [HSW.out]; exact HBF.out⟩
end Go.Proofs.Ytaofjnidniekjaa
