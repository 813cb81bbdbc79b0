/- The reference's reading (package bushelref36): on, fail, want. Conditions: those stated. -/
import Derived.Test.YtaofjnidniekjaaParRa
namespace Go.Proofs.Ytaofjnidniekjaa
open Go.RowKit

/-- a call's answer: a state, its query's rows at the places m -/
def RSt (X : RX) (m : QryL) (p : PState) (w : World) (e : Ending) (w' : World) : Prop := e = .returned (StV X m p) ∧ Below w.heap.size w w'

set_option maxRecDepth 100000 in
theorem von_any (X : RX) (m : QryL) (p : PState) (w : World) (hi : p.at' ≤ 100000) :
    Calls Try.prog 32 #[StV X m p] w (RSt X m (onR p) w) := by
  obtain ⟨⟨ad, nd, cd, ai, ni, ci, an, nn, cn, av, nv, cv⟩, s, ta, tc, L⟩ := X
  obtain ⟨af, nf, cf, ac, nc, cc, ao, no, co⟩ := m
  obtain ⟨i, ⟨g, fq, cq, oq, lm⟩, er⟩ := p
  (try dsimp only at *)
  unfold RSt onR
  obtain ⟨W0, hW0⟩ : ∃ W0, ((w.alloc (.cells #[.slice ad nd cd, .slice ai ni ci, .slice an nn cn, .slice av nv cv, .slice ta L.length tc, .int .i64 (i : Int), .int .u32 g, .slice af nf cf, .slice ac nc cc, .slice ao no co, .int .i64 lm, .int .i64 (er : Int)] 82)).alloc (.cells #[.slice none 0 0, .slice none 0 0, .slice none 0 0, .slice none 0 0, .slice none 0 0, .int .i64 0, .int .u32 0, .slice none 0 0, .slice none 0 0, .slice none 0 0, .int .i64 0, .int .i64 0] 82)) = W0 := ⟨_, rfl⟩
  have HB0 : Hid (Below w.heap.size w W0) := Lib.hid (by
    rw [← hW0]
    exact (((Below.refl _ _).alloc (Nat.le_refl _) _).alloc (by simp) _))
  have HZ0 : Hid (W0.heap.size = w.heap.size + 2) := Lib.hid (by rw [← hW0]; simp)
  have HK0 : Hid (Blk W0 (w.heap.size) 82 #[.slice ad nd cd, .slice ai ni ci, .slice an nn cn, .slice av nv cv, .slice ta L.length tc, .int .i64 (i : Int), .int .u32 g, .slice af nf cf, .slice ac nc cc, .slice ao no co, .int .i64 lm, .int .i64 (er : Int)]) := Lib.hid (by
    rw [← hW0]
    have h := Blk.new w 82 #[.slice ad nd cd, .slice ai ni ci, .slice an nn cn, .slice av nv cv, .slice ta L.length tc, .int .i64 (i : Int), .int .u32 g, .slice af nf cf, .slice ac nc cc, .slice ao no co, .int .i64 lm, .int .i64 (er : Int)]
    exact h.alloc _)
  have HK1 : Hid (Blk W0 (w.heap.size + 1) 82 #[.slice none 0 0, .slice none 0 0, .slice none 0 0, .slice none 0 0, .slice none 0 0, .int .i64 0, .int .u32 0, .slice none 0 0, .slice none 0 0, .slice none 0 0, .int .i64 0, .int .i64 0]) := Lib.hid (by
    rw [← hW0]
    have h := Blk.new (w.alloc (.cells #[.slice ad nd cd, .slice ai ni ci, .slice an nn cn, .slice av nv cv, .slice ta L.length tc, .int .i64 (i : Int), .int .u32 g, .slice af nf cf, .slice ac nc cc, .slice ao no co, .int .i64 lm, .int .i64 (er : Int)] 82)) 82 #[.slice none 0 0, .slice none 0 0, .slice none 0 0, .slice none 0 0, .slice none 0 0, .int .i64 0, .int .u32 0, .slice none 0 0, .slice none 0 0, .slice none 0 0, .int .i64 0, .int .i64 0]
    rw [World.size_alloc] at h
    exact h)
  (try unfold StV)
  (try dsimp only)
  go_enter Try.func32, Try.ntmps32
  go_upto_region 1 with fail
  clear hW0
  generalize hS : w.heap.size = S at *
  have HSW := Lib.hid hS
  clear hS
  have c0 : W0.cell? ⟨S, 0, none⟩ = some (.slice ad nd cd) := HK0.out.cell 0
  have c1 : W0.cell? ⟨S, 1, none⟩ = some (.slice ai ni ci) := HK0.out.cell 1
  have c2 : W0.cell? ⟨S, 2, none⟩ = some (.slice an nn cn) := HK0.out.cell 2
  have c3 : W0.cell? ⟨S, 3, none⟩ = some (.slice av nv cv) := HK0.out.cell 3
  have c4 : W0.cell? ⟨S, 4, none⟩ = some (.slice ta L.length tc) := HK0.out.cell 4
  have c5 : W0.cell? ⟨S, 5, none⟩ = some (.int .i64 (i : Int)) := HK0.out.cell 5
  have c6 : W0.cell? ⟨S, 6, none⟩ = some (.int .u32 g) := HK0.out.cell 6
  have c7 : W0.cell? ⟨S, 7, none⟩ = some (.slice af nf cf) := HK0.out.cell 7
  have c8 : W0.cell? ⟨S, 8, none⟩ = some (.slice ac nc cc) := HK0.out.cell 8
  have c9 : W0.cell? ⟨S, 9, none⟩ = some (.slice ao no co) := HK0.out.cell 9
  have c10 : W0.cell? ⟨S, 10, none⟩ = some (.int .i64 lm) := HK0.out.cell 10
  have c11 : W0.cell? ⟨S, 11, none⟩ = some (.int .i64 (er : Int)) := HK0.out.cell 11
  have fzc : ∀ o, W0.frozen? ⟨S, o, none⟩ = false := fun o => HK0.out.frozen o
  have d0 : W0.cell? ⟨S + 1, 0, none⟩ = some (.slice none 0 0) := HK1.out.cell 0
  have d1 : W0.cell? ⟨S + 1, 1, none⟩ = some (.slice none 0 0) := HK1.out.cell 1
  have d2 : W0.cell? ⟨S + 1, 2, none⟩ = some (.slice none 0 0) := HK1.out.cell 2
  have d3 : W0.cell? ⟨S + 1, 3, none⟩ = some (.slice none 0 0) := HK1.out.cell 3
  have d4 : W0.cell? ⟨S + 1, 4, none⟩ = some (.slice none 0 0) := HK1.out.cell 4
  have d5 : W0.cell? ⟨S + 1, 5, none⟩ = some (.int .i64 0) := HK1.out.cell 5
  have d6 : W0.cell? ⟨S + 1, 6, none⟩ = some (.int .u32 0) := HK1.out.cell 6
  have d7 : W0.cell? ⟨S + 1, 7, none⟩ = some (.slice none 0 0) := HK1.out.cell 7
  have d8 : W0.cell? ⟨S + 1, 8, none⟩ = some (.slice none 0 0) := HK1.out.cell 8
  have d9 : W0.cell? ⟨S + 1, 9, none⟩ = some (.slice none 0 0) := HK1.out.cell 9
  have d10 : W0.cell? ⟨S + 1, 10, none⟩ = some (.int .i64 0) := HK1.out.cell 10
  have d11 : W0.cell? ⟨S + 1, 11, none⟩ = some (.int .i64 0) := HK1.out.cell 11
  have fzd : ∀ o, W0.frozen? ⟨S + 1, o, none⟩ = false := fun o => HK1.out.frozen o
  go_wp2_with fail
  have HKF := Lib.hid (blk_st12 (HK1.out.far (p := ⟨S, 5, none⟩) (by show S + 1 ≠ S; omega) (.int .i64 ((i : Int) + 1))) (.slice ad nd cd) (.slice ai ni ci) (.slice an nn cn) (.slice av nv cv) (.slice ta L.length tc) (.int .i64 ((i : Int) + 1)) (.int .u32 g) (.slice af nf cf) (.slice ac nc cc) (.slice ao no co) (.int .i64 lm) (.int .i64 (er : Int)))
  have HBF := Lib.hid (below_st12 (below_set HB0.out (p := ⟨S, 5, none⟩) (by have := HSW.out; show _ ≤ S; omega) (.int .i64 ((i : Int) + 1))) (b := S + 1) (by have := HSW.out; omega) (.slice ad nd cd) (.slice ai ni ci) (.slice an nn cn) (.slice av nv cv) (.slice ta L.length tc) (.int .i64 ((i : Int) + 1)) (.int .u32 g) (.slice af nf cf) (.slice ac nc cc) (.slice ao no co) (.int .i64 lm) (.int .i64 (er : Int)))
  generalize (((((((((((((W0.setCell ⟨S, 5, none⟩ (.int .i64 ((i : Int) + 1))).setCell ⟨S + 1, 0, none⟩ (.slice ad nd cd)).setCell ⟨S + 1, 1, none⟩ (.slice ai ni ci)).setCell ⟨S + 1, 2, none⟩ (.slice an nn cn)).setCell ⟨S + 1, 3, none⟩ (.slice av nv cv)).setCell ⟨S + 1, 4, none⟩ (.slice ta L.length tc)).setCell ⟨S + 1, 5, none⟩ (.int .i64 ((i : Int) + 1))).setCell ⟨S + 1, 6, none⟩ (.int .u32 g)).setCell ⟨S + 1, 7, none⟩ (.slice af nf cf)).setCell ⟨S + 1, 8, none⟩ (.slice ac nc cc)).setCell ⟨S + 1, 9, none⟩ (.slice ao no co)).setCell ⟨S + 1, 10, none⟩ (.int .i64 lm)).setCell ⟨S + 1, 11, none⟩ (.int .i64 (er : Int))) = Wf at *
  have z0 : Wf.cell? ⟨S + 1, 0, none⟩ = some (.slice ad nd cd) := HKF.out.cell 0
  have z1 : Wf.cell? ⟨S + 1, 1, none⟩ = some (.slice ai ni ci) := HKF.out.cell 1
  have z2 : Wf.cell? ⟨S + 1, 2, none⟩ = some (.slice an nn cn) := HKF.out.cell 2
  have z3 : Wf.cell? ⟨S + 1, 3, none⟩ = some (.slice av nv cv) := HKF.out.cell 3
  have z4 : Wf.cell? ⟨S + 1, 4, none⟩ = some (.slice ta L.length tc) := HKF.out.cell 4
  have z5 : Wf.cell? ⟨S + 1, 5, none⟩ = some (.int .i64 ((i : Int) + 1)) := HKF.out.cell 5
  have z6 : Wf.cell? ⟨S + 1, 6, none⟩ = some (.int .u32 g) := HKF.out.cell 6
  have z7 : Wf.cell? ⟨S + 1, 7, none⟩ = some (.slice af nf cf) := HKF.out.cell 7
  have z8 : Wf.cell? ⟨S + 1, 8, none⟩ = some (.slice ac nc cc) := HKF.out.cell 8
  have z9 : Wf.cell? ⟨S + 1, 9, none⟩ = some (.slice ao no co) := HKF.out.cell 9
  have z10 : Wf.cell? ⟨S + 1, 10, none⟩ = some (.int .i64 lm) := HKF.out.cell 10
  have z11 : Wf.cell? ⟨S + 1, 11, none⟩ = some (.int .i64 (er : Int)) := HKF.out.cell 11
  refine bodyPost_ret (v := .agg #[.slice ad nd cd, .slice ai ni ci, .slice an nn cn, .slice av nv cv, .slice ta L.length tc, .int .i64 ((i : Int) + 1), .int .u32 g, .slice af nf cf, .slice ac nc cc, .slice ao no co, .int .i64 lm, .int .i64 (er : Int)]) (by simp [results, Try.results32, go_sem, z0, z1, z2, z3, z4, z5, z6, z7, z8, z9, z10, z11]) rfl ?_
  exact ⟨rfl, by rw [HSW.out]; exact HBF.out⟩

set_option maxRecDepth 100000 in
theorem vfail_any (X : RX) (m : QryL) (p : PState) (w : World) (x : Nat) :
    Calls Try.prog 35 #[StV X m p, .int .i64 (x : Int)] w (RSt X m (failR p x) w) := by
  obtain ⟨⟨ad, nd, cd, ai, ni, ci, an, nn, cn, av, nv, cv⟩, s, ta, tc, L⟩ := X
  obtain ⟨af, nf, cf, ac, nc, cc, ao, no, co⟩ := m
  obtain ⟨i, ⟨g, fq, cq, oq, lm⟩, er⟩ := p
  (try dsimp only at *)
  unfold RSt failR
  obtain ⟨W0, hW0⟩ : ∃ W0, ((w.alloc (.cells #[.slice ad nd cd, .slice ai ni ci, .slice an nn cn, .slice av nv cv, .slice ta L.length tc, .int .i64 (i : Int), .int .u32 g, .slice af nf cf, .slice ac nc cc, .slice ao no co, .int .i64 lm, .int .i64 (er : Int)] 82)).alloc (.cells #[.slice none 0 0, .slice none 0 0, .slice none 0 0, .slice none 0 0, .slice none 0 0, .int .i64 0, .int .u32 0, .slice none 0 0, .slice none 0 0, .slice none 0 0, .int .i64 0, .int .i64 0] 82)) = W0 := ⟨_, rfl⟩
  have HB0 : Hid (Below w.heap.size w W0) := Lib.hid (by
    rw [← hW0]
    exact (((Below.refl _ _).alloc (Nat.le_refl _) _).alloc (by simp) _))
  have HZ0 : Hid (W0.heap.size = w.heap.size + 2) := Lib.hid (by rw [← hW0]; simp)
  have HK0 : Hid (Blk W0 (w.heap.size) 82 #[.slice ad nd cd, .slice ai ni ci, .slice an nn cn, .slice av nv cv, .slice ta L.length tc, .int .i64 (i : Int), .int .u32 g, .slice af nf cf, .slice ac nc cc, .slice ao no co, .int .i64 lm, .int .i64 (er : Int)]) := Lib.hid (by
    rw [← hW0]
    have h := Blk.new w 82 #[.slice ad nd cd, .slice ai ni ci, .slice an nn cn, .slice av nv cv, .slice ta L.length tc, .int .i64 (i : Int), .int .u32 g, .slice af nf cf, .slice ac nc cc, .slice ao no co, .int .i64 lm, .int .i64 (er : Int)]
    exact h.alloc _)
  have HK1 : Hid (Blk W0 (w.heap.size + 1) 82 #[.slice none 0 0, .slice none 0 0, .slice none 0 0, .slice none 0 0, .slice none 0 0, .int .i64 0, .int .u32 0, .slice none 0 0, .slice none 0 0, .slice none 0 0, .int .i64 0, .int .i64 0]) := Lib.hid (by
    rw [← hW0]
    have h := Blk.new (w.alloc (.cells #[.slice ad nd cd, .slice ai ni ci, .slice an nn cn, .slice av nv cv, .slice ta L.length tc, .int .i64 (i : Int), .int .u32 g, .slice af nf cf, .slice ac nc cc, .slice ao no co, .int .i64 lm, .int .i64 (er : Int)] 82)) 82 #[.slice none 0 0, .slice none 0 0, .slice none 0 0, .slice none 0 0, .slice none 0 0, .int .i64 0, .int .u32 0, .slice none 0 0, .slice none 0 0, .slice none 0 0, .int .i64 0, .int .i64 0]
    rw [World.size_alloc] at h
    exact h)
  by_cases h0 : er = 0
  · rw [if_pos h0]
    have t0 : ((er : Int) == 0) = true := by rw [h0]; rfl
    clear h0
    (try unfold StV)
    (try dsimp only)
    go_enter Try.func35, Try.ntmps35
    go_upto_region 1 with fail
    clear hW0
    generalize hS : w.heap.size = S at *
    have HSW := Lib.hid hS
    clear hS
    have c0 : W0.cell? ⟨S, 0, none⟩ = some (.slice ad nd cd) := HK0.out.cell 0
    have c1 : W0.cell? ⟨S, 1, none⟩ = some (.slice ai ni ci) := HK0.out.cell 1
    have c2 : W0.cell? ⟨S, 2, none⟩ = some (.slice an nn cn) := HK0.out.cell 2
    have c3 : W0.cell? ⟨S, 3, none⟩ = some (.slice av nv cv) := HK0.out.cell 3
    have c4 : W0.cell? ⟨S, 4, none⟩ = some (.slice ta L.length tc) := HK0.out.cell 4
    have c5 : W0.cell? ⟨S, 5, none⟩ = some (.int .i64 (i : Int)) := HK0.out.cell 5
    have c6 : W0.cell? ⟨S, 6, none⟩ = some (.int .u32 g) := HK0.out.cell 6
    have c7 : W0.cell? ⟨S, 7, none⟩ = some (.slice af nf cf) := HK0.out.cell 7
    have c8 : W0.cell? ⟨S, 8, none⟩ = some (.slice ac nc cc) := HK0.out.cell 8
    have c9 : W0.cell? ⟨S, 9, none⟩ = some (.slice ao no co) := HK0.out.cell 9
    have c10 : W0.cell? ⟨S, 10, none⟩ = some (.int .i64 lm) := HK0.out.cell 10
    have c11 : W0.cell? ⟨S, 11, none⟩ = some (.int .i64 (er : Int)) := HK0.out.cell 11
    have fzc : ∀ o, W0.frozen? ⟨S, o, none⟩ = false := fun o => HK0.out.frozen o
    have d0 : W0.cell? ⟨S + 1, 0, none⟩ = some (.slice none 0 0) := HK1.out.cell 0
    have d1 : W0.cell? ⟨S + 1, 1, none⟩ = some (.slice none 0 0) := HK1.out.cell 1
    have d2 : W0.cell? ⟨S + 1, 2, none⟩ = some (.slice none 0 0) := HK1.out.cell 2
    have d3 : W0.cell? ⟨S + 1, 3, none⟩ = some (.slice none 0 0) := HK1.out.cell 3
    have d4 : W0.cell? ⟨S + 1, 4, none⟩ = some (.slice none 0 0) := HK1.out.cell 4
    have d5 : W0.cell? ⟨S + 1, 5, none⟩ = some (.int .i64 0) := HK1.out.cell 5
    have d6 : W0.cell? ⟨S + 1, 6, none⟩ = some (.int .u32 0) := HK1.out.cell 6
    have d7 : W0.cell? ⟨S + 1, 7, none⟩ = some (.slice none 0 0) := HK1.out.cell 7
    have d8 : W0.cell? ⟨S + 1, 8, none⟩ = some (.slice none 0 0) := HK1.out.cell 8
    have d9 : W0.cell? ⟨S + 1, 9, none⟩ = some (.slice none 0 0) := HK1.out.cell 9
    have d10 : W0.cell? ⟨S + 1, 10, none⟩ = some (.int .i64 0) := HK1.out.cell 10
    have d11 : W0.cell? ⟨S + 1, 11, none⟩ = some (.int .i64 0) := HK1.out.cell 11
    have fzd : ∀ o, W0.frozen? ⟨S + 1, o, none⟩ = false := fun o => HK1.out.frozen o
    go_wp2_with fail
    have HKF := Lib.hid (blk_st12 (HK1.out.far (p := ⟨S, 11, none⟩) (by show S + 1 ≠ S; omega) (.int .i64 (x : Int))) (.slice ad nd cd) (.slice ai ni ci) (.slice an nn cn) (.slice av nv cv) (.slice ta L.length tc) (.int .i64 (i : Int)) (.int .u32 g) (.slice af nf cf) (.slice ac nc cc) (.slice ao no co) (.int .i64 lm) (.int .i64 (x : Int)))
    have HBF := Lib.hid (below_st12 (below_set HB0.out (p := ⟨S, 11, none⟩) (by have := HSW.out; show _ ≤ S; omega) (.int .i64 (x : Int))) (b := S + 1) (by have := HSW.out; omega) (.slice ad nd cd) (.slice ai ni ci) (.slice an nn cn) (.slice av nv cv) (.slice ta L.length tc) (.int .i64 (i : Int)) (.int .u32 g) (.slice af nf cf) (.slice ac nc cc) (.slice ao no co) (.int .i64 lm) (.int .i64 (x : Int)))
    generalize (((((((((((((W0.setCell ⟨S, 11, none⟩ (.int .i64 (x : Int))).setCell ⟨S + 1, 0, none⟩ (.slice ad nd cd)).setCell ⟨S + 1, 1, none⟩ (.slice ai ni ci)).setCell ⟨S + 1, 2, none⟩ (.slice an nn cn)).setCell ⟨S + 1, 3, none⟩ (.slice av nv cv)).setCell ⟨S + 1, 4, none⟩ (.slice ta L.length tc)).setCell ⟨S + 1, 5, none⟩ (.int .i64 (i : Int))).setCell ⟨S + 1, 6, none⟩ (.int .u32 g)).setCell ⟨S + 1, 7, none⟩ (.slice af nf cf)).setCell ⟨S + 1, 8, none⟩ (.slice ac nc cc)).setCell ⟨S + 1, 9, none⟩ (.slice ao no co)).setCell ⟨S + 1, 10, none⟩ (.int .i64 lm)).setCell ⟨S + 1, 11, none⟩ (.int .i64 (x : Int))) = Wf at *
    have z0 : Wf.cell? ⟨S + 1, 0, none⟩ = some (.slice ad nd cd) := HKF.out.cell 0
    have z1 : Wf.cell? ⟨S + 1, 1, none⟩ = some (.slice ai ni ci) := HKF.out.cell 1
    have z2 : Wf.cell? ⟨S + 1, 2, none⟩ = some (.slice an nn cn) := HKF.out.cell 2
    have z3 : Wf.cell? ⟨S + 1, 3, none⟩ = some (.slice av nv cv) := HKF.out.cell 3
    have z4 : Wf.cell? ⟨S + 1, 4, none⟩ = some (.slice ta L.length tc) := HKF.out.cell 4
    have z5 : Wf.cell? ⟨S + 1, 5, none⟩ = some (.int .i64 (i : Int)) := HKF.out.cell 5
    have z6 : Wf.cell? ⟨S + 1, 6, none⟩ = some (.int .u32 g) := HKF.out.cell 6
    have z7 : Wf.cell? ⟨S + 1, 7, none⟩ = some (.slice af nf cf) := HKF.out.cell 7
    have z8 : Wf.cell? ⟨S + 1, 8, none⟩ = some (.slice ac nc cc) := HKF.out.cell 8
    have z9 : Wf.cell? ⟨S + 1, 9, none⟩ = some (.slice ao no co) := HKF.out.cell 9
    have z10 : Wf.cell? ⟨S + 1, 10, none⟩ = some (.int .i64 lm) := HKF.out.cell 10
    have z11 : Wf.cell? ⟨S + 1, 11, none⟩ = some (.int .i64 (x : Int)) := HKF.out.cell 11
    refine bodyPost_ret (v := .agg #[.slice ad nd cd, .slice ai ni ci, .slice an nn cn, .slice av nv cv, .slice ta L.length tc, .int .i64 (i : Int), .int .u32 g, .slice af nf cf, .slice ac nc cc, .slice ao no co, .int .i64 lm, .int .i64 (x : Int)]) (by simp [results, Try.results35, go_sem, z0, z1, z2, z3, z4, z5, z6, z7, z8, z9, z10, z11]) rfl ?_
    exact ⟨rfl, by rw [HSW.out]; exact HBF.out⟩
  · rw [if_neg h0]
    have t0 : ((er : Int) == 0) = false := by simp; omega
    (try unfold StV)
    (try dsimp only)
    go_enter Try.func35, Try.ntmps35
    go_upto_region 1 with fail
    clear hW0
    generalize hS : w.heap.size = S at *
    have HSW := Lib.hid hS
    clear hS
    have c0 : W0.cell? ⟨S, 0, none⟩ = some (.slice ad nd cd) := HK0.out.cell 0
    have c1 : W0.cell? ⟨S, 1, none⟩ = some (.slice ai ni ci) := HK0.out.cell 1
    have c2 : W0.cell? ⟨S, 2, none⟩ = some (.slice an nn cn) := HK0.out.cell 2
    have c3 : W0.cell? ⟨S, 3, none⟩ = some (.slice av nv cv) := HK0.out.cell 3
    have c4 : W0.cell? ⟨S, 4, none⟩ = some (.slice ta L.length tc) := HK0.out.cell 4
    have c5 : W0.cell? ⟨S, 5, none⟩ = some (.int .i64 (i : Int)) := HK0.out.cell 5
    have c6 : W0.cell? ⟨S, 6, none⟩ = some (.int .u32 g) := HK0.out.cell 6
    have c7 : W0.cell? ⟨S, 7, none⟩ = some (.slice af nf cf) := HK0.out.cell 7
    have c8 : W0.cell? ⟨S, 8, none⟩ = some (.slice ac nc cc) := HK0.out.cell 8
    have c9 : W0.cell? ⟨S, 9, none⟩ = some (.slice ao no co) := HK0.out.cell 9
    have c10 : W0.cell? ⟨S, 10, none⟩ = some (.int .i64 lm) := HK0.out.cell 10
    have c11 : W0.cell? ⟨S, 11, none⟩ = some (.int .i64 (er : Int)) := HK0.out.cell 11
    have fzc : ∀ o, W0.frozen? ⟨S, o, none⟩ = false := fun o => HK0.out.frozen o
    have d0 : W0.cell? ⟨S + 1, 0, none⟩ = some (.slice none 0 0) := HK1.out.cell 0
    have d1 : W0.cell? ⟨S + 1, 1, none⟩ = some (.slice none 0 0) := HK1.out.cell 1
    have d2 : W0.cell? ⟨S + 1, 2, none⟩ = some (.slice none 0 0) := HK1.out.cell 2
    have d3 : W0.cell? ⟨S + 1, 3, none⟩ = some (.slice none 0 0) := HK1.out.cell 3
    have d4 : W0.cell? ⟨S + 1, 4, none⟩ = some (.slice none 0 0) := HK1.out.cell 4
    have d5 : W0.cell? ⟨S + 1, 5, none⟩ = some (.int .i64 0) := HK1.out.cell 5
    have d6 : W0.cell? ⟨S + 1, 6, none⟩ = some (.int .u32 0) := HK1.out.cell 6
    have d7 : W0.cell? ⟨S + 1, 7, none⟩ = some (.slice none 0 0) := HK1.out.cell 7
    have d8 : W0.cell? ⟨S + 1, 8, none⟩ = some (.slice none 0 0) := HK1.out.cell 8
    have d9 : W0.cell? ⟨S + 1, 9, none⟩ = some (.slice none 0 0) := HK1.out.cell 9
    have d10 : W0.cell? ⟨S + 1, 10, none⟩ = some (.int .i64 0) := HK1.out.cell 10
    have d11 : W0.cell? ⟨S + 1, 11, none⟩ = some (.int .i64 0) := HK1.out.cell 11
    have fzd : ∀ o, W0.frozen? ⟨S + 1, o, none⟩ = false := fun o => HK1.out.frozen o
    clear h0
    go_wp2_with fail
    have HKF := Lib.hid (blk_st12 (HK1.out) (.slice ad nd cd) (.slice ai ni ci) (.slice an nn cn) (.slice av nv cv) (.slice ta L.length tc) (.int .i64 (i : Int)) (.int .u32 g) (.slice af nf cf) (.slice ac nc cc) (.slice ao no co) (.int .i64 lm) (.int .i64 (er : Int)))
    have HBF := Lib.hid (below_st12 (HB0.out) (b := S + 1) (by have := HSW.out; omega) (.slice ad nd cd) (.slice ai ni ci) (.slice an nn cn) (.slice av nv cv) (.slice ta L.length tc) (.int .i64 (i : Int)) (.int .u32 g) (.slice af nf cf) (.slice ac nc cc) (.slice ao no co) (.int .i64 lm) (.int .i64 (er : Int)))
    generalize ((((((((((((W0.setCell ⟨S + 1, 0, none⟩ (.slice ad nd cd)).setCell ⟨S + 1, 1, none⟩ (.slice ai ni ci)).setCell ⟨S + 1, 2, none⟩ (.slice an nn cn)).setCell ⟨S + 1, 3, none⟩ (.slice av nv cv)).setCell ⟨S + 1, 4, none⟩ (.slice ta L.length tc)).setCell ⟨S + 1, 5, none⟩ (.int .i64 (i : Int))).setCell ⟨S + 1, 6, none⟩ (.int .u32 g)).setCell ⟨S + 1, 7, none⟩ (.slice af nf cf)).setCell ⟨S + 1, 8, none⟩ (.slice ac nc cc)).setCell ⟨S + 1, 9, none⟩ (.slice ao no co)).setCell ⟨S + 1, 10, none⟩ (.int .i64 lm)).setCell ⟨S + 1, 11, none⟩ (.int .i64 (er : Int))) = Wf at *
    have z0 : Wf.cell? ⟨S + 1, 0, none⟩ = some (.slice ad nd cd) := HKF.out.cell 0
    have z1 : Wf.cell? ⟨S + 1, 1, none⟩ = some (.slice ai ni ci) := HKF.out.cell 1
    have z2 : Wf.cell? ⟨S + 1, 2, none⟩ = some (.slice an nn cn) := HKF.out.cell 2
    have z3 : Wf.cell? ⟨S + 1, 3, none⟩ = some (.slice av nv cv) := HKF.out.cell 3
    have z4 : Wf.cell? ⟨S + 1, 4, none⟩ = some (.slice ta L.length tc) := HKF.out.cell 4
    have z5 : Wf.cell? ⟨S + 1, 5, none⟩ = some (.int .i64 (i : Int)) := HKF.out.cell 5
    have z6 : Wf.cell? ⟨S + 1, 6, none⟩ = some (.int .u32 g) := HKF.out.cell 6
    have z7 : Wf.cell? ⟨S + 1, 7, none⟩ = some (.slice af nf cf) := HKF.out.cell 7
    have z8 : Wf.cell? ⟨S + 1, 8, none⟩ = some (.slice ac nc cc) := HKF.out.cell 8
    have z9 : Wf.cell? ⟨S + 1, 9, none⟩ = some (.slice ao no co) := HKF.out.cell 9
    have z10 : Wf.cell? ⟨S + 1, 10, none⟩ = some (.int .i64 lm) := HKF.out.cell 10
    have z11 : Wf.cell? ⟨S + 1, 11, none⟩ = some (.int .i64 (er : Int)) := HKF.out.cell 11
    refine bodyPost_ret (v := .agg #[.slice ad nd cd, .slice ai ni ci, .slice an nn cn, .slice av nv cv, .slice ta L.length tc, .int .i64 (i : Int), .int .u32 g, .slice af nf cf, .slice ac nc cc, .slice ao no co, .int .i64 lm, .int .i64 (er : Int)]) (by simp [results, Try.results35, go_sem, z0, z1, z2, z3, z4, z5, z6, z7, z8, z9, z10, z11]) rfl ?_
    exact ⟨rfl, by rw [HSW.out]; exact HBF.out⟩

set_option maxRecDepth 100000 in
theorem vwant_any (X : RX) (m : QryL) (p : PState) (w : World) (hX : X.At w) (hi : p.at' < X.L.length) (u : ByteArray) (t : List UInt8) (ht : u.data.toList = t) :
    Calls Try.prog 30 #[StV X m p, .string u] w (RSt X m (wantR X.L p t) w) := by
  have hmany := hX.good.many
  obtain ⟨b, hb⟩ : ∃ b, isR X.L p t = b := ⟨_, rfl⟩
  have HI : Hid (∀ w', Below w.heap.size w w' → Calls Try.prog 31 #[StV X m p, .string u] w' fun e w'' => e = .returned (.bool b) ∧ Below w'.heap.size w' w'') := Lib.hid (fun w' hbl => vis_any X m p w' (hX.below hbl (Nat.le_refl _)) hi u b (by rw [ht]; exact hb))
  have HON : Hid (∀ w', Calls Try.prog 32 #[StV X m p] w' (RSt X m (onR p) w')) := Lib.hid (fun w' => von_any X m p w' (by omega))
  have HFA : Hid (∀ w', Calls Try.prog 35 #[StV X m p, .int .i64 (6 : Int)] w' (RSt X m (failR p 6) w')) := Lib.hid (fun w' => vfail_any X m p w' 6)
  unfold wantR
  rw [hb]
  clear hX hi hmany hb ht
  unfold RSt at *
  obtain ⟨p1, hp1⟩ : ∃ x, onR p = x := ⟨_, rfl⟩
  obtain ⟨p2, hp2⟩ : ∃ x, failR p 6 = x := ⟨_, rfl⟩
  rw [hp1] at HON ⊢
  rw [hp2] at HFA ⊢
  clear hp1 hp2
  unfold StV at *
  obtain ⟨⟨ad, nd, cd, ai, ni, ci, an, nn, cn, av, nv, cv⟩, s, ta, tc, L⟩ := X
  obtain ⟨af, nf, cf, ac, nc, cc, ao, no, co⟩ := m
  obtain ⟨i, ⟨g, fq, cq, oq, lm⟩, er⟩ := p
  (try dsimp only at *)
  obtain ⟨W0, hW0⟩ : ∃ W0, ((w.alloc (.cells #[.slice ad nd cd, .slice ai ni ci, .slice an nn cn, .slice av nv cv, .slice ta L.length tc, .int .i64 (i : Int), .int .u32 g, .slice af nf cf, .slice ac nc cc, .slice ao no co, .int .i64 lm, .int .i64 (er : Int)] 82)).alloc (.cells #[.slice none 0 0, .slice none 0 0, .slice none 0 0, .slice none 0 0, .slice none 0 0, .int .i64 0, .int .u32 0, .slice none 0 0, .slice none 0 0, .slice none 0 0, .int .i64 0, .int .i64 0] 82)) = W0 := ⟨_, rfl⟩
  have HB0 : Hid (Below w.heap.size w W0) := Lib.hid (by
    rw [← hW0]
    exact (((Below.refl _ _).alloc (Nat.le_refl _) _).alloc (by simp) _))
  have HZ0 : Hid (W0.heap.size = w.heap.size + 2) := Lib.hid (by rw [← hW0]; simp)
  have HK0 : Hid (Blk W0 (w.heap.size) 82 #[.slice ad nd cd, .slice ai ni ci, .slice an nn cn, .slice av nv cv, .slice ta L.length tc, .int .i64 (i : Int), .int .u32 g, .slice af nf cf, .slice ac nc cc, .slice ao no co, .int .i64 lm, .int .i64 (er : Int)]) := Lib.hid (by
    rw [← hW0]
    have h := Blk.new w 82 #[.slice ad nd cd, .slice ai ni ci, .slice an nn cn, .slice av nv cv, .slice ta L.length tc, .int .i64 (i : Int), .int .u32 g, .slice af nf cf, .slice ac nc cc, .slice ao no co, .int .i64 lm, .int .i64 (er : Int)]
    exact h.alloc _)
  have HK1 : Hid (Blk W0 (w.heap.size + 1) 82 #[.slice none 0 0, .slice none 0 0, .slice none 0 0, .slice none 0 0, .slice none 0 0, .int .i64 0, .int .u32 0, .slice none 0 0, .slice none 0 0, .slice none 0 0, .int .i64 0, .int .i64 0]) := Lib.hid (by
    rw [← hW0]
    have h := Blk.new (w.alloc (.cells #[.slice ad nd cd, .slice ai ni ci, .slice an nn cn, .slice av nv cv, .slice ta L.length tc, .int .i64 (i : Int), .int .u32 g, .slice af nf cf, .slice ac nc cc, .slice ao no co, .int .i64 lm, .int .i64 (er : Int)] 82)) 82 #[.slice none 0 0, .slice none 0 0, .slice none 0 0, .slice none 0 0, .slice none 0 0, .int .i64 0, .int .u32 0, .slice none 0 0, .slice none 0 0, .slice none 0 0, .int .i64 0, .int .i64 0]
    rw [World.size_alloc] at h
    exact h)
  (try unfold StV)
  (try dsimp only)
  go_enter Try.func30, Try.ntmps30
  go_upto_region 1 with fail
  clear hW0
  generalize hS : w.heap.size = S at *
  have HSW := Lib.hid hS
  clear hS
  have c0 : W0.cell? ⟨S, 0, none⟩ = some (.slice ad nd cd) := HK0.out.cell 0
  have c1 : W0.cell? ⟨S, 1, none⟩ = some (.slice ai ni ci) := HK0.out.cell 1
  have c2 : W0.cell? ⟨S, 2, none⟩ = some (.slice an nn cn) := HK0.out.cell 2
  have c3 : W0.cell? ⟨S, 3, none⟩ = some (.slice av nv cv) := HK0.out.cell 3
  have c4 : W0.cell? ⟨S, 4, none⟩ = some (.slice ta L.length tc) := HK0.out.cell 4
  have c5 : W0.cell? ⟨S, 5, none⟩ = some (.int .i64 (i : Int)) := HK0.out.cell 5
  have c6 : W0.cell? ⟨S, 6, none⟩ = some (.int .u32 g) := HK0.out.cell 6
  have c7 : W0.cell? ⟨S, 7, none⟩ = some (.slice af nf cf) := HK0.out.cell 7
  have c8 : W0.cell? ⟨S, 8, none⟩ = some (.slice ac nc cc) := HK0.out.cell 8
  have c9 : W0.cell? ⟨S, 9, none⟩ = some (.slice ao no co) := HK0.out.cell 9
  have c10 : W0.cell? ⟨S, 10, none⟩ = some (.int .i64 lm) := HK0.out.cell 10
  have c11 : W0.cell? ⟨S, 11, none⟩ = some (.int .i64 (er : Int)) := HK0.out.cell 11
  go_wp2_with fail
  refine (HI.out _ HB0.out).mono ?_; rintro e w1 ⟨rfl, hb1⟩
  have HB1 := Lib.hid (HB0.out.trans (hb1.mono (by have := HZ0.out; omega)))
  have HKA := Lib.hid (HK0.out.below hb1 HK0.out.lt)
  have HKB := Lib.hid (HK1.out.below hb1 HK1.out.lt)
  clear hb1
  clear c0 c1 c2 c3 c4 c5 c6 c7 c8 c9 c10 c11
  have c0 : w1.cell? ⟨S, 0, none⟩ = some (.slice ad nd cd) := HKA.out.cell 0
  have c1 : w1.cell? ⟨S, 1, none⟩ = some (.slice ai ni ci) := HKA.out.cell 1
  have c2 : w1.cell? ⟨S, 2, none⟩ = some (.slice an nn cn) := HKA.out.cell 2
  have c3 : w1.cell? ⟨S, 3, none⟩ = some (.slice av nv cv) := HKA.out.cell 3
  have c4 : w1.cell? ⟨S, 4, none⟩ = some (.slice ta L.length tc) := HKA.out.cell 4
  have c5 : w1.cell? ⟨S, 5, none⟩ = some (.int .i64 (i : Int)) := HKA.out.cell 5
  have c6 : w1.cell? ⟨S, 6, none⟩ = some (.int .u32 g) := HKA.out.cell 6
  have c7 : w1.cell? ⟨S, 7, none⟩ = some (.slice af nf cf) := HKA.out.cell 7
  have c8 : w1.cell? ⟨S, 8, none⟩ = some (.slice ac nc cc) := HKA.out.cell 8
  have c9 : w1.cell? ⟨S, 9, none⟩ = some (.slice ao no co) := HKA.out.cell 9
  have c10 : w1.cell? ⟨S, 10, none⟩ = some (.int .i64 lm) := HKA.out.cell 10
  have c11 : w1.cell? ⟨S, 11, none⟩ = some (.int .i64 (er : Int)) := HKA.out.cell 11
  rcases b with _ | _
  · go_wp2_with fail
    refine (HFA.out _).mono ?_; rintro e w2 ⟨rfl, hb2⟩
    have HB2 := Lib.hid (HB1.out.trans (hb2.mono (by have := HB1.out.size; have := HSW.out; omega)))
    have HKC := Lib.hid (HKB.out.below hb2 HKB.out.lt)
    clear hb2
    clear c0 c1 c2 c3 c4 c5 c6 c7 c8 c9 c10 c11
    have d0 : w2.cell? ⟨S + 1, 0, none⟩ = some (.slice none 0 0) := HKC.out.cell 0
    have d1 : w2.cell? ⟨S + 1, 1, none⟩ = some (.slice none 0 0) := HKC.out.cell 1
    have d2 : w2.cell? ⟨S + 1, 2, none⟩ = some (.slice none 0 0) := HKC.out.cell 2
    have d3 : w2.cell? ⟨S + 1, 3, none⟩ = some (.slice none 0 0) := HKC.out.cell 3
    have d4 : w2.cell? ⟨S + 1, 4, none⟩ = some (.slice none 0 0) := HKC.out.cell 4
    have d5 : w2.cell? ⟨S + 1, 5, none⟩ = some (.int .i64 0) := HKC.out.cell 5
    have d6 : w2.cell? ⟨S + 1, 6, none⟩ = some (.int .u32 0) := HKC.out.cell 6
    have d7 : w2.cell? ⟨S + 1, 7, none⟩ = some (.slice none 0 0) := HKC.out.cell 7
    have d8 : w2.cell? ⟨S + 1, 8, none⟩ = some (.slice none 0 0) := HKC.out.cell 8
    have d9 : w2.cell? ⟨S + 1, 9, none⟩ = some (.slice none 0 0) := HKC.out.cell 9
    have d10 : w2.cell? ⟨S + 1, 10, none⟩ = some (.int .i64 0) := HKC.out.cell 10
    have d11 : w2.cell? ⟨S + 1, 11, none⟩ = some (.int .i64 0) := HKC.out.cell 11
    have fzd : ∀ o, w2.frozen? ⟨S + 1, o, none⟩ = false := fun o => HKC.out.frozen o
    go_wp2_with fail
    have HKF := Lib.hid (blk_st12 (HKC.out) (.slice ad nd cd) (.slice ai ni ci) (.slice an nn cn) (.slice av nv cv) (.slice ta L.length tc) (.int .i64 (p2.at' : Int)) (.int .u32 p2.q.group) (.slice af nf cf) (.slice ac nc cc) (.slice ao no co) (.int .i64 p2.q.limit) (.int .i64 (p2.err : Int)))
    have HBF := Lib.hid (below_st12 (HB2.out) (b := S + 1) (by have := HSW.out; omega) (.slice ad nd cd) (.slice ai ni ci) (.slice an nn cn) (.slice av nv cv) (.slice ta L.length tc) (.int .i64 (p2.at' : Int)) (.int .u32 p2.q.group) (.slice af nf cf) (.slice ac nc cc) (.slice ao no co) (.int .i64 p2.q.limit) (.int .i64 (p2.err : Int)))
    generalize ((((((((((((w2.setCell ⟨S + 1, 0, none⟩ (.slice ad nd cd)).setCell ⟨S + 1, 1, none⟩ (.slice ai ni ci)).setCell ⟨S + 1, 2, none⟩ (.slice an nn cn)).setCell ⟨S + 1, 3, none⟩ (.slice av nv cv)).setCell ⟨S + 1, 4, none⟩ (.slice ta L.length tc)).setCell ⟨S + 1, 5, none⟩ (.int .i64 (p2.at' : Int))).setCell ⟨S + 1, 6, none⟩ (.int .u32 p2.q.group)).setCell ⟨S + 1, 7, none⟩ (.slice af nf cf)).setCell ⟨S + 1, 8, none⟩ (.slice ac nc cc)).setCell ⟨S + 1, 9, none⟩ (.slice ao no co)).setCell ⟨S + 1, 10, none⟩ (.int .i64 p2.q.limit)).setCell ⟨S + 1, 11, none⟩ (.int .i64 (p2.err : Int))) = Wf at *
    have z0 : Wf.cell? ⟨S + 1, 0, none⟩ = some (.slice ad nd cd) := HKF.out.cell 0
    have z1 : Wf.cell? ⟨S + 1, 1, none⟩ = some (.slice ai ni ci) := HKF.out.cell 1
    have z2 : Wf.cell? ⟨S + 1, 2, none⟩ = some (.slice an nn cn) := HKF.out.cell 2
    have z3 : Wf.cell? ⟨S + 1, 3, none⟩ = some (.slice av nv cv) := HKF.out.cell 3
    have z4 : Wf.cell? ⟨S + 1, 4, none⟩ = some (.slice ta L.length tc) := HKF.out.cell 4
    have z5 : Wf.cell? ⟨S + 1, 5, none⟩ = some (.int .i64 (p2.at' : Int)) := HKF.out.cell 5
    have z6 : Wf.cell? ⟨S + 1, 6, none⟩ = some (.int .u32 p2.q.group) := HKF.out.cell 6
    have z7 : Wf.cell? ⟨S + 1, 7, none⟩ = some (.slice af nf cf) := HKF.out.cell 7
    have z8 : Wf.cell? ⟨S + 1, 8, none⟩ = some (.slice ac nc cc) := HKF.out.cell 8
    have z9 : Wf.cell? ⟨S + 1, 9, none⟩ = some (.slice ao no co) := HKF.out.cell 9
    have z10 : Wf.cell? ⟨S + 1, 10, none⟩ = some (.int .i64 p2.q.limit) := HKF.out.cell 10
    have z11 : Wf.cell? ⟨S + 1, 11, none⟩ = some (.int .i64 (p2.err : Int)) := HKF.out.cell 11
    refine bodyPost_ret (v := .agg #[.slice ad nd cd, .slice ai ni ci, .slice an nn cn, .slice av nv cv, .slice ta L.length tc, .int .i64 (p2.at' : Int), .int .u32 p2.q.group, .slice af nf cf, .slice ac nc cc, .slice ao no co, .int .i64 p2.q.limit, .int .i64 (p2.err : Int)]) (by simp [results, Try.results30, go_sem, z0, z1, z2, z3, z4, z5, z6, z7, z8, z9, z10, z11]) rfl ?_
    exact ⟨rfl, by rw [HSW.out]; exact HBF.out⟩
  · go_wp2_with fail
    refine (HON.out _).mono ?_; rintro e w2 ⟨rfl, hb2⟩
    have HB2 := Lib.hid (HB1.out.trans (hb2.mono (by have := HB1.out.size; have := HSW.out; omega)))
    have HKC := Lib.hid (HKB.out.below hb2 HKB.out.lt)
    clear hb2
    clear c0 c1 c2 c3 c4 c5 c6 c7 c8 c9 c10 c11
    have d0 : w2.cell? ⟨S + 1, 0, none⟩ = some (.slice none 0 0) := HKC.out.cell 0
    have d1 : w2.cell? ⟨S + 1, 1, none⟩ = some (.slice none 0 0) := HKC.out.cell 1
    have d2 : w2.cell? ⟨S + 1, 2, none⟩ = some (.slice none 0 0) := HKC.out.cell 2
    have d3 : w2.cell? ⟨S + 1, 3, none⟩ = some (.slice none 0 0) := HKC.out.cell 3
    have d4 : w2.cell? ⟨S + 1, 4, none⟩ = some (.slice none 0 0) := HKC.out.cell 4
    have d5 : w2.cell? ⟨S + 1, 5, none⟩ = some (.int .i64 0) := HKC.out.cell 5
    have d6 : w2.cell? ⟨S + 1, 6, none⟩ = some (.int .u32 0) := HKC.out.cell 6
    have d7 : w2.cell? ⟨S + 1, 7, none⟩ = some (.slice none 0 0) := HKC.out.cell 7
    have d8 : w2.cell? ⟨S + 1, 8, none⟩ = some (.slice none 0 0) := HKC.out.cell 8
    have d9 : w2.cell? ⟨S + 1, 9, none⟩ = some (.slice none 0 0) := HKC.out.cell 9
    have d10 : w2.cell? ⟨S + 1, 10, none⟩ = some (.int .i64 0) := HKC.out.cell 10
    have d11 : w2.cell? ⟨S + 1, 11, none⟩ = some (.int .i64 0) := HKC.out.cell 11
    have fzd : ∀ o, w2.frozen? ⟨S + 1, o, none⟩ = false := fun o => HKC.out.frozen o
    go_wp2_with fail
    have HKF := Lib.hid (blk_st12 (HKC.out) (.slice ad nd cd) (.slice ai ni ci) (.slice an nn cn) (.slice av nv cv) (.slice ta L.length tc) (.int .i64 (p1.at' : Int)) (.int .u32 p1.q.group) (.slice af nf cf) (.slice ac nc cc) (.slice ao no co) (.int .i64 p1.q.limit) (.int .i64 (p1.err : Int)))
    have HBF := Lib.hid (below_st12 (HB2.out) (b := S + 1) (by have := HSW.out; omega) (.slice ad nd cd) (.slice ai ni ci) (.slice an nn cn) (.slice av nv cv) (.slice ta L.length tc) (.int .i64 (p1.at' : Int)) (.int .u32 p1.q.group) (.slice af nf cf) (.slice ac nc cc) (.slice ao no co) (.int .i64 p1.q.limit) (.int .i64 (p1.err : Int)))
    generalize ((((((((((((w2.setCell ⟨S + 1, 0, none⟩ (.slice ad nd cd)).setCell ⟨S + 1, 1, none⟩ (.slice ai ni ci)).setCell ⟨S + 1, 2, none⟩ (.slice an nn cn)).setCell ⟨S + 1, 3, none⟩ (.slice av nv cv)).setCell ⟨S + 1, 4, none⟩ (.slice ta L.length tc)).setCell ⟨S + 1, 5, none⟩ (.int .i64 (p1.at' : Int))).setCell ⟨S + 1, 6, none⟩ (.int .u32 p1.q.group)).setCell ⟨S + 1, 7, none⟩ (.slice af nf cf)).setCell ⟨S + 1, 8, none⟩ (.slice ac nc cc)).setCell ⟨S + 1, 9, none⟩ (.slice ao no co)).setCell ⟨S + 1, 10, none⟩ (.int .i64 p1.q.limit)).setCell ⟨S + 1, 11, none⟩ (.int .i64 (p1.err : Int))) = Wf at *
    have z0 : Wf.cell? ⟨S + 1, 0, none⟩ = some (.slice ad nd cd) := HKF.out.cell 0
    have z1 : Wf.cell? ⟨S + 1, 1, none⟩ = some (.slice ai ni ci) := HKF.out.cell 1
    have z2 : Wf.cell? ⟨S + 1, 2, none⟩ = some (.slice an nn cn) := HKF.out.cell 2
    have z3 : Wf.cell? ⟨S + 1, 3, none⟩ = some (.slice av nv cv) := HKF.out.cell 3
    have z4 : Wf.cell? ⟨S + 1, 4, none⟩ = some (.slice ta L.length tc) := HKF.out.cell 4
    have z5 : Wf.cell? ⟨S + 1, 5, none⟩ = some (.int .i64 (p1.at' : Int)) := HKF.out.cell 5
    have z6 : Wf.cell? ⟨S + 1, 6, none⟩ = some (.int .u32 p1.q.group) := HKF.out.cell 6
    have z7 : Wf.cell? ⟨S + 1, 7, none⟩ = some (.slice af nf cf) := HKF.out.cell 7
    have z8 : Wf.cell? ⟨S + 1, 8, none⟩ = some (.slice ac nc cc) := HKF.out.cell 8
    have z9 : Wf.cell? ⟨S + 1, 9, none⟩ = some (.slice ao no co) := HKF.out.cell 9
    have z10 : Wf.cell? ⟨S + 1, 10, none⟩ = some (.int .i64 p1.q.limit) := HKF.out.cell 10
    have z11 : Wf.cell? ⟨S + 1, 11, none⟩ = some (.int .i64 (p1.err : Int)) := HKF.out.cell 11
    refine bodyPost_ret (v := .agg #[.slice ad nd cd, .slice ai ni ci, .slice an nn cn, .slice av nv cv, .slice ta L.length tc, .int .i64 (p1.at' : Int), .int .u32 p1.q.group, .slice af nf cf, .slice ac nc cc, .slice ao no co, .int .i64 p1.q.limit, .int .i64 (p1.err : Int)]) (by simp [results, Try.results30, go_sem, z0, z1, z2, z3, z4, z5, z6, z7, z8, z9, z10, z11]) rfl ?_
    exact ⟨rfl, by rw [HSW.out]; exact HBF.out⟩
end Go.Proofs.Ytaofjnidniekjaa
