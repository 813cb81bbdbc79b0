/- The reference's reading (package bushelref36): one, part. Conditions: those stated. -/
import Derived.Test.YtaofjnidniekjaaParRi
namespace Go.Proofs.Ytaofjnidniekjaa
open Go.RowKit

/-- a part's thing -/
def oneR (X : RX) (k : Nat) (p : PState) : PState := if k = 0 then colR (measN X.s) X.L p else if k = 1 then groupR (dimN X.s) X.L p else if k = 2 then condR (dimN X.s) X.L p else ordR X.L p
def oneSX (X : RX) (k : Nat) : Nat → QP → Except (Nat × Nat) (Nat × QP) := if k = 0 then colS (measN X.s) X.L else if k = 1 then groupS (dimN X.s) X.L else if k = 2 then condS (dimN X.s) X.L else ordS X.L
theorem AgrG.st1 {G G' : Nat → Prop} {w wx : World} {b k : Nat} {c : Value} (h : AgrG G' (w.setCell ⟨b, k, none⟩ c) wx) (hb : ∀ g, G g → g ≠ b) (hG : ∀ g, G g → G' g) : AgrG G w wx :=
  ⟨h.os, h.tape, h.output, by have := h.size; rw [World.size_setCell] at this; exact this, fun g hg hgg => by
    rw [h.block g (by rw [World.size_setCell]; exact hg) (hG g hgg), Below.heap_setCell _ _ _ _ (show g ≠ b from hb g hgg)]⟩
theorem AgrG.st12 {G G' : Nat → Prop} {w wx : World} {b : Nat} {c0 c1 c2 c3 c4 c5 c6 c7 c8 c9 c10 c11 : Value} (h : AgrG G' ((((((((((((w.setCell ⟨b, 0, none⟩ (c0)).setCell ⟨b, 1, none⟩ (c1)).setCell ⟨b, 2, none⟩ (c2)).setCell ⟨b, 3, none⟩ (c3)).setCell ⟨b, 4, none⟩ (c4)).setCell ⟨b, 5, none⟩ (c5)).setCell ⟨b, 6, none⟩ (c6)).setCell ⟨b, 7, none⟩ (c7)).setCell ⟨b, 8, none⟩ (c8)).setCell ⟨b, 9, none⟩ (c9)).setCell ⟨b, 10, none⟩ (c10)).setCell ⟨b, 11, none⟩ (c11)) wx) (hb : ∀ g, G g → g ≠ b) (hG : ∀ g, G g → G' g) : AgrG G w wx := ((((((((((((h.st1 hb hG).st1 hb (fun _ h => h)).st1 hb (fun _ h => h)).st1 hb (fun _ h => h)).st1 hb (fun _ h => h)).st1 hb (fun _ h => h)).st1 hb (fun _ h => h)).st1 hb (fun _ h => h)).st1 hb (fun _ h => h)).st1 hb (fun _ h => h)).st1 hb (fun _ h => h)).st1 hb (fun _ h => h))
theorem one_says (X : RX) (k i : Nat) (q : QP) : SaysR (oneR X k ⟨i, q, 0⟩) (oneSX X k i q) := by
  unfold oneR oneSX
  split
  · exact col_says _ _ _ _
  split
  · exact group_says _ _ _ _
  split
  · exact cond_says _ _ _ _
  · exact ord_says _ _ _
theorem one_goes (X : RX) (k : Nat) : Goes X.L (oneSX X k) := by
  unfold oneSX
  split
  · exact col_goes _ _
  split
  · exact group_goes _ _
  split
  · exact cond_goes _ _
  · exact ord_goes _
theorem one_on (X : RX) (k : Nat) {p : PState} (hp : p.err = 0) (h : (oneR X k p).err = 0) : p.at' < (oneR X k p).at' := by
  obtain ⟨i, q, er⟩ := p
  dsimp only at hp
  subst hp
  have h1 := one_says X k i q
  have h2 := one_goes X k i q
  rcases hx : oneSX X k i q with e | x
  · rw [hx] at h1
    obtain ⟨h3, h4, h5⟩ := h1
    exact absurd (h4.symm.trans h) h5
  · rw [hx] at h1
    have h1 : oneR X k ⟨i, q, 0⟩ = ⟨x.1, x.2, 0⟩ := h1
    rw [h1]
    exact (h2 x hx).1

set_option maxRecDepth 100000 in
set_option maxHeartbeats 1000000 in
theorem vone_any (X : RX) (m : QryL) (fl : List Flt) (p : PState) (G : Nat → Prop) (w : World) (hX : X.At w) (hp : StG G X m fl p w) (hG : ∀ g, G g → g < w.heap.size) (k : Nat) (hk : k ≤ 3) (he : k = 0 ∨ p.err = 0) :
    Calls Try.prog 67 #[StV X m p, .int .i64 (k : Int)] w (RStO X (oneR X k p) G w) := by
  have HGW := Lib.hid hG
  have HC : Hid (k = 0 → ∀ w', Below w.heap.size w w' → Calls Try.prog 74 #[StV X m p] w' (RStO X (oneR X k p) G w')) := Lib.hid (fun h w' hb => by
    unfold oneR; rw [if_pos h]; exact vcol_any X m fl p G w' (hX.below hb (Nat.le_refl _)) (hp.below hb))
  have HG : Hid (k = 1 → ∀ w', Below w.heap.size w w' → Calls Try.prog 75 #[StV X m p] w' (RStO X (oneR X k p) G w')) := Lib.hid (fun h w' hb => by
    unfold oneR; rw [if_neg (by omega), if_pos h]; exact vgroup_any X m fl p G w' (hX.below hb (Nat.le_refl _)) (hp.below hb))
  have HD : Hid (k = 2 → ∀ w', Below w.heap.size w w' → Calls Try.prog 76 #[StV X m p] w' (RStO X (oneR X k p) G w')) := Lib.hid (fun h w' hb => by
    unfold oneR; rw [if_neg (by omega), if_neg (by omega), if_pos h]; exact vcond_any X m fl p G w' (hX.below hb (Nat.le_refl _)) (hp.below hb) (by omega))
  have HO : Hid (k = 3 → ∀ w', Below w.heap.size w w' → Calls Try.prog 77 #[StV X m p] w' (RStO X (oneR X k p) G w')) := Lib.hid (fun h w' hb => by
    unfold oneR; rw [if_neg (by omega), if_neg (by omega), if_neg (by omega)]; exact vord_any X m fl p G w' (hX.below hb (Nat.le_refl _)) (hp.below hb) (by omega))
  obtain ⟨p2, hp2⟩ : ∃ x, oneR X k p = x := ⟨_, rfl⟩
  rw [hp2] at HC HG HD HO ⊢
  clear hX hp he hp2 hG
  unfold RStO at *
  unfold StV at *
  obtain ⟨⟨ad, nd, cd, ai, ni, ci, an, nn, cn, av, nv, cv⟩, s, ta, tc, L⟩ := X
  obtain ⟨af, nf, cf, ac, nc, cc, ao, no, co⟩ := m
  obtain ⟨i, ⟨g, fq, cq, oq, lm⟩, er⟩ := p
  (try dsimp only at *)
  obtain ⟨W0, hW0⟩ : ∃ W0, ((w.alloc (.cells #[.slice ad nd cd, .slice ai ni ci, .slice an nn cn, .slice av nv cv, .slice ta L.length tc, .int .i64 (i : Int), .int .u32 g, .slice af nf cf, .slice ac nc cc, .slice ao no co, .int .i64 lm, .int .i64 (er : Int)] 82)).alloc (.cells #[.slice none 0 0, .slice none 0 0, .slice none 0 0, .slice none 0 0, .slice none 0 0, .int .i64 0, .int .u32 0, .slice none 0 0, .slice none 0 0, .slice none 0 0, .int .i64 0, .int .i64 0] 82)) = W0 := ⟨_, rfl⟩
  have HB0 : Hid (Below w.heap.size w W0) := Lib.hid (by
    rw [← hW0]
    exact (((Below.refl _ _).alloc (Nat.le_refl _) _).alloc (by simp) _))
  have HZ0 : Hid (W0.heap.size = w.heap.size + 2) := Lib.hid (by rw [← hW0]; simp)
  have HK0 : Hid (Blk W0 (w.heap.size) 82 #[.slice ad nd cd, .slice ai ni ci, .slice an nn cn, .slice av nv cv, .slice ta L.length tc, .int .i64 (i : Int), .int .u32 g, .slice af nf cf, .slice ac nc cc, .slice ao no co, .int .i64 lm, .int .i64 (er : Int)]) := Lib.hid (by
    rw [← hW0]
    have h := Blk.new w 82 #[.slice ad nd cd, .slice ai ni ci, .slice an nn cn, .slice av nv cv, .slice ta L.length tc, .int .i64 (i : Int), .int .u32 g, .slice af nf cf, .slice ac nc cc, .slice ao no co, .int .i64 lm, .int .i64 (er : Int)]
    exact h.alloc _)
  have HK1 : Hid (Blk W0 (w.heap.size + 1) 82 #[.slice none 0 0, .slice none 0 0, .slice none 0 0, .slice none 0 0, .slice none 0 0, .int .i64 0, .int .u32 0, .slice none 0 0, .slice none 0 0, .slice none 0 0, .int .i64 0, .int .i64 0]) := Lib.hid (by
    rw [← hW0]
    have h := Blk.new (w.alloc (.cells #[.slice ad nd cd, .slice ai ni ci, .slice an nn cn, .slice av nv cv, .slice ta L.length tc, .int .i64 (i : Int), .int .u32 g, .slice af nf cf, .slice ac nc cc, .slice ao no co, .int .i64 lm, .int .i64 (er : Int)] 82)) 82 #[.slice none 0 0, .slice none 0 0, .slice none 0 0, .slice none 0 0, .slice none 0 0, .int .i64 0, .int .u32 0, .slice none 0 0, .slice none 0 0, .slice none 0 0, .int .i64 0, .int .i64 0]
    rw [World.size_alloc] at h
    exact h)
  rcases (by omega : k = 0 ∨ k = 1 ∨ k = 2 ∨ k = 3) with rfl | rfl | rfl | rfl
  · have HONE := Lib.hid (HC.out rfl)
    clear HC HG HD HO hk
    (try unfold StV)
    (try dsimp only)
    go_enter Try.func67, Try.ntmps67
    go_upto_region 1 with fail
    clear hW0
    generalize hS : w.heap.size = S at *
    have HSW := Lib.hid hS
    clear hS
    have c0 : W0.cell? ⟨S, 0, none⟩ = some (.slice ad nd cd) := HK0.out.cell 0
    have c1 : W0.cell? ⟨S, 1, none⟩ = some (.slice ai ni ci) := HK0.out.cell 1
    have c2 : W0.cell? ⟨S, 2, none⟩ = some (.slice an nn cn) := HK0.out.cell 2
    have c3 : W0.cell? ⟨S, 3, none⟩ = some (.slice av nv cv) := HK0.out.cell 3
    have c4 : W0.cell? ⟨S, 4, none⟩ = some (.slice ta L.length tc) := HK0.out.cell 4
    have c5 : W0.cell? ⟨S, 5, none⟩ = some (.int .i64 (i : Int)) := HK0.out.cell 5
    have c6 : W0.cell? ⟨S, 6, none⟩ = some (.int .u32 g) := HK0.out.cell 6
    have c7 : W0.cell? ⟨S, 7, none⟩ = some (.slice af nf cf) := HK0.out.cell 7
    have c8 : W0.cell? ⟨S, 8, none⟩ = some (.slice ac nc cc) := HK0.out.cell 8
    have c9 : W0.cell? ⟨S, 9, none⟩ = some (.slice ao no co) := HK0.out.cell 9
    have c10 : W0.cell? ⟨S, 10, none⟩ = some (.int .i64 lm) := HK0.out.cell 10
    have c11 : W0.cell? ⟨S, 11, none⟩ = some (.int .i64 (er : Int)) := HK0.out.cell 11
    go_wp2_with fail
    refine (HONE.out _ HB0.out).mono ?_; rintro e w1 ⟨m2, fl2, rfl, hst, hb1⟩
    have HB1 := Lib.hid (HB0.out.trans (hb1.mono (by have := HZ0.out; omega)))
    have HKB := Lib.hid (HK1.out.below hb1 HK1.out.lt)
    have HST := Lib.hid hst
    clear hb1 hst HONE
    clear c0 c1 c2 c3 c4 c5 c6 c7 c8 c9 c10 c11
    (try unfold StV)
    (try dsimp only)
    have d0 : w1.cell? ⟨S + 1, 0, none⟩ = some (.slice none 0 0) := HKB.out.cell 0
    have d1 : w1.cell? ⟨S + 1, 1, none⟩ = some (.slice none 0 0) := HKB.out.cell 1
    have d2 : w1.cell? ⟨S + 1, 2, none⟩ = some (.slice none 0 0) := HKB.out.cell 2
    have d3 : w1.cell? ⟨S + 1, 3, none⟩ = some (.slice none 0 0) := HKB.out.cell 3
    have d4 : w1.cell? ⟨S + 1, 4, none⟩ = some (.slice none 0 0) := HKB.out.cell 4
    have d5 : w1.cell? ⟨S + 1, 5, none⟩ = some (.int .i64 0) := HKB.out.cell 5
    have d6 : w1.cell? ⟨S + 1, 6, none⟩ = some (.int .u32 0) := HKB.out.cell 6
    have d7 : w1.cell? ⟨S + 1, 7, none⟩ = some (.slice none 0 0) := HKB.out.cell 7
    have d8 : w1.cell? ⟨S + 1, 8, none⟩ = some (.slice none 0 0) := HKB.out.cell 8
    have d9 : w1.cell? ⟨S + 1, 9, none⟩ = some (.slice none 0 0) := HKB.out.cell 9
    have d10 : w1.cell? ⟨S + 1, 10, none⟩ = some (.int .i64 0) := HKB.out.cell 10
    have d11 : w1.cell? ⟨S + 1, 11, none⟩ = some (.int .i64 0) := HKB.out.cell 11
    have fzd : ∀ o, w1.frozen? ⟨S + 1, o, none⟩ = false := fun o => HKB.out.frozen o
    go_wp2_with fail
    have HAG : Hid (∀ wx, AgrG (fun g => G g ∨ w.heap.size ≤ g) ((((((((((((w1.setCell ⟨S + 1, 0, none⟩ (.slice ad nd cd)).setCell ⟨S + 1, 1, none⟩ (.slice ai ni ci)).setCell ⟨S + 1, 2, none⟩ (.slice an nn cn)).setCell ⟨S + 1, 3, none⟩ (.slice av nv cv)).setCell ⟨S + 1, 4, none⟩ (.slice ta L.length tc)).setCell ⟨S + 1, 5, none⟩ (.int .i64 (p2.at' : Int))).setCell ⟨S + 1, 6, none⟩ (.int .u32 p2.q.group)).setCell ⟨S + 1, 7, none⟩ (.slice m2.af m2.nf m2.cf)).setCell ⟨S + 1, 8, none⟩ (.slice m2.ac m2.nc m2.cc)).setCell ⟨S + 1, 9, none⟩ (.slice m2.ao m2.no m2.co)).setCell ⟨S + 1, 10, none⟩ (.int .i64 p2.q.limit)).setCell ⟨S + 1, 11, none⟩ (.int .i64 (p2.err : Int))) wx → AgrG (fun g => G g ∨ W0.heap.size ≤ g) w1 wx) := Lib.hid (fun wx hag => hag.st12 (b := S + 1) (fun g hg => by have := HGW.out; have := HSW.out; have := HZ0.out; rcases hg with h | h; have := HGW.out g h; omega; omega) (fun g hg => by have := HSW.out; have := HZ0.out; rcases hg with h | h; exact .inl h; exact .inr (by omega)) )
    have HKF := Lib.hid (blk_st12 (HKB.out) (.slice ad nd cd) (.slice ai ni ci) (.slice an nn cn) (.slice av nv cv) (.slice ta L.length tc) (.int .i64 (p2.at' : Int)) (.int .u32 p2.q.group) (.slice m2.af m2.nf m2.cf) (.slice m2.ac m2.nc m2.cc) (.slice m2.ao m2.no m2.co) (.int .i64 p2.q.limit) (.int .i64 (p2.err : Int)))
    have HBF := Lib.hid (below_st12 (HB1.out) (b := S + 1) (by have := HSW.out; omega) (.slice ad nd cd) (.slice ai ni ci) (.slice an nn cn) (.slice av nv cv) (.slice ta L.length tc) (.int .i64 (p2.at' : Int)) (.int .u32 p2.q.group) (.slice m2.af m2.nf m2.cf) (.slice m2.ac m2.nc m2.cc) (.slice m2.ao m2.no m2.co) (.int .i64 p2.q.limit) (.int .i64 (p2.err : Int)))
    generalize ((((((((((((w1.setCell ⟨S + 1, 0, none⟩ (.slice ad nd cd)).setCell ⟨S + 1, 1, none⟩ (.slice ai ni ci)).setCell ⟨S + 1, 2, none⟩ (.slice an nn cn)).setCell ⟨S + 1, 3, none⟩ (.slice av nv cv)).setCell ⟨S + 1, 4, none⟩ (.slice ta L.length tc)).setCell ⟨S + 1, 5, none⟩ (.int .i64 (p2.at' : Int))).setCell ⟨S + 1, 6, none⟩ (.int .u32 p2.q.group)).setCell ⟨S + 1, 7, none⟩ (.slice m2.af m2.nf m2.cf)).setCell ⟨S + 1, 8, none⟩ (.slice m2.ac m2.nc m2.cc)).setCell ⟨S + 1, 9, none⟩ (.slice m2.ao m2.no m2.co)).setCell ⟨S + 1, 10, none⟩ (.int .i64 p2.q.limit)).setCell ⟨S + 1, 11, none⟩ (.int .i64 (p2.err : Int))) = Wf at *
    have z0 : Wf.cell? ⟨S + 1, 0, none⟩ = some (.slice ad nd cd) := HKF.out.cell 0
    have z1 : Wf.cell? ⟨S + 1, 1, none⟩ = some (.slice ai ni ci) := HKF.out.cell 1
    have z2 : Wf.cell? ⟨S + 1, 2, none⟩ = some (.slice an nn cn) := HKF.out.cell 2
    have z3 : Wf.cell? ⟨S + 1, 3, none⟩ = some (.slice av nv cv) := HKF.out.cell 3
    have z4 : Wf.cell? ⟨S + 1, 4, none⟩ = some (.slice ta L.length tc) := HKF.out.cell 4
    have z5 : Wf.cell? ⟨S + 1, 5, none⟩ = some (.int .i64 (p2.at' : Int)) := HKF.out.cell 5
    have z6 : Wf.cell? ⟨S + 1, 6, none⟩ = some (.int .u32 p2.q.group) := HKF.out.cell 6
    have z7 : Wf.cell? ⟨S + 1, 7, none⟩ = some (.slice m2.af m2.nf m2.cf) := HKF.out.cell 7
    have z8 : Wf.cell? ⟨S + 1, 8, none⟩ = some (.slice m2.ac m2.nc m2.cc) := HKF.out.cell 8
    have z9 : Wf.cell? ⟨S + 1, 9, none⟩ = some (.slice m2.ao m2.no m2.co) := HKF.out.cell 9
    have z10 : Wf.cell? ⟨S + 1, 10, none⟩ = some (.int .i64 p2.q.limit) := HKF.out.cell 10
    have z11 : Wf.cell? ⟨S + 1, 11, none⟩ = some (.int .i64 (p2.err : Int)) := HKF.out.cell 11
    refine bodyPost_ret (v := .agg #[.slice ad nd cd, .slice ai ni ci, .slice an nn cn, .slice av nv cv, .slice ta L.length tc, .int .i64 (p2.at' : Int), .int .u32 p2.q.group, .slice m2.af m2.nf m2.cf, .slice m2.ac m2.nc m2.cc, .slice m2.ao m2.no m2.co, .int .i64 p2.q.limit, .int .i64 (p2.err : Int)]) (by simp [results, Try.results67, go_sem, z0, z1, z2, z3, z4, z5, z6, z7, z8, z9, z10, z11]) rfl ?_
    refine ⟨m2, fl2, rfl, fun wx hag => ?_, by rw [HSW.out]; exact HBF.out⟩
    exact HST.out wx (HAG.out wx hag)
  · have HONE := Lib.hid (HG.out rfl)
    clear HC HG HD HO hk
    (try unfold StV)
    (try dsimp only)
    go_enter Try.func67, Try.ntmps67
    go_upto_region 1 with fail
    clear hW0
    generalize hS : w.heap.size = S at *
    have HSW := Lib.hid hS
    clear hS
    have c0 : W0.cell? ⟨S, 0, none⟩ = some (.slice ad nd cd) := HK0.out.cell 0
    have c1 : W0.cell? ⟨S, 1, none⟩ = some (.slice ai ni ci) := HK0.out.cell 1
    have c2 : W0.cell? ⟨S, 2, none⟩ = some (.slice an nn cn) := HK0.out.cell 2
    have c3 : W0.cell? ⟨S, 3, none⟩ = some (.slice av nv cv) := HK0.out.cell 3
    have c4 : W0.cell? ⟨S, 4, none⟩ = some (.slice ta L.length tc) := HK0.out.cell 4
    have c5 : W0.cell? ⟨S, 5, none⟩ = some (.int .i64 (i : Int)) := HK0.out.cell 5
    have c6 : W0.cell? ⟨S, 6, none⟩ = some (.int .u32 g) := HK0.out.cell 6
    have c7 : W0.cell? ⟨S, 7, none⟩ = some (.slice af nf cf) := HK0.out.cell 7
    have c8 : W0.cell? ⟨S, 8, none⟩ = some (.slice ac nc cc) := HK0.out.cell 8
    have c9 : W0.cell? ⟨S, 9, none⟩ = some (.slice ao no co) := HK0.out.cell 9
    have c10 : W0.cell? ⟨S, 10, none⟩ = some (.int .i64 lm) := HK0.out.cell 10
    have c11 : W0.cell? ⟨S, 11, none⟩ = some (.int .i64 (er : Int)) := HK0.out.cell 11
    go_wp2_with fail
    refine (HONE.out _ HB0.out).mono ?_; rintro e w1 ⟨m2, fl2, rfl, hst, hb1⟩
    have HB1 := Lib.hid (HB0.out.trans (hb1.mono (by have := HZ0.out; omega)))
    have HKB := Lib.hid (HK1.out.below hb1 HK1.out.lt)
    have HST := Lib.hid hst
    clear hb1 hst HONE
    clear c0 c1 c2 c3 c4 c5 c6 c7 c8 c9 c10 c11
    (try unfold StV)
    (try dsimp only)
    have d0 : w1.cell? ⟨S + 1, 0, none⟩ = some (.slice none 0 0) := HKB.out.cell 0
    have d1 : w1.cell? ⟨S + 1, 1, none⟩ = some (.slice none 0 0) := HKB.out.cell 1
    have d2 : w1.cell? ⟨S + 1, 2, none⟩ = some (.slice none 0 0) := HKB.out.cell 2
    have d3 : w1.cell? ⟨S + 1, 3, none⟩ = some (.slice none 0 0) := HKB.out.cell 3
    have d4 : w1.cell? ⟨S + 1, 4, none⟩ = some (.slice none 0 0) := HKB.out.cell 4
    have d5 : w1.cell? ⟨S + 1, 5, none⟩ = some (.int .i64 0) := HKB.out.cell 5
    have d6 : w1.cell? ⟨S + 1, 6, none⟩ = some (.int .u32 0) := HKB.out.cell 6
    have d7 : w1.cell? ⟨S + 1, 7, none⟩ = some (.slice none 0 0) := HKB.out.cell 7
    have d8 : w1.cell? ⟨S + 1, 8, none⟩ = some (.slice none 0 0) := HKB.out.cell 8
    have d9 : w1.cell? ⟨S + 1, 9, none⟩ = some (.slice none 0 0) := HKB.out.cell 9
    have d10 : w1.cell? ⟨S + 1, 10, none⟩ = some (.int .i64 0) := HKB.out.cell 10
    have d11 : w1.cell? ⟨S + 1, 11, none⟩ = some (.int .i64 0) := HKB.out.cell 11
    have fzd : ∀ o, w1.frozen? ⟨S + 1, o, none⟩ = false := fun o => HKB.out.frozen o
    go_wp2_with fail
    have HAG : Hid (∀ wx, AgrG (fun g => G g ∨ w.heap.size ≤ g) ((((((((((((w1.setCell ⟨S + 1, 0, none⟩ (.slice ad nd cd)).setCell ⟨S + 1, 1, none⟩ (.slice ai ni ci)).setCell ⟨S + 1, 2, none⟩ (.slice an nn cn)).setCell ⟨S + 1, 3, none⟩ (.slice av nv cv)).setCell ⟨S + 1, 4, none⟩ (.slice ta L.length tc)).setCell ⟨S + 1, 5, none⟩ (.int .i64 (p2.at' : Int))).setCell ⟨S + 1, 6, none⟩ (.int .u32 p2.q.group)).setCell ⟨S + 1, 7, none⟩ (.slice m2.af m2.nf m2.cf)).setCell ⟨S + 1, 8, none⟩ (.slice m2.ac m2.nc m2.cc)).setCell ⟨S + 1, 9, none⟩ (.slice m2.ao m2.no m2.co)).setCell ⟨S + 1, 10, none⟩ (.int .i64 p2.q.limit)).setCell ⟨S + 1, 11, none⟩ (.int .i64 (p2.err : Int))) wx → AgrG (fun g => G g ∨ W0.heap.size ≤ g) w1 wx) := Lib.hid (fun wx hag => hag.st12 (b := S + 1) (fun g hg => by have := HGW.out; have := HSW.out; have := HZ0.out; rcases hg with h | h; have := HGW.out g h; omega; omega) (fun g hg => by have := HSW.out; have := HZ0.out; rcases hg with h | h; exact .inl h; exact .inr (by omega)) )
    have HKF := Lib.hid (blk_st12 (HKB.out) (.slice ad nd cd) (.slice ai ni ci) (.slice an nn cn) (.slice av nv cv) (.slice ta L.length tc) (.int .i64 (p2.at' : Int)) (.int .u32 p2.q.group) (.slice m2.af m2.nf m2.cf) (.slice m2.ac m2.nc m2.cc) (.slice m2.ao m2.no m2.co) (.int .i64 p2.q.limit) (.int .i64 (p2.err : Int)))
    have HBF := Lib.hid (below_st12 (HB1.out) (b := S + 1) (by have := HSW.out; omega) (.slice ad nd cd) (.slice ai ni ci) (.slice an nn cn) (.slice av nv cv) (.slice ta L.length tc) (.int .i64 (p2.at' : Int)) (.int .u32 p2.q.group) (.slice m2.af m2.nf m2.cf) (.slice m2.ac m2.nc m2.cc) (.slice m2.ao m2.no m2.co) (.int .i64 p2.q.limit) (.int .i64 (p2.err : Int)))
    generalize ((((((((((((w1.setCell ⟨S + 1, 0, none⟩ (.slice ad nd cd)).setCell ⟨S + 1, 1, none⟩ (.slice ai ni ci)).setCell ⟨S + 1, 2, none⟩ (.slice an nn cn)).setCell ⟨S + 1, 3, none⟩ (.slice av nv cv)).setCell ⟨S + 1, 4, none⟩ (.slice ta L.length tc)).setCell ⟨S + 1, 5, none⟩ (.int .i64 (p2.at' : Int))).setCell ⟨S + 1, 6, none⟩ (.int .u32 p2.q.group)).setCell ⟨S + 1, 7, none⟩ (.slice m2.af m2.nf m2.cf)).setCell ⟨S + 1, 8, none⟩ (.slice m2.ac m2.nc m2.cc)).setCell ⟨S + 1, 9, none⟩ (.slice m2.ao m2.no m2.co)).setCell ⟨S + 1, 10, none⟩ (.int .i64 p2.q.limit)).setCell ⟨S + 1, 11, none⟩ (.int .i64 (p2.err : Int))) = Wf at *
    have z0 : Wf.cell? ⟨S + 1, 0, none⟩ = some (.slice ad nd cd) := HKF.out.cell 0
    have z1 : Wf.cell? ⟨S + 1, 1, none⟩ = some (.slice ai ni ci) := HKF.out.cell 1
    have z2 : Wf.cell? ⟨S + 1, 2, none⟩ = some (.slice an nn cn) := HKF.out.cell 2
    have z3 : Wf.cell? ⟨S + 1, 3, none⟩ = some (.slice av nv cv) := HKF.out.cell 3
    have z4 : Wf.cell? ⟨S + 1, 4, none⟩ = some (.slice ta L.length tc) := HKF.out.cell 4
    have z5 : Wf.cell? ⟨S + 1, 5, none⟩ = some (.int .i64 (p2.at' : Int)) := HKF.out.cell 5
    have z6 : Wf.cell? ⟨S + 1, 6, none⟩ = some (.int .u32 p2.q.group) := HKF.out.cell 6
    have z7 : Wf.cell? ⟨S + 1, 7, none⟩ = some (.slice m2.af m2.nf m2.cf) := HKF.out.cell 7
    have z8 : Wf.cell? ⟨S + 1, 8, none⟩ = some (.slice m2.ac m2.nc m2.cc) := HKF.out.cell 8
    have z9 : Wf.cell? ⟨S + 1, 9, none⟩ = some (.slice m2.ao m2.no m2.co) := HKF.out.cell 9
    have z10 : Wf.cell? ⟨S + 1, 10, none⟩ = some (.int .i64 p2.q.limit) := HKF.out.cell 10
    have z11 : Wf.cell? ⟨S + 1, 11, none⟩ = some (.int .i64 (p2.err : Int)) := HKF.out.cell 11
    refine bodyPost_ret (v := .agg #[.slice ad nd cd, .slice ai ni ci, .slice an nn cn, .slice av nv cv, .slice ta L.length tc, .int .i64 (p2.at' : Int), .int .u32 p2.q.group, .slice m2.af m2.nf m2.cf, .slice m2.ac m2.nc m2.cc, .slice m2.ao m2.no m2.co, .int .i64 p2.q.limit, .int .i64 (p2.err : Int)]) (by simp [results, Try.results67, go_sem, z0, z1, z2, z3, z4, z5, z6, z7, z8, z9, z10, z11]) rfl ?_
    refine ⟨m2, fl2, rfl, fun wx hag => ?_, by rw [HSW.out]; exact HBF.out⟩
    exact HST.out wx (HAG.out wx hag)
  · have HONE := Lib.hid (HD.out rfl)
    clear HC HG HD HO hk
    (try unfold StV)
    (try dsimp only)
    go_enter Try.func67, Try.ntmps67
    go_upto_region 1 with fail
    clear hW0
    generalize hS : w.heap.size = S at *
    have HSW := Lib.hid hS
    clear hS
    have c0 : W0.cell? ⟨S, 0, none⟩ = some (.slice ad nd cd) := HK0.out.cell 0
    have c1 : W0.cell? ⟨S, 1, none⟩ = some (.slice ai ni ci) := HK0.out.cell 1
    have c2 : W0.cell? ⟨S, 2, none⟩ = some (.slice an nn cn) := HK0.out.cell 2
    have c3 : W0.cell? ⟨S, 3, none⟩ = some (.slice av nv cv) := HK0.out.cell 3
    have c4 : W0.cell? ⟨S, 4, none⟩ = some (.slice ta L.length tc) := HK0.out.cell 4
    have c5 : W0.cell? ⟨S, 5, none⟩ = some (.int .i64 (i : Int)) := HK0.out.cell 5
    have c6 : W0.cell? ⟨S, 6, none⟩ = some (.int .u32 g) := HK0.out.cell 6
    have c7 : W0.cell? ⟨S, 7, none⟩ = some (.slice af nf cf) := HK0.out.cell 7
    have c8 : W0.cell? ⟨S, 8, none⟩ = some (.slice ac nc cc) := HK0.out.cell 8
    have c9 : W0.cell? ⟨S, 9, none⟩ = some (.slice ao no co) := HK0.out.cell 9
    have c10 : W0.cell? ⟨S, 10, none⟩ = some (.int .i64 lm) := HK0.out.cell 10
    have c11 : W0.cell? ⟨S, 11, none⟩ = some (.int .i64 (er : Int)) := HK0.out.cell 11
    go_wp2_with fail
    refine (HONE.out _ HB0.out).mono ?_; rintro e w1 ⟨m2, fl2, rfl, hst, hb1⟩
    have HB1 := Lib.hid (HB0.out.trans (hb1.mono (by have := HZ0.out; omega)))
    have HKB := Lib.hid (HK1.out.below hb1 HK1.out.lt)
    have HST := Lib.hid hst
    clear hb1 hst HONE
    clear c0 c1 c2 c3 c4 c5 c6 c7 c8 c9 c10 c11
    (try unfold StV)
    (try dsimp only)
    have d0 : w1.cell? ⟨S + 1, 0, none⟩ = some (.slice none 0 0) := HKB.out.cell 0
    have d1 : w1.cell? ⟨S + 1, 1, none⟩ = some (.slice none 0 0) := HKB.out.cell 1
    have d2 : w1.cell? ⟨S + 1, 2, none⟩ = some (.slice none 0 0) := HKB.out.cell 2
    have d3 : w1.cell? ⟨S + 1, 3, none⟩ = some (.slice none 0 0) := HKB.out.cell 3
    have d4 : w1.cell? ⟨S + 1, 4, none⟩ = some (.slice none 0 0) := HKB.out.cell 4
    have d5 : w1.cell? ⟨S + 1, 5, none⟩ = some (.int .i64 0) := HKB.out.cell 5
    have d6 : w1.cell? ⟨S + 1, 6, none⟩ = some (.int .u32 0) := HKB.out.cell 6
    have d7 : w1.cell? ⟨S + 1, 7, none⟩ = some (.slice none 0 0) := HKB.out.cell 7
    have d8 : w1.cell? ⟨S + 1, 8, none⟩ = some (.slice none 0 0) := HKB.out.cell 8
    have d9 : w1.cell? ⟨S + 1, 9, none⟩ = some (.slice none 0 0) := HKB.out.cell 9
    have d10 : w1.cell? ⟨S + 1, 10, none⟩ = some (.int .i64 0) := HKB.out.cell 10
    have d11 : w1.cell? ⟨S + 1, 11, none⟩ = some (.int .i64 0) := HKB.out.cell 11
    have fzd : ∀ o, w1.frozen? ⟨S + 1, o, none⟩ = false := fun o => HKB.out.frozen o
    go_wp2_with fail
    have HAG : Hid (∀ wx, AgrG (fun g => G g ∨ w.heap.size ≤ g) ((((((((((((w1.setCell ⟨S + 1, 0, none⟩ (.slice ad nd cd)).setCell ⟨S + 1, 1, none⟩ (.slice ai ni ci)).setCell ⟨S + 1, 2, none⟩ (.slice an nn cn)).setCell ⟨S + 1, 3, none⟩ (.slice av nv cv)).setCell ⟨S + 1, 4, none⟩ (.slice ta L.length tc)).setCell ⟨S + 1, 5, none⟩ (.int .i64 (p2.at' : Int))).setCell ⟨S + 1, 6, none⟩ (.int .u32 p2.q.group)).setCell ⟨S + 1, 7, none⟩ (.slice m2.af m2.nf m2.cf)).setCell ⟨S + 1, 8, none⟩ (.slice m2.ac m2.nc m2.cc)).setCell ⟨S + 1, 9, none⟩ (.slice m2.ao m2.no m2.co)).setCell ⟨S + 1, 10, none⟩ (.int .i64 p2.q.limit)).setCell ⟨S + 1, 11, none⟩ (.int .i64 (p2.err : Int))) wx → AgrG (fun g => G g ∨ W0.heap.size ≤ g) w1 wx) := Lib.hid (fun wx hag => hag.st12 (b := S + 1) (fun g hg => by have := HGW.out; have := HSW.out; have := HZ0.out; rcases hg with h | h; have := HGW.out g h; omega; omega) (fun g hg => by have := HSW.out; have := HZ0.out; rcases hg with h | h; exact .inl h; exact .inr (by omega)) )
    have HKF := Lib.hid (blk_st12 (HKB.out) (.slice ad nd cd) (.slice ai ni ci) (.slice an nn cn) (.slice av nv cv) (.slice ta L.length tc) (.int .i64 (p2.at' : Int)) (.int .u32 p2.q.group) (.slice m2.af m2.nf m2.cf) (.slice m2.ac m2.nc m2.cc) (.slice m2.ao m2.no m2.co) (.int .i64 p2.q.limit) (.int .i64 (p2.err : Int)))
    have HBF := Lib.hid (below_st12 (HB1.out) (b := S + 1) (by have := HSW.out; omega) (.slice ad nd cd) (.slice ai ni ci) (.slice an nn cn) (.slice av nv cv) (.slice ta L.length tc) (.int .i64 (p2.at' : Int)) (.int .u32 p2.q.group) (.slice m2.af m2.nf m2.cf) (.slice m2.ac m2.nc m2.cc) (.slice m2.ao m2.no m2.co) (.int .i64 p2.q.limit) (.int .i64 (p2.err : Int)))
    generalize ((((((((((((w1.setCell ⟨S + 1, 0, none⟩ (.slice ad nd cd)).setCell ⟨S + 1, 1, none⟩ (.slice ai ni ci)).setCell ⟨S + 1, 2, none⟩ (.slice an nn cn)).setCell ⟨S + 1, 3, none⟩ (.slice av nv cv)).setCell ⟨S + 1, 4, none⟩ (.slice ta L.length tc)).setCell ⟨S + 1, 5, none⟩ (.int .i64 (p2.at' : Int))).setCell ⟨S + 1, 6, none⟩ (.int .u32 p2.q.group)).setCell ⟨S + 1, 7, none⟩ (.slice m2.af m2.nf m2.cf)).setCell ⟨S + 1, 8, none⟩ (.slice m2.ac m2.nc m2.cc)).setCell ⟨S + 1, 9, none⟩ (.slice m2.ao m2.no m2.co)).setCell ⟨S + 1, 10, none⟩ (.int .i64 p2.q.limit)).setCell ⟨S + 1, 11, none⟩ (.int .i64 (p2.err : Int))) = Wf at *
    have z0 : Wf.cell? ⟨S + 1, 0, none⟩ = some (.slice ad nd cd) := HKF.out.cell 0
    have z1 : Wf.cell? ⟨S + 1, 1, none⟩ = some (.slice ai ni ci) := HKF.out.cell 1
    have z2 : Wf.cell? ⟨S + 1, 2, none⟩ = some (.slice an nn cn) := HKF.out.cell 2
    have z3 : Wf.cell? ⟨S + 1, 3, none⟩ = some (.slice av nv cv) := HKF.out.cell 3
    have z4 : Wf.cell? ⟨S + 1, 4, none⟩ = some (.slice ta L.length tc) := HKF.out.cell 4
    have z5 : Wf.cell? ⟨S + 1, 5, none⟩ = some (.int .i64 (p2.at' : Int)) := HKF.out.cell 5
    have z6 : Wf.cell? ⟨S + 1, 6, none⟩ = some (.int .u32 p2.q.group) := HKF.out.cell 6
    have z7 : Wf.cell? ⟨S + 1, 7, none⟩ = some (.slice m2.af m2.nf m2.cf) := HKF.out.cell 7
    have z8 : Wf.cell? ⟨S + 1, 8, none⟩ = some (.slice m2.ac m2.nc m2.cc) := HKF.out.cell 8
    have z9 : Wf.cell? ⟨S + 1, 9, none⟩ = some (.slice m2.ao m2.no m2.co) := HKF.out.cell 9
    have z10 : Wf.cell? ⟨S + 1, 10, none⟩ = some (.int .i64 p2.q.limit) := HKF.out.cell 10
    have z11 : Wf.cell? ⟨S + 1, 11, none⟩ = some (.int .i64 (p2.err : Int)) := HKF.out.cell 11
    refine bodyPost_ret (v := .agg #[.slice ad nd cd, .slice ai ni ci, .slice an nn cn, .slice av nv cv, .slice ta L.length tc, .int .i64 (p2.at' : Int), .int .u32 p2.q.group, .slice m2.af m2.nf m2.cf, .slice m2.ac m2.nc m2.cc, .slice m2.ao m2.no m2.co, .int .i64 p2.q.limit, .int .i64 (p2.err : Int)]) (by simp [results, Try.results67, go_sem, z0, z1, z2, z3, z4, z5, z6, z7, z8, z9, z10, z11]) rfl ?_
    refine ⟨m2, fl2, rfl, fun wx hag => ?_, by rw [HSW.out]; exact HBF.out⟩
    exact HST.out wx (HAG.out wx hag)
  · have HONE := Lib.hid (HO.out rfl)
    clear HC HG HD HO hk
    (try unfold StV)
    (try dsimp only)
    go_enter Try.func67, Try.ntmps67
    go_upto_region 1 with fail
    clear hW0
    generalize hS : w.heap.size = S at *
    have HSW := Lib.hid hS
    clear hS
    have c0 : W0.cell? ⟨S, 0, none⟩ = some (.slice ad nd cd) := HK0.out.cell 0
    have c1 : W0.cell? ⟨S, 1, none⟩ = some (.slice ai ni ci) := HK0.out.cell 1
    have c2 : W0.cell? ⟨S, 2, none⟩ = some (.slice an nn cn) := HK0.out.cell 2
    have c3 : W0.cell? ⟨S, 3, none⟩ = some (.slice av nv cv) := HK0.out.cell 3
    have c4 : W0.cell? ⟨S, 4, none⟩ = some (.slice ta L.length tc) := HK0.out.cell 4
    have c5 : W0.cell? ⟨S, 5, none⟩ = some (.int .i64 (i : Int)) := HK0.out.cell 5
    have c6 : W0.cell? ⟨S, 6, none⟩ = some (.int .u32 g) := HK0.out.cell 6
    have c7 : W0.cell? ⟨S, 7, none⟩ = some (.slice af nf cf) := HK0.out.cell 7
    have c8 : W0.cell? ⟨S, 8, none⟩ = some (.slice ac nc cc) := HK0.out.cell 8
    have c9 : W0.cell? ⟨S, 9, none⟩ = some (.slice ao no co) := HK0.out.cell 9
    have c10 : W0.cell? ⟨S, 10, none⟩ = some (.int .i64 lm) := HK0.out.cell 10
    have c11 : W0.cell? ⟨S, 11, none⟩ = some (.int .i64 (er : Int)) := HK0.out.cell 11
    go_wp2_with fail
    refine (HONE.out _ HB0.out).mono ?_; rintro e w1 ⟨m2, fl2, rfl, hst, hb1⟩
    have HB1 := Lib.hid (HB0.out.trans (hb1.mono (by have := HZ0.out; omega)))
    have HKB := Lib.hid (HK1.out.below hb1 HK1.out.lt)
    have HST := Lib.hid hst
    clear hb1 hst HONE
    clear c0 c1 c2 c3 c4 c5 c6 c7 c8 c9 c10 c11
    (try unfold StV)
    (try dsimp only)
    have d0 : w1.cell? ⟨S + 1, 0, none⟩ = some (.slice none 0 0) := HKB.out.cell 0
    have d1 : w1.cell? ⟨S + 1, 1, none⟩ = some (.slice none 0 0) := HKB.out.cell 1
    have d2 : w1.cell? ⟨S + 1, 2, none⟩ = some (.slice none 0 0) := HKB.out.cell 2
    have d3 : w1.cell? ⟨S + 1, 3, none⟩ = some (.slice none 0 0) := HKB.out.cell 3
    have d4 : w1.cell? ⟨S + 1, 4, none⟩ = some (.slice none 0 0) := HKB.out.cell 4
    have d5 : w1.cell? ⟨S + 1, 5, none⟩ = some (.int .i64 0) := HKB.out.cell 5
    have d6 : w1.cell? ⟨S + 1, 6, none⟩ = some (.int .u32 0) := HKB.out.cell 6
    have d7 : w1.cell? ⟨S + 1, 7, none⟩ = some (.slice none 0 0) := HKB.out.cell 7
    have d8 : w1.cell? ⟨S + 1, 8, none⟩ = some (.slice none 0 0) := HKB.out.cell 8
    have d9 : w1.cell? ⟨S + 1, 9, none⟩ = some (.slice none 0 0) := HKB.out.cell 9
    have d10 : w1.cell? ⟨S + 1, 10, none⟩ = some (.int .i64 0) := HKB.out.cell 10
    have d11 : w1.cell? ⟨S + 1, 11, none⟩ = some (.int .i64 0) := HKB.out.cell 11
    have fzd : ∀ o, w1.frozen? ⟨S + 1, o, none⟩ = false := fun o => HKB.out.frozen o
    go_wp2_with fail
    have HAG : Hid (∀ wx, AgrG (fun g => G g ∨ w.heap.size ≤ g) ((((((((((((w1.setCell ⟨S + 1, 0, none⟩ (.slice ad nd cd)).setCell ⟨S + 1, 1, none⟩ (.slice ai ni ci)).setCell ⟨S + 1, 2, none⟩ (.slice an nn cn)).setCell ⟨S + 1, 3, none⟩ (.slice av nv cv)).setCell ⟨S + 1, 4, none⟩ (.slice ta L.length tc)).setCell ⟨S + 1, 5, none⟩ (.int .i64 (p2.at' : Int))).setCell ⟨S + 1, 6, none⟩ (.int .u32 p2.q.group)).setCell ⟨S + 1, 7, none⟩ (.slice m2.af m2.nf m2.cf)).setCell ⟨S + 1, 8, none⟩ (.slice m2.ac m2.nc m2.cc)).setCell ⟨S + 1, 9, none⟩ (.slice m2.ao m2.no m2.co)).setCell ⟨S + 1, 10, none⟩ (.int .i64 p2.q.limit)).setCell ⟨S + 1, 11, none⟩ (.int .i64 (p2.err : Int))) wx → AgrG (fun g => G g ∨ W0.heap.size ≤ g) w1 wx) := Lib.hid (fun wx hag => hag.st12 (b := S + 1) (fun g hg => by have := HGW.out; have := HSW.out; have := HZ0.out; rcases hg with h | h; have := HGW.out g h; omega; omega) (fun g hg => by have := HSW.out; have := HZ0.out; rcases hg with h | h; exact .inl h; exact .inr (by omega)) )
    have HKF := Lib.hid (blk_st12 (HKB.out) (.slice ad nd cd) (.slice ai ni ci) (.slice an nn cn) (.slice av nv cv) (.slice ta L.length tc) (.int .i64 (p2.at' : Int)) (.int .u32 p2.q.group) (.slice m2.af m2.nf m2.cf) (.slice m2.ac m2.nc m2.cc) (.slice m2.ao m2.no m2.co) (.int .i64 p2.q.limit) (.int .i64 (p2.err : Int)))
    have HBF := Lib.hid (below_st12 (HB1.out) (b := S + 1) (by have := HSW.out; omega) (.slice ad nd cd) (.slice ai ni ci) (.slice an nn cn) (.slice av nv cv) (.slice ta L.length tc) (.int .i64 (p2.at' : Int)) (.int .u32 p2.q.group) (.slice m2.af m2.nf m2.cf) (.slice m2.ac m2.nc m2.cc) (.slice m2.ao m2.no m2.co) (.int .i64 p2.q.limit) (.int .i64 (p2.err : Int)))
    generalize ((((((((((((w1.setCell ⟨S + 1, 0, none⟩ (.slice ad nd cd)).setCell ⟨S + 1, 1, none⟩ (.slice ai ni ci)).setCell ⟨S + 1, 2, none⟩ (.slice an nn cn)).setCell ⟨S + 1, 3, none⟩ (.slice av nv cv)).setCell ⟨S + 1, 4, none⟩ (.slice ta L.length tc)).setCell ⟨S + 1, 5, none⟩ (.int .i64 (p2.at' : Int))).setCell ⟨S + 1, 6, none⟩ (.int .u32 p2.q.group)).setCell ⟨S + 1, 7, none⟩ (.slice m2.af m2.nf m2.cf)).setCell ⟨S + 1, 8, none⟩ (.slice m2.ac m2.nc m2.cc)).setCell ⟨S + 1, 9, none⟩ (.slice m2.ao m2.no m2.co)).setCell ⟨S + 1, 10, none⟩ (.int .i64 p2.q.limit)).setCell ⟨S + 1, 11, none⟩ (.int .i64 (p2.err : Int))) = Wf at *
    have z0 : Wf.cell? ⟨S + 1, 0, none⟩ = some (.slice ad nd cd) := HKF.out.cell 0
    have z1 : Wf.cell? ⟨S + 1, 1, none⟩ = some (.slice ai ni ci) := HKF.out.cell 1
    have z2 : Wf.cell? ⟨S + 1, 2, none⟩ = some (.slice an nn cn) := HKF.out.cell 2
    have z3 : Wf.cell? ⟨S + 1, 3, none⟩ = some (.slice av nv cv) := HKF.out.cell 3
    have z4 : Wf.cell? ⟨S + 1, 4, none⟩ = some (.slice ta L.length tc) := HKF.out.cell 4
    have z5 : Wf.cell? ⟨S + 1, 5, none⟩ = some (.int .i64 (p2.at' : Int)) := HKF.out.cell 5
    have z6 : Wf.cell? ⟨S + 1, 6, none⟩ = some (.int .u32 p2.q.group) := HKF.out.cell 6
    have z7 : Wf.cell? ⟨S + 1, 7, none⟩ = some (.slice m2.af m2.nf m2.cf) := HKF.out.cell 7
    have z8 : Wf.cell? ⟨S + 1, 8, none⟩ = some (.slice m2.ac m2.nc m2.cc) := HKF.out.cell 8
    have z9 : Wf.cell? ⟨S + 1, 9, none⟩ = some (.slice m2.ao m2.no m2.co) := HKF.out.cell 9
    have z10 : Wf.cell? ⟨S + 1, 10, none⟩ = some (.int .i64 p2.q.limit) := HKF.out.cell 10
    have z11 : Wf.cell? ⟨S + 1, 11, none⟩ = some (.int .i64 (p2.err : Int)) := HKF.out.cell 11
    refine bodyPost_ret (v := .agg #[.slice ad nd cd, .slice ai ni ci, .slice an nn cn, .slice av nv cv, .slice ta L.length tc, .int .i64 (p2.at' : Int), .int .u32 p2.q.group, .slice m2.af m2.nf m2.cf, .slice m2.ac m2.nc m2.cc, .slice m2.ao m2.no m2.co, .int .i64 p2.q.limit, .int .i64 (p2.err : Int)]) (by simp [results, Try.results67, go_sem, z0, z1, z2, z3, z4, z5, z6, z7, z8, z9, z10, z11]) rfl ?_
    refine ⟨m2, fl2, rfl, fun wx hag => ?_, by rw [HSW.out]; exact HBF.out⟩
    exact HST.out wx (HAG.out wx hag)

theorem StG.cut {G : Nat → Prop} {X : RX} {m : QryL} {fl : List Flt} {p : PState} {w : World} (h : StG G X m fl p w) : StG (fun g => G g ∧ g < w.heap.size) X m fl p w := fun wx ha => h wx ⟨ha.os, ha.tape, ha.output, ha.size, fun g hg hG => ha.block g hg ⟨hG, hg⟩⟩
theorem StG.same {G : Nat → Prop} {X : RX} {m : QryL} {fl : List Flt} {p p' : PState} {w : World} (h : StG G X m fl p w) (hq : p'.q = p.q) (ha : p'.at' < X.L.length) (he : p'.err = 0 → p.err = 0 ∧ p.at' ≤ p'.at') : StG G X m fl p' w := fun wx hg => (h wx hg).same hq ha he
theorem part_succ (one : PState → PState) (L : List Tok) (b : List UInt8) (f : Nat) (p : PState) : partR one L b (f + 1) p = if isR L (one p) b then partR one L b f (onR (one p)) else one p := rfl

set_option maxRecDepth 100000 in
set_option maxHeartbeats 2000000 in
theorem vpart_any (X : RX) (m : QryL) (fl : List Flt) (p : PState) (G : Nat → Prop) (w : World) (hX : X.At w) (hp : StG G X m fl p w) (hG : ∀ g, G g → g < w.heap.size) (k : Nat) (hk : k ≤ 3) (he : k = 0 ∨ p.err = 0) (u : ByteArray) (b : List UInt8) (hu : u.data.toList = b) :
    Calls Try.prog 29 #[StV X m p, .int .i64 (k : Int), .string u] w (RStO X (partR (oneR X k) X.L b X.L.length p) G w) := by
  have HGW := Lib.hid hG
  have HXX := Lib.hid (fun (w' : World) (hb : Below w.heap.size w w') => hX.below hb (Nat.le_refl _))
  have HGD := Lib.hid hX.good
  have HON := Lib.hid (fun (m1 : QryL) (fl1 : List Flt) (p1 : PState) (G1 : Nat → Prop) (w' : World) (hb : Below w.heap.size w w') (h1 : StG G1 X m1 fl1 p1 w') (h2 : ∀ g, G1 g → g < w'.heap.size) (h3 : k = 0 ∨ p1.err = 0) => vone_any X m1 fl1 p1 G1 w' (hX.below hb (Nat.le_refl _)) h1 h2 k hk h3)
  have HO1 := Lib.hid (fun (w' : World) (hb : Below w.heap.size w w') => vone_any X m fl p G w' (hX.below hb (Nat.le_refl _)) (hp.below hb) (fun g hg => Nat.lt_of_lt_of_le (hG g hg) hb.size) k hk he)
  have HIS := Lib.hid (fun (m1 : QryL) (p1 : PState) (w' : World) (hb : Below w.heap.size w w') (hn : p1.at' < X.L.length) (v : Bool) (hv : isR X.L p1 b = v) => vis_any X m1 p1 w' (hX.below hb (Nat.le_refl _)) hn u v (by rw [hu]; exact hv))
  have HOO := Lib.hid (fun (m1 : QryL) (p1 : PState) (w' : World) (hn : p1.at' < X.L.length) => von_any X m1 p1 w' (by have := hX.good.many; omega))
  have hpos := hX.good.pos
  obtain ⟨r, hr⟩ : ∃ x, partR (oneR X k) X.L b X.L.length p = x := ⟨_, rfl⟩
  rw [hr]
  have HR0 : Hid (r = if isR X.L (oneR X k p) b then partR (oneR X k) X.L b (X.L.length - 1) (onR (oneR X k p)) else oneR X k p) := Lib.hid (by
    rw [← hr, ← part_succ, show X.L.length - 1 + 1 = X.L.length by omega])
  have HPO := Lib.hid (fun (p1 : PState) => one_on X k (p := p1))
  have HE := Lib.hid he
  clear hr hX hp he hG hu hk
  unfold RSt at HOO
  obtain ⟨XL, hXL⟩ : ∃ x, X.L = x := ⟨_, rfl⟩
  have HXL := Lib.hid hXL
  rw [hXL] at HIS HOO HR0 hpos HGD
  obtain ⟨ON, hON⟩ : ∃ x, oneR X k = x := ⟨_, rfl⟩
  rw [hON] at HON HO1 HR0 HPO
  clear hXL hON
  unfold StV at HO1 ⊢
  obtain ⟨⟨ad, nd, cd, ai, ni, ci, an, nn, cn, av, nv, cv⟩, s, ta, tc, L⟩ := X
  obtain ⟨af, nf, cf, ac, nc, cc, ao, no, co⟩ := m
  obtain ⟨i, ⟨g, fq, cq, oq, lm⟩, er⟩ := p
  (try dsimp only at *)
  (try dsimp only at HXL)
  have hLL := HXL.out
  subst hLL
  obtain ⟨W0, hW0⟩ : ∃ W0, ((w.alloc (.cells #[.slice ad nd cd, .slice ai ni ci, .slice an nn cn, .slice av nv cv, .slice ta L.length tc, .int .i64 (i : Int), .int .u32 g, .slice af nf cf, .slice ac nc cc, .slice ao no co, .int .i64 lm, .int .i64 (er : Int)] 82)).alloc (.cells #[.slice none 0 0, .slice none 0 0, .slice none 0 0, .slice none 0 0, .slice none 0 0, .int .i64 0, .int .u32 0, .slice none 0 0, .slice none 0 0, .slice none 0 0, .int .i64 0, .int .i64 0] 82)) = W0 := ⟨_, rfl⟩
  have HB0 : Hid (Below w.heap.size w W0) := Lib.hid (by
    rw [← hW0]
    exact (((Below.refl _ _).alloc (Nat.le_refl _) _).alloc (by simp) _))
  have HZ0 : Hid (W0.heap.size = w.heap.size + 2) := Lib.hid (by rw [← hW0]; simp)
  have HK0 : Hid (Blk W0 (w.heap.size) 82 #[.slice ad nd cd, .slice ai ni ci, .slice an nn cn, .slice av nv cv, .slice ta L.length tc, .int .i64 (i : Int), .int .u32 g, .slice af nf cf, .slice ac nc cc, .slice ao no co, .int .i64 lm, .int .i64 (er : Int)]) := Lib.hid (by
    rw [← hW0]
    have h := Blk.new w 82 #[.slice ad nd cd, .slice ai ni ci, .slice an nn cn, .slice av nv cv, .slice ta L.length tc, .int .i64 (i : Int), .int .u32 g, .slice af nf cf, .slice ac nc cc, .slice ao no co, .int .i64 lm, .int .i64 (er : Int)]
    exact h.alloc _)
  have HK1 : Hid (Blk W0 (w.heap.size + 1) 82 #[.slice none 0 0, .slice none 0 0, .slice none 0 0, .slice none 0 0, .slice none 0 0, .int .i64 0, .int .u32 0, .slice none 0 0, .slice none 0 0, .slice none 0 0, .int .i64 0, .int .i64 0]) := Lib.hid (by
    rw [← hW0]
    have h := Blk.new (w.alloc (.cells #[.slice ad nd cd, .slice ai ni ci, .slice an nn cn, .slice av nv cv, .slice ta L.length tc, .int .i64 (i : Int), .int .u32 g, .slice af nf cf, .slice ac nc cc, .slice ao no co, .int .i64 lm, .int .i64 (er : Int)] 82)) 82 #[.slice none 0 0, .slice none 0 0, .slice none 0 0, .slice none 0 0, .slice none 0 0, .int .i64 0, .int .u32 0, .slice none 0 0, .slice none 0 0, .slice none 0 0, .int .i64 0, .int .i64 0]
    rw [World.size_alloc] at h
    exact h)
  (try unfold StV)
  (try dsimp only)
  go_enter Try.func29, Try.ntmps29
  go_upto_region 1 with fail
  clear hW0
  generalize hS : w.heap.size = S at *
  have HSW := Lib.hid hS
  clear hS
  have c0 : W0.cell? ⟨S, 0, none⟩ = some (.slice ad nd cd) := HK0.out.cell 0
  have c1 : W0.cell? ⟨S, 1, none⟩ = some (.slice ai ni ci) := HK0.out.cell 1
  have c2 : W0.cell? ⟨S, 2, none⟩ = some (.slice an nn cn) := HK0.out.cell 2
  have c3 : W0.cell? ⟨S, 3, none⟩ = some (.slice av nv cv) := HK0.out.cell 3
  have c4 : W0.cell? ⟨S, 4, none⟩ = some (.slice ta L.length tc) := HK0.out.cell 4
  have c5 : W0.cell? ⟨S, 5, none⟩ = some (.int .i64 (i : Int)) := HK0.out.cell 5
  have c6 : W0.cell? ⟨S, 6, none⟩ = some (.int .u32 g) := HK0.out.cell 6
  have c7 : W0.cell? ⟨S, 7, none⟩ = some (.slice af nf cf) := HK0.out.cell 7
  have c8 : W0.cell? ⟨S, 8, none⟩ = some (.slice ac nc cc) := HK0.out.cell 8
  have c9 : W0.cell? ⟨S, 9, none⟩ = some (.slice ao no co) := HK0.out.cell 9
  have c10 : W0.cell? ⟨S, 10, none⟩ = some (.int .i64 lm) := HK0.out.cell 10
  have c11 : W0.cell? ⟨S, 11, none⟩ = some (.int .i64 (er : Int)) := HK0.out.cell 11
  have fzc : ∀ o, W0.frozen? ⟨S, o, none⟩ = false := fun o => HK0.out.frozen o
  go_wp2_with fail
  refine (HO1.out _ HB0.out).mono ?_; rintro e w1 ⟨m2, fl2, rfl, hst, hb1⟩
  have HB1 := Lib.hid (HB0.out.trans (hb1.mono (by have := HZ0.out; omega)))
  have HKA := Lib.hid (HK0.out.below hb1 HK0.out.lt)
  have HKB := Lib.hid (HK1.out.below hb1 HK1.out.lt)
  have HST := Lib.hid hst
  clear hb1 hst HO1
  clear c0 c1 c2 c3 c4 c5 c6 c7 c8 c9 c10 c11 fzc
  (try unfold StV)
  (try dsimp only)
  obtain ⟨p2, hp2⟩ : ∃ x, ON ⟨i, ⟨g, fq, cq, oq, lm⟩, er⟩ = x := ⟨_, rfl⟩
  rw [hp2] at HST HR0 ⊢
  have HP2 := Lib.hid hp2
  clear hp2
  have c0 : w1.cell? ⟨S, 0, none⟩ = some (.slice ad nd cd) := HKA.out.cell 0
  have c1 : w1.cell? ⟨S, 1, none⟩ = some (.slice ai ni ci) := HKA.out.cell 1
  have c2 : w1.cell? ⟨S, 2, none⟩ = some (.slice an nn cn) := HKA.out.cell 2
  have c3 : w1.cell? ⟨S, 3, none⟩ = some (.slice av nv cv) := HKA.out.cell 3
  have c4 : w1.cell? ⟨S, 4, none⟩ = some (.slice ta L.length tc) := HKA.out.cell 4
  have c5 : w1.cell? ⟨S, 5, none⟩ = some (.int .i64 (i : Int)) := HKA.out.cell 5
  have c6 : w1.cell? ⟨S, 6, none⟩ = some (.int .u32 g) := HKA.out.cell 6
  have c7 : w1.cell? ⟨S, 7, none⟩ = some (.slice af nf cf) := HKA.out.cell 7
  have c8 : w1.cell? ⟨S, 8, none⟩ = some (.slice ac nc cc) := HKA.out.cell 8
  have c9 : w1.cell? ⟨S, 9, none⟩ = some (.slice ao no co) := HKA.out.cell 9
  have c10 : w1.cell? ⟨S, 10, none⟩ = some (.int .i64 lm) := HKA.out.cell 10
  have c11 : w1.cell? ⟨S, 11, none⟩ = some (.int .i64 (er : Int)) := HKA.out.cell 11
  have fzc : ∀ o, w1.frozen? ⟨S, o, none⟩ = false := fun o => HKA.out.frozen o
  go_wp2_with fail
  have HSG2 : Hid (StG (fun g => G g ∨ S + 2 ≤ g) ⟨⟨ad, nd, cd, ai, ni, ci, an, nn, cn, av, nv, cv⟩, s, ta, tc, L⟩ m2 fl2 p2 ((((((((((((w1.setCell ⟨S, 0, none⟩ (.slice ad nd cd)).setCell ⟨S, 1, none⟩ (.slice ai ni ci)).setCell ⟨S, 2, none⟩ (.slice an nn cn)).setCell ⟨S, 3, none⟩ (.slice av nv cv)).setCell ⟨S, 4, none⟩ (.slice ta L.length tc)).setCell ⟨S, 5, none⟩ (.int .i64 (p2.at' : Int))).setCell ⟨S, 6, none⟩ (.int .u32 p2.q.group)).setCell ⟨S, 7, none⟩ (.slice m2.af m2.nf m2.cf)).setCell ⟨S, 8, none⟩ (.slice m2.ac m2.nc m2.cc)).setCell ⟨S, 9, none⟩ (.slice m2.ao m2.no m2.co)).setCell ⟨S, 10, none⟩ (.int .i64 p2.q.limit)).setCell ⟨S, 11, none⟩ (.int .i64 (p2.err : Int)))) := Lib.hid (fun wx hag => HST.out wx (hag.st12 (b := S) (fun g hg => by have := HSW.out; have := HZ0.out; rcases hg with h | h; have := HGW.out g h; omega; omega) (fun g hg => by have := HSW.out; have := HZ0.out; rcases hg with h | h; exact .inl h; exact .inr (by omega))))
  clear c0 c1 c2 c3 c4 c5 c6 c7 c8 c9 c10 c11 fzc
  have HKA2 := Lib.hid (blk_st12 HKA.out (.slice ad nd cd) (.slice ai ni ci) (.slice an nn cn) (.slice av nv cv) (.slice ta L.length tc) (.int .i64 (p2.at' : Int)) (.int .u32 p2.q.group) (.slice m2.af m2.nf m2.cf) (.slice m2.ac m2.nc m2.cc) (.slice m2.ao m2.no m2.co) (.int .i64 p2.q.limit) (.int .i64 (p2.err : Int)))
  have HKB2 := Lib.hid (blk_far12 HKB.out (b := S) (by omega) (.slice ad nd cd) (.slice ai ni ci) (.slice an nn cn) (.slice av nv cv) (.slice ta L.length tc) (.int .i64 (p2.at' : Int)) (.int .u32 p2.q.group) (.slice m2.af m2.nf m2.cf) (.slice m2.ac m2.nc m2.cc) (.slice m2.ao m2.no m2.co) (.int .i64 p2.q.limit) (.int .i64 (p2.err : Int)))
  have HB2 := Lib.hid (below_st12 HB1.out (b := S) (by have := HSW.out; omega) (.slice ad nd cd) (.slice ai ni ci) (.slice an nn cn) (.slice av nv cv) (.slice ta L.length tc) (.int .i64 (p2.at' : Int)) (.int .u32 p2.q.group) (.slice m2.af m2.nf m2.cf) (.slice m2.ac m2.nc m2.cc) (.slice m2.ao m2.no m2.co) (.int .i64 p2.q.limit) (.int .i64 (p2.err : Int)))
  generalize ((((((((((((w1.setCell ⟨S, 0, none⟩ (.slice ad nd cd)).setCell ⟨S, 1, none⟩ (.slice ai ni ci)).setCell ⟨S, 2, none⟩ (.slice an nn cn)).setCell ⟨S, 3, none⟩ (.slice av nv cv)).setCell ⟨S, 4, none⟩ (.slice ta L.length tc)).setCell ⟨S, 5, none⟩ (.int .i64 (p2.at' : Int))).setCell ⟨S, 6, none⟩ (.int .u32 p2.q.group)).setCell ⟨S, 7, none⟩ (.slice m2.af m2.nf m2.cf)).setCell ⟨S, 8, none⟩ (.slice m2.ac m2.nc m2.cc)).setCell ⟨S, 9, none⟩ (.slice m2.ao m2.no m2.co)).setCell ⟨S, 10, none⟩ (.int .i64 p2.q.limit)).setCell ⟨S, 11, none⟩ (.int .i64 (p2.err : Int))) = w2 at *
  obtain ⟨Z, hZ⟩ : ∃ x, (if isR L p2 b then partR ON L b (L.length - 1) (onR p2) else p2) = x := ⟨_, rfl⟩
  have HRZ : Hid (r = Z) := Lib.hid (by rw [HR0.out, hZ])
  have HZ := Lib.hid hZ
  clear hZ
  go_loopg [] (L.length - 1) (fun q wr => ∃ (mj : QryL) (flj : List Flt) (pj : PState), Blk wr S 82 #[.slice ad nd cd, .slice ai ni ci, .slice an nn cn, .slice av nv cv, .slice ta L.length tc, .int .i64 (pj.at' : Int), .int .u32 pj.q.group, .slice mj.af mj.nf mj.cf, .slice mj.ac mj.nc mj.cc, .slice mj.ao mj.no mj.co, .int .i64 pj.q.limit, .int .i64 (pj.err : Int)] ∧ Blk wr (S + 1) 82 #[.slice none 0 0, .slice none 0 0, .slice none 0 0, .slice none 0 0, .slice none 0 0, .int .i64 0, .int .u32 0, .slice none 0 0, .slice none 0 0, .slice none 0 0, .int .i64 0, .int .i64 0] ∧ StG (fun g => G g ∨ S + 2 ≤ g) ⟨⟨ad, nd, cd, ai, ni, ci, an, nn, cn, av, nv, cv⟩, s, ta, tc, L⟩ mj flj pj wr ∧ Below S w wr ∧ (if isR L pj b then partR ON L b q (onR pj) else pj) = Z ∧ (isR L pj b = true → L.length ≤ q + pj.at' + 1))
  case atStart => exact ⟨m2, fl2, p2, HKA2.out, HKB2.out, HSG2.out, HB2.out, HZ.out, fun _ => by omega⟩
  case round =>
    obtain ⟨mj, flj, pj, hka, hkb, hsg, hb, hz, hq⟩ := hrel
    have HKA3 := Lib.hid hka
    have HKB3 := Lib.hid hkb
    have HSG3 := Lib.hid hsg
    have HB3 := Lib.hid hb
    have HZ3 := Lib.hid hz
    have HQ3 := Lib.hid hq
    clear hka hkb hsg hb hz hq
    obtain ⟨v, hv⟩ : ∃ x, isR L pj b = x := ⟨_, rfl⟩
    have HI3 := Lib.hid (HIS.out mj pj wr HB3.out HSG3.out.here.at' v hv)
    rw [hv] at HZ3 HQ3
    have HV := Lib.hid hv
    clear hv
    unfold StV at HI3
    dsimp only at HI3
    have c0 : wr.cell? ⟨S, 0, none⟩ = some (.slice ad nd cd) := HKA3.out.cell 0
    have c1 : wr.cell? ⟨S, 1, none⟩ = some (.slice ai ni ci) := HKA3.out.cell 1
    have c2 : wr.cell? ⟨S, 2, none⟩ = some (.slice an nn cn) := HKA3.out.cell 2
    have c3 : wr.cell? ⟨S, 3, none⟩ = some (.slice av nv cv) := HKA3.out.cell 3
    have c4 : wr.cell? ⟨S, 4, none⟩ = some (.slice ta L.length tc) := HKA3.out.cell 4
    have c5 : wr.cell? ⟨S, 5, none⟩ = some (.int .i64 (pj.at' : Int)) := HKA3.out.cell 5
    have c6 : wr.cell? ⟨S, 6, none⟩ = some (.int .u32 pj.q.group) := HKA3.out.cell 6
    have c7 : wr.cell? ⟨S, 7, none⟩ = some (.slice mj.af mj.nf mj.cf) := HKA3.out.cell 7
    have c8 : wr.cell? ⟨S, 8, none⟩ = some (.slice mj.ac mj.nc mj.cc) := HKA3.out.cell 8
    have c9 : wr.cell? ⟨S, 9, none⟩ = some (.slice mj.ao mj.no mj.co) := HKA3.out.cell 9
    have c10 : wr.cell? ⟨S, 10, none⟩ = some (.int .i64 pj.q.limit) := HKA3.out.cell 10
    have c11 : wr.cell? ⟨S, 11, none⟩ = some (.int .i64 (pj.err : Int)) := HKA3.out.cell 11
    have fzc : ∀ o, wr.frozen? ⟨S, o, none⟩ = false := fun o => HKA3.out.frozen o
    go_wp2_with fail
    refine HI3.out.mono ?_; rintro e w3 ⟨rfl, hb3⟩
    have HB4 := Lib.hid (HB3.out.trans (hb3.mono (by have := HKA3.out.lt; omega)))
    have HKA4 := Lib.hid (HKA3.out.below hb3 HKA3.out.lt)
    have HKB4 := Lib.hid (HKB3.out.below hb3 HKB3.out.lt)
    have HSG4 := Lib.hid (HSG3.out.below hb3)
    clear hb3 HI3
    clear c0 c1 c2 c3 c4 c5 c6 c7 c8 c9 c10 c11 fzc
    rcases v with _ | _
    · have HPZ : Hid (pj = Z) := Lib.hid HZ3.out
      have c0 : w3.cell? ⟨S, 0, none⟩ = some (.slice ad nd cd) := HKA4.out.cell 0
      have c1 : w3.cell? ⟨S, 1, none⟩ = some (.slice ai ni ci) := HKA4.out.cell 1
      have c2 : w3.cell? ⟨S, 2, none⟩ = some (.slice an nn cn) := HKA4.out.cell 2
      have c3 : w3.cell? ⟨S, 3, none⟩ = some (.slice av nv cv) := HKA4.out.cell 3
      have c4 : w3.cell? ⟨S, 4, none⟩ = some (.slice ta L.length tc) := HKA4.out.cell 4
      have c5 : w3.cell? ⟨S, 5, none⟩ = some (.int .i64 (pj.at' : Int)) := HKA4.out.cell 5
      have c6 : w3.cell? ⟨S, 6, none⟩ = some (.int .u32 pj.q.group) := HKA4.out.cell 6
      have c7 : w3.cell? ⟨S, 7, none⟩ = some (.slice mj.af mj.nf mj.cf) := HKA4.out.cell 7
      have c8 : w3.cell? ⟨S, 8, none⟩ = some (.slice mj.ac mj.nc mj.cc) := HKA4.out.cell 8
      have c9 : w3.cell? ⟨S, 9, none⟩ = some (.slice mj.ao mj.no mj.co) := HKA4.out.cell 9
      have c10 : w3.cell? ⟨S, 10, none⟩ = some (.int .i64 pj.q.limit) := HKA4.out.cell 10
      have c11 : w3.cell? ⟨S, 11, none⟩ = some (.int .i64 (pj.err : Int)) := HKA4.out.cell 11
      have d0 : w3.cell? ⟨S + 1, 0, none⟩ = some (.slice none 0 0) := HKB4.out.cell 0
      have d1 : w3.cell? ⟨S + 1, 1, none⟩ = some (.slice none 0 0) := HKB4.out.cell 1
      have d2 : w3.cell? ⟨S + 1, 2, none⟩ = some (.slice none 0 0) := HKB4.out.cell 2
      have d3 : w3.cell? ⟨S + 1, 3, none⟩ = some (.slice none 0 0) := HKB4.out.cell 3
      have d4 : w3.cell? ⟨S + 1, 4, none⟩ = some (.slice none 0 0) := HKB4.out.cell 4
      have d5 : w3.cell? ⟨S + 1, 5, none⟩ = some (.int .i64 0) := HKB4.out.cell 5
      have d6 : w3.cell? ⟨S + 1, 6, none⟩ = some (.int .u32 0) := HKB4.out.cell 6
      have d7 : w3.cell? ⟨S + 1, 7, none⟩ = some (.slice none 0 0) := HKB4.out.cell 7
      have d8 : w3.cell? ⟨S + 1, 8, none⟩ = some (.slice none 0 0) := HKB4.out.cell 8
      have d9 : w3.cell? ⟨S + 1, 9, none⟩ = some (.slice none 0 0) := HKB4.out.cell 9
      have d10 : w3.cell? ⟨S + 1, 10, none⟩ = some (.int .i64 0) := HKB4.out.cell 10
      have d11 : w3.cell? ⟨S + 1, 11, none⟩ = some (.int .i64 0) := HKB4.out.cell 11
      have fzd : ∀ o, w3.frozen? ⟨S + 1, o, none⟩ = false := fun o => HKB4.out.frozen o
      go_wp2_with fail
      have HAG : Hid (∀ wx, AgrG (fun g => G g ∨ w.heap.size ≤ g) ((((((((((((w3.setCell ⟨S + 1, 0, none⟩ (.slice ad nd cd)).setCell ⟨S + 1, 1, none⟩ (.slice ai ni ci)).setCell ⟨S + 1, 2, none⟩ (.slice an nn cn)).setCell ⟨S + 1, 3, none⟩ (.slice av nv cv)).setCell ⟨S + 1, 4, none⟩ (.slice ta L.length tc)).setCell ⟨S + 1, 5, none⟩ (.int .i64 (pj.at' : Int))).setCell ⟨S + 1, 6, none⟩ (.int .u32 pj.q.group)).setCell ⟨S + 1, 7, none⟩ (.slice mj.af mj.nf mj.cf)).setCell ⟨S + 1, 8, none⟩ (.slice mj.ac mj.nc mj.cc)).setCell ⟨S + 1, 9, none⟩ (.slice mj.ao mj.no mj.co)).setCell ⟨S + 1, 10, none⟩ (.int .i64 pj.q.limit)).setCell ⟨S + 1, 11, none⟩ (.int .i64 (pj.err : Int))) wx → AgrG (fun g => (G g ∨ S + 2 ≤ g) ∧ g < w3.heap.size) w3 wx) := Lib.hid (fun wx hag => hag.st12 (b := S + 1) (fun g hg => by have := HSW.out; rcases hg.1 with h | h; have := HGW.out g h; omega; omega) (fun g hg => by have := HSW.out; rcases hg.1 with h | h; exact .inl h; exact .inr (by omega)))
      have HKF := Lib.hid (blk_st12 (HKB4.out) (.slice ad nd cd) (.slice ai ni ci) (.slice an nn cn) (.slice av nv cv) (.slice ta L.length tc) (.int .i64 (pj.at' : Int)) (.int .u32 pj.q.group) (.slice mj.af mj.nf mj.cf) (.slice mj.ac mj.nc mj.cc) (.slice mj.ao mj.no mj.co) (.int .i64 pj.q.limit) (.int .i64 (pj.err : Int)))
      have HBF := Lib.hid (below_st12 (HB4.out) (b := S + 1) (by have := HSW.out; omega) (.slice ad nd cd) (.slice ai ni ci) (.slice an nn cn) (.slice av nv cv) (.slice ta L.length tc) (.int .i64 (pj.at' : Int)) (.int .u32 pj.q.group) (.slice mj.af mj.nf mj.cf) (.slice mj.ac mj.nc mj.cc) (.slice mj.ao mj.no mj.co) (.int .i64 pj.q.limit) (.int .i64 (pj.err : Int)))
      generalize ((((((((((((w3.setCell ⟨S + 1, 0, none⟩ (.slice ad nd cd)).setCell ⟨S + 1, 1, none⟩ (.slice ai ni ci)).setCell ⟨S + 1, 2, none⟩ (.slice an nn cn)).setCell ⟨S + 1, 3, none⟩ (.slice av nv cv)).setCell ⟨S + 1, 4, none⟩ (.slice ta L.length tc)).setCell ⟨S + 1, 5, none⟩ (.int .i64 (pj.at' : Int))).setCell ⟨S + 1, 6, none⟩ (.int .u32 pj.q.group)).setCell ⟨S + 1, 7, none⟩ (.slice mj.af mj.nf mj.cf)).setCell ⟨S + 1, 8, none⟩ (.slice mj.ac mj.nc mj.cc)).setCell ⟨S + 1, 9, none⟩ (.slice mj.ao mj.no mj.co)).setCell ⟨S + 1, 10, none⟩ (.int .i64 pj.q.limit)).setCell ⟨S + 1, 11, none⟩ (.int .i64 (pj.err : Int))) = Wf at *
      have z0 : Wf.cell? ⟨S + 1, 0, none⟩ = some (.slice ad nd cd) := HKF.out.cell 0
      have z1 : Wf.cell? ⟨S + 1, 1, none⟩ = some (.slice ai ni ci) := HKF.out.cell 1
      have z2 : Wf.cell? ⟨S + 1, 2, none⟩ = some (.slice an nn cn) := HKF.out.cell 2
      have z3 : Wf.cell? ⟨S + 1, 3, none⟩ = some (.slice av nv cv) := HKF.out.cell 3
      have z4 : Wf.cell? ⟨S + 1, 4, none⟩ = some (.slice ta L.length tc) := HKF.out.cell 4
      have z5 : Wf.cell? ⟨S + 1, 5, none⟩ = some (.int .i64 (pj.at' : Int)) := HKF.out.cell 5
      have z6 : Wf.cell? ⟨S + 1, 6, none⟩ = some (.int .u32 pj.q.group) := HKF.out.cell 6
      have z7 : Wf.cell? ⟨S + 1, 7, none⟩ = some (.slice mj.af mj.nf mj.cf) := HKF.out.cell 7
      have z8 : Wf.cell? ⟨S + 1, 8, none⟩ = some (.slice mj.ac mj.nc mj.cc) := HKF.out.cell 8
      have z9 : Wf.cell? ⟨S + 1, 9, none⟩ = some (.slice mj.ao mj.no mj.co) := HKF.out.cell 9
      have z10 : Wf.cell? ⟨S + 1, 10, none⟩ = some (.int .i64 pj.q.limit) := HKF.out.cell 10
      have z11 : Wf.cell? ⟨S + 1, 11, none⟩ = some (.int .i64 (pj.err : Int)) := HKF.out.cell 11
      refine bodyPost_ret (v := .agg #[.slice ad nd cd, .slice ai ni ci, .slice an nn cn, .slice av nv cv, .slice ta L.length tc, .int .i64 (pj.at' : Int), .int .u32 pj.q.group, .slice mj.af mj.nf mj.cf, .slice mj.ac mj.nc mj.cc, .slice mj.ao mj.no mj.co, .int .i64 pj.q.limit, .int .i64 (pj.err : Int)]) (by simp [results, Try.results29, go_sem, z0, z1, z2, z3, z4, z5, z6, z7, z8, z9, z10, z11]) rfl ?_
      rw [HRZ.out, ← HPZ.out]
      refine ⟨mj, flj, rfl, fun wx hag => ?_, by rw [HSW.out]; exact HBF.out⟩
      exact HSG4.out.cut wx (HAG.out wx hag)
    · obtain ⟨he0, ha1⟩ := word_at HGD.out HV.out
      obtain ⟨g2, hg2⟩ : ∃ g2, gk = g2 + 1 := ⟨gk - 1, by have := HQ3.out rfl; omega⟩
      have HG2 := Lib.hid hg2
      have HQ4 := Lib.hid (HQ3.out rfl)
      obtain ⟨p4, hp4⟩ : ∃ x, onR pj = x := ⟨_, rfl⟩
      have HOO4 := Lib.hid (fun w' => HOO.out mj pj w' HSG3.out.here.at')
      rw [hp4] at HOO4
      have HE4 : Hid (p4.err = 0 ∧ p4.at' = pj.at' + 1 ∧ p4.q = pj.q) := Lib.hid (by rw [← hp4]; exact ⟨he0, rfl, rfl⟩)
      have HSP := Lib.hid (HSG4.out.cut.same (p' := p4) HE4.out.2.2 (by rw [HE4.out.2.1]; exact ha1) (fun _ => ⟨he0, by rw [HE4.out.2.1]; omega⟩))
      have HPX : Hid ((if isR L (ON p4) b then partR ON L b g2 (onR (ON p4)) else ON p4) = Z) := Lib.hid (by
        rw [← part_succ, ← hg2, ← hp4]; exact HZ3.out)
      clear hg2 hp4 he0 ha1
      unfold StV at HOO4
      dsimp only at HOO4
      have c0 : w3.cell? ⟨S, 0, none⟩ = some (.slice ad nd cd) := HKA4.out.cell 0
      have c1 : w3.cell? ⟨S, 1, none⟩ = some (.slice ai ni ci) := HKA4.out.cell 1
      have c2 : w3.cell? ⟨S, 2, none⟩ = some (.slice an nn cn) := HKA4.out.cell 2
      have c3 : w3.cell? ⟨S, 3, none⟩ = some (.slice av nv cv) := HKA4.out.cell 3
      have c4 : w3.cell? ⟨S, 4, none⟩ = some (.slice ta L.length tc) := HKA4.out.cell 4
      have c5 : w3.cell? ⟨S, 5, none⟩ = some (.int .i64 (pj.at' : Int)) := HKA4.out.cell 5
      have c6 : w3.cell? ⟨S, 6, none⟩ = some (.int .u32 pj.q.group) := HKA4.out.cell 6
      have c7 : w3.cell? ⟨S, 7, none⟩ = some (.slice mj.af mj.nf mj.cf) := HKA4.out.cell 7
      have c8 : w3.cell? ⟨S, 8, none⟩ = some (.slice mj.ac mj.nc mj.cc) := HKA4.out.cell 8
      have c9 : w3.cell? ⟨S, 9, none⟩ = some (.slice mj.ao mj.no mj.co) := HKA4.out.cell 9
      have c10 : w3.cell? ⟨S, 10, none⟩ = some (.int .i64 pj.q.limit) := HKA4.out.cell 10
      have c11 : w3.cell? ⟨S, 11, none⟩ = some (.int .i64 (pj.err : Int)) := HKA4.out.cell 11
      have fzc : ∀ o, w3.frozen? ⟨S, o, none⟩ = false := fun o => HKA4.out.frozen o
      go_wp2_with fail
      refine (HOO4.out _).mono ?_; rintro e w4 ⟨rfl, hb4⟩
      have HB5 := Lib.hid (HB4.out.trans (hb4.mono (by have := HKA4.out.lt; omega)))
      have HKA5 := Lib.hid (HKA4.out.below hb4 HKA4.out.lt)
      have HKB5 := Lib.hid (HKB4.out.below hb4 HKB4.out.lt)
      have HSZ5 : Hid (w3.heap.size ≤ w4.heap.size) := Lib.hid hb4.size
      have HON5 := Lib.hid (HON.out mj flj p4 _ w4 HB5.out (HSP.out.below hb4) (fun g hg => Nat.lt_of_lt_of_le hg.2 hb4.size) (.inr HE4.out.1))
      clear hb4 HSP HOO4
      clear c0 c1 c2 c3 c4 c5 c6 c7 c8 c9 c10 c11 fzc
      unfold StV at HON5
      dsimp only at HON5
      go_wp2_with fail
      refine HON5.out.mono ?_; rintro e w5 ⟨m5, fl5, rfl, hst5, hb5⟩
      have HB6 := Lib.hid (HB5.out.trans (hb5.mono (by have := HKA5.out.lt; omega)))
      have HKA6 := Lib.hid (HKA5.out.below hb5 HKA5.out.lt)
      have HKB6 := Lib.hid (HKB5.out.below hb5 HKB5.out.lt)
      have HST6 := Lib.hid hst5
      clear hb5 hst5 HON5
      obtain ⟨p5, hp5⟩ : ∃ x, ON p4 = x := ⟨_, rfl⟩
      have HP5 := Lib.hid (HPO.out p4 HE4.out.1)
      rw [hp5] at HST6 HPX HP5 ⊢
      clear hp5
      (try unfold StV)
      (try dsimp only)
      have c0 : w5.cell? ⟨S, 0, none⟩ = some (.slice ad nd cd) := HKA6.out.cell 0
      have c1 : w5.cell? ⟨S, 1, none⟩ = some (.slice ai ni ci) := HKA6.out.cell 1
      have c2 : w5.cell? ⟨S, 2, none⟩ = some (.slice an nn cn) := HKA6.out.cell 2
      have c3 : w5.cell? ⟨S, 3, none⟩ = some (.slice av nv cv) := HKA6.out.cell 3
      have c4 : w5.cell? ⟨S, 4, none⟩ = some (.slice ta L.length tc) := HKA6.out.cell 4
      have c5 : w5.cell? ⟨S, 5, none⟩ = some (.int .i64 (pj.at' : Int)) := HKA6.out.cell 5
      have c6 : w5.cell? ⟨S, 6, none⟩ = some (.int .u32 pj.q.group) := HKA6.out.cell 6
      have c7 : w5.cell? ⟨S, 7, none⟩ = some (.slice mj.af mj.nf mj.cf) := HKA6.out.cell 7
      have c8 : w5.cell? ⟨S, 8, none⟩ = some (.slice mj.ac mj.nc mj.cc) := HKA6.out.cell 8
      have c9 : w5.cell? ⟨S, 9, none⟩ = some (.slice mj.ao mj.no mj.co) := HKA6.out.cell 9
      have c10 : w5.cell? ⟨S, 10, none⟩ = some (.int .i64 pj.q.limit) := HKA6.out.cell 10
      have c11 : w5.cell? ⟨S, 11, none⟩ = some (.int .i64 (pj.err : Int)) := HKA6.out.cell 11
      have fzc : ∀ o, w5.frozen? ⟨S, o, none⟩ = false := fun o => HKA6.out.frozen o
      go_wp2_with fail
      have HSG7 : Hid (StG (fun g => G g ∨ S + 2 ≤ g) ⟨⟨ad, nd, cd, ai, ni, ci, an, nn, cn, av, nv, cv⟩, s, ta, tc, L⟩ m5 fl5 p5 ((((((((((((w5.setCell ⟨S, 0, none⟩ (.slice ad nd cd)).setCell ⟨S, 1, none⟩ (.slice ai ni ci)).setCell ⟨S, 2, none⟩ (.slice an nn cn)).setCell ⟨S, 3, none⟩ (.slice av nv cv)).setCell ⟨S, 4, none⟩ (.slice ta L.length tc)).setCell ⟨S, 5, none⟩ (.int .i64 (p5.at' : Int))).setCell ⟨S, 6, none⟩ (.int .u32 p5.q.group)).setCell ⟨S, 7, none⟩ (.slice m5.af m5.nf m5.cf)).setCell ⟨S, 8, none⟩ (.slice m5.ac m5.nc m5.cc)).setCell ⟨S, 9, none⟩ (.slice m5.ao m5.no m5.co)).setCell ⟨S, 10, none⟩ (.int .i64 p5.q.limit)).setCell ⟨S, 11, none⟩ (.int .i64 (p5.err : Int)))) := Lib.hid (fun wx hag => HST6.out wx (hag.st12 (b := S) (fun g hg => by have := HSW.out; have := HKB4.out.lt; have := HSZ5.out; rcases hg with h | h; rcases h.1 with h2 | h2; have := HGW.out g h2; omega; omega; omega) (fun g hg => by have := HSW.out; have := HKB4.out.lt; have := HSZ5.out; rcases hg with h | h; exact h.1; exact .inr (by omega))))
      clear c0 c1 c2 c3 c4 c5 c6 c7 c8 c9 c10 c11 fzc
      have HKA7 := Lib.hid (blk_st12 HKA6.out (.slice ad nd cd) (.slice ai ni ci) (.slice an nn cn) (.slice av nv cv) (.slice ta L.length tc) (.int .i64 (p5.at' : Int)) (.int .u32 p5.q.group) (.slice m5.af m5.nf m5.cf) (.slice m5.ac m5.nc m5.cc) (.slice m5.ao m5.no m5.co) (.int .i64 p5.q.limit) (.int .i64 (p5.err : Int)))
      have HKB7 := Lib.hid (blk_far12 HKB6.out (b := S) (by omega) (.slice ad nd cd) (.slice ai ni ci) (.slice an nn cn) (.slice av nv cv) (.slice ta L.length tc) (.int .i64 (p5.at' : Int)) (.int .u32 p5.q.group) (.slice m5.af m5.nf m5.cf) (.slice m5.ac m5.nc m5.cc) (.slice m5.ao m5.no m5.co) (.int .i64 p5.q.limit) (.int .i64 (p5.err : Int)))
      have HB7 := Lib.hid (below_st12 HB6.out (b := S) (by have := HSW.out; omega) (.slice ad nd cd) (.slice ai ni ci) (.slice an nn cn) (.slice av nv cv) (.slice ta L.length tc) (.int .i64 (p5.at' : Int)) (.int .u32 p5.q.group) (.slice m5.af m5.nf m5.cf) (.slice m5.ac m5.nc m5.cc) (.slice m5.ao m5.no m5.co) (.int .i64 p5.q.limit) (.int .i64 (p5.err : Int)))
      generalize ((((((((((((w5.setCell ⟨S, 0, none⟩ (.slice ad nd cd)).setCell ⟨S, 1, none⟩ (.slice ai ni ci)).setCell ⟨S, 2, none⟩ (.slice an nn cn)).setCell ⟨S, 3, none⟩ (.slice av nv cv)).setCell ⟨S, 4, none⟩ (.slice ta L.length tc)).setCell ⟨S, 5, none⟩ (.int .i64 (p5.at' : Int))).setCell ⟨S, 6, none⟩ (.int .u32 p5.q.group)).setCell ⟨S, 7, none⟩ (.slice m5.af m5.nf m5.cf)).setCell ⟨S, 8, none⟩ (.slice m5.ac m5.nc m5.cc)).setCell ⟨S, 9, none⟩ (.slice m5.ao m5.no m5.co)).setCell ⟨S, 10, none⟩ (.int .i64 p5.q.limit)).setCell ⟨S, 11, none⟩ (.int .i64 (p5.err : Int))) = w6 at *
      go_roundg g2
      case measure => have := HG2.out; omega
      case rel => exact ⟨m5, fl5, p5, HKA7.out, HKB7.out, HSG7.out, HB7.out, HPX.out, fun h => by
        have h1 := word_at HGD.out h
        have h2 := HP5.out h1.1
        have h3 := HQ4.out
        have h4 := HG2.out
        have h5 := HE4.out.2.1
        omega⟩
end Go.Proofs.Ytaofjnidniekjaa
