/- The reference's reading (package bushelref36): cond. Conditions: those stated. -/
import Derived.Test.YtaofjnidniekjaaGreatDoorMRfB
namespace Go.Proofs.YtaofjnidniekjaaGreatDoor
open Go.RowKit

theorem flt_qry {w : World} {af ac ao ra : Option Addr} {nf cf nc cc no co rc : Nat} {q : QP} {fl : List Flt} (h : QryAt w ⟨af, nf, cf, ac, nc, cc, ao, no, co⟩ (q.at' fl)) {x : Flt} (hx : I64 x.dim ∧ ∀ y ∈ x.codes, I64 y) (hk : RowK .i64 w x.a x.n x.c x.codes) (hr : RowG 2 w ra (nf + 1) rc (fltCells (fl ++ [x]))) : QryAt w ⟨ra, nf + 1, rc, ac, nc, cc, ao, no, co⟩ (({ q with flts := q.flts ++ [(x.dim, x.codes)] } : QP).at' (fl ++ [x])) :=
 ⟨⟨hr, by have := h.1.2.1; show (fl ++ [x]).length = nf + 1; rw [List.length_append]; exact congrArg (· + 1) this, fun f hf => by
  rcases List.mem_append.1 hf with hf | hf
  ·exact h.1.2.2 f hf
  ·rw [List.mem_singleton.1 hf]; exact ⟨hk, hx.1.1, hx.1.2, hx.2⟩⟩, h.2⟩
theorem codes_succ (L : List Tok) (f : Nat) (p : PState) (l : List Int) : codesR L (f + 1) p l = if p.err ≠ 0 then (p, l) else if isR L (numTR L p).1 [44] then codesR L f (onR (numTR L p).1) (l ++ [(numTR L p).2]) else ((numTR L p).1, l ++ [(numTR L p).2]) := rfl
set_option maxRecDepth 100000 in
set_option maxHeartbeats 4000000 in
theorem vcond_any (X : RX) (m : QryL) (fl : List Flt) (p : PState) (G : Nat → Prop) (w : World) (hX : X.At w) (hpG : StG G X m fl p w) (h0 : p.err = 0) :
  Calls Tryz.prog 105 #[StV X m p] w (RStO X (condR (dimN X.s) X.L p) G w) := by
 have hp := hpG.here
 have HSG := Lib.hid hpG
 clear hpG
 have hmany := hX.good.many
 have HG := Lib.hid hX.good
 have HIS := Lib.hid (fun (p1 : PState) (hn : p1.at' < X.L.length) (w' : World) (hb : Below w.heap.size w w') (u : ByteArray) (t : List UInt8) (b : Bool) (ht : u.data.toList = t) (hb' : isR X.L p1 t = b) => vis_any X m p1 w' (hX.below hb (Nat.le_refl _)) hn u b (by rw [ht]; exact hb'))
 have HON := Lib.hid (fun (p1 : PState) (hn : p1.at' < X.L.length) (w' : World) => von_any X m p1 w' (by omega))
 have HWA := Lib.hid (fun (p1 : PState) (hn : p1.at' < X.L.length) (w' : World) (hb : Below w.heap.size w w') (u : ByteArray) (t : List UInt8) (ht : u.data.toList = t) => vwant_any X m p1 w' (hX.below hb (Nat.le_refl _)) hn u t ht)
 have HWN := Lib.hid (fun (p1 : PState) (hn : p1.at' < X.L.length) (t : List UInt8) => want_at hX.good (t := t) hn)
 have HDI := Lib.hid (fun (w' : World) (hb : Below w.heap.size w w') => vdim_any X m p w' (hX.below hb (Nat.le_refl _)) hp.at')
 have HDN := Lib.hid (place_at hX.good (dimN X.s) hp.at')
 have HNU := Lib.hid (fun (p1 : PState) (hn : p1.at' < X.L.length) (w' : World) (hb : Below w.heap.size w w') => vnumber_any X m p1 w' (hX.below hb (Nat.le_refl _)) hn)
 have HNN := Lib.hid (fun (p1 : PState) (hn : p1.at' < X.L.length) => num_at hX.good hn)
 have HDL : Hid ((dimN X.s).length ≤ 6) := Lib.hid (by have := (chk_dims hX.chk).1; unfold dimN; rw [List.length_map]; exact this)
 have HST := Lib.hid hp
 have H0 := Lib.hid h0
 obtain ⟨r, hr⟩ : ∃ x, condR (dimN X.s) X.L p = x := ⟨_, rfl⟩
 rw [hr]
 have HCR := Lib.hid hr
 obtain ⟨⟨p1, d⟩, hp1⟩ : ∃ x, placeR (dimN X.s) X.L p = x := ⟨_, rfl⟩
 rw [hp1] at HDI HDN
 have HP1 := Lib.hid hp1
 clear hr hX hp h0 hp1
 unfold RSt RStN at *
 have hq1 : p1.q = p.q := HDN.out.2.1
 obtain ⟨i1, q1, e1⟩ := p1
 dsimp only at hq1
 subst hq1
 unfold onR at HON
 unfold StV at *
 obtain ⟨⟨ad, nd, cd, ai, ni, ci, an, nn, cn, av, nv, cv⟩, s, ta, tc, L⟩ := X
 obtain ⟨af, nf, cf, ac, nc, cc, ao, no, co⟩ := m
 obtain ⟨i, ⟨g, fq, cq, oq, lm⟩, er⟩ := p
 (try dsimp only at *)
 obtain ⟨W0, hW0⟩ : ∃ W0, ((w.alloc (.cells #[.slice ad nd cd, .slice ai ni ci, .slice an nn cn, .slice av nv cv, .slice ta L.length tc, .int .i64 (i : Int), .int .u32 g, .slice af nf cf, .slice ac nc cc, .slice ao no co, .int .i64 lm, .int .i64 (er : Int)] 122)).alloc (.cells #[.slice none 0 0, .slice none 0 0, .slice none 0 0, .slice none 0 0, .slice none 0 0, .int .i64 0, .int .u32 0, .slice none 0 0, .slice none 0 0, .slice none 0 0, .int .i64 0, .int .i64 0] 122)) = W0 := ⟨_, rfl⟩
 have HB0 : Hid (Below w.heap.size w W0) := Lib.hid (by
  rw [← hW0]
  exact (((Below.refl _ _).alloc (Nat.le_refl _) _).alloc (by simp) _))
 have HZ0 : Hid (W0.heap.size = w.heap.size + 2) := Lib.hid (by rw [← hW0]; simp)
 have HK0 : Hid (Blk W0 (w.heap.size) 122 #[.slice ad nd cd, .slice ai ni ci, .slice an nn cn, .slice av nv cv, .slice ta L.length tc, .int .i64 (i : Int), .int .u32 g, .slice af nf cf, .slice ac nc cc, .slice ao no co, .int .i64 lm, .int .i64 (er : Int)]) := Lib.hid (by
  rw [← hW0]
  have h := Blk.new w 122 #[.slice ad nd cd, .slice ai ni ci, .slice an nn cn, .slice av nv cv, .slice ta L.length tc, .int .i64 (i : Int), .int .u32 g, .slice af nf cf, .slice ac nc cc, .slice ao no co, .int .i64 lm, .int .i64 (er : Int)]
  exact h.alloc _)
 have HK1 : Hid (Blk W0 (w.heap.size + 1) 122 #[.slice none 0 0, .slice none 0 0, .slice none 0 0, .slice none 0 0, .slice none 0 0, .int .i64 0, .int .u32 0, .slice none 0 0, .slice none 0 0, .slice none 0 0, .int .i64 0, .int .i64 0]) := Lib.hid (by
  rw [← hW0]
  have h := Blk.new (w.alloc (.cells #[.slice ad nd cd, .slice ai ni ci, .slice an nn cn, .slice av nv cv, .slice ta L.length tc, .int .i64 (i : Int), .int .u32 g, .slice af nf cf, .slice ac nc cc, .slice ao no co, .int .i64 lm, .int .i64 (er : Int)] 122)) 122 #[.slice none 0 0, .slice none 0 0, .slice none 0 0, .slice none 0 0, .slice none 0 0, .int .i64 0, .int .u32 0, .slice none 0 0, .slice none 0 0, .slice none 0 0, .int .i64 0, .int .i64 0]
  rw [World.size_alloc] at h
  exact h)
 (try unfold StV)
 (try dsimp only)
 go_enter Tryz.func105, Tryz.ntmps105
 go_upto_region 1 with fail
 clear hW0
 generalize hS : w.heap.size = S at *
 have HSW := Lib.hid hS
 clear hS
 go_upto_region 3 with fail
 have HKS0 := Lib.hid (HK0.out.alloc (.cells #[.int .i64 0, .slice none 0 0] 61))
 have HKB0 := Lib.hid (HK1.out.alloc (.cells #[.int .i64 0, .slice none 0 0] 61))
 have HKF0 := Lib.hid (Blk.new W0 61 #[.int .i64 0, .slice none 0 0])
 have HBF0 := Lib.hid (HB0.out.alloc (by have := HZ0.out; omega) (.cells #[.int .i64 0, .slice none 0 0] 61))
 have HFS : Hid (W0.heap.size = S + 2) := Lib.hid HZ0.out
 generalize W0.alloc (.cells #[.int .i64 0, .slice none 0 0] 61) = w0 at *
 generalize W0.heap.size = F at *
 have c0 := HKS0.out.c 0
 have c1 := HKS0.out.c 1
 have c2 := HKS0.out.c 2
 have c3 := HKS0.out.c 3
 have c4 := HKS0.out.c 4
 have c5 := HKS0.out.c 5
 have c6 := HKS0.out.c 6
 have c7 := HKS0.out.c 7
 have c8 := HKS0.out.c 8
 have c9 := HKS0.out.c 9
 have c10 := HKS0.out.c 10
 have c11 := HKS0.out.c 11
 have fzc : ∀ o, w0.frozen? ⟨S, o, none⟩ = false := fun o => HKS0.out.frozen o
 go_wp2_with fail
 refine (HDI.out _ HBF0.out).mono ?_; rintro e w1 ⟨rfl, hb1⟩
 have HB1 := Lib.hid (HBF0.out.trans (hb1.mono (by have := HKS0.out.lt; omega)))
 have HKS1 := Lib.hid (HKS0.out.below hb1 HKS0.out.lt)
 have HKB1 := Lib.hid (HKB0.out.below hb1 HKB0.out.lt)
 have HKF1 := Lib.hid (HKF0.out.below hb1 HKF0.out.lt)
 clear hb1
 clear c0 c1 c2 c3 c4 c5 c6 c7 c8 c9 c10 c11 fzc
 dsimp only
 have c0 := HKS1.out.c 0
 have c1 := HKS1.out.c 1
 have c2 := HKS1.out.c 2
 have c3 := HKS1.out.c 3
 have c4 := HKS1.out.c 4
 have c5 := HKS1.out.c 5
 have c6 := HKS1.out.c 6
 have c7 := HKS1.out.c 7
 have c8 := HKS1.out.c 8
 have c9 := HKS1.out.c 9
 have c10 := HKS1.out.c 10
 have c11 := HKS1.out.c 11
 have fzc : ∀ o, w1.frozen? ⟨S, o, none⟩ = false := fun o => HKS1.out.frozen o
 have q0 := HKF1.out.c 0
 have qf : ∀ o, w1.frozen? ⟨F, o, none⟩ = false := fun o => HKF1.out.frozen o
 have hFS : ¬ F = S := by have := HFS.out; omega
 have hSF : ¬ S = F := by omega
 go_upto_region 4 with fail
 clear c0 c1 c2 c3 c4 c5 c6 c7 c8 c9 c10 c11 fzc
 clear q0 qf
 have HKSy := Lib.hid (blk_st12 HKS1.out (.slice ad nd cd) (.slice ai ni ci) (.slice an nn cn) (.slice av nv cv) (.slice ta L.length tc) (.int .i64 (i1 : Int)) (.int .u32 g) (.slice af nf cf) (.slice ac nc cc) (.slice ao no co) (.int .i64 lm) (.int .i64 (e1 : Int)))
 have HKBy := Lib.hid (blk_far12 HKB1.out (b := S) (by first | omega | exact hFS) (.slice ad nd cd) (.slice ai ni ci) (.slice an nn cn) (.slice av nv cv) (.slice ta L.length tc) (.int .i64 (i1 : Int)) (.int .u32 g) (.slice af nf cf) (.slice ac nc cc) (.slice ao no co) (.int .i64 lm) (.int .i64 (e1 : Int)))
 have HKFy := Lib.hid (blk_far12 HKF1.out (b := S) (by first | omega | exact hFS) (.slice ad nd cd) (.slice ai ni ci) (.slice an nn cn) (.slice av nv cv) (.slice ta L.length tc) (.int .i64 (i1 : Int)) (.int .u32 g) (.slice af nf cf) (.slice ac nc cc) (.slice ao no co) (.int .i64 lm) (.int .i64 (e1 : Int)))
 have HBy := Lib.hid (below_st12 HB1.out (b := S) (by have := HSW.out; omega) (.slice ad nd cd) (.slice ai ni ci) (.slice an nn cn) (.slice av nv cv) (.slice ta L.length tc) (.int .i64 (i1 : Int)) (.int .u32 g) (.slice af nf cf) (.slice ac nc cc) (.slice ao no co) (.int .i64 lm) (.int .i64 (e1 : Int)))
 generalize ((((((((((((w1.setCell ⟨S, 0, none⟩ (.slice ad nd cd)).setCell ⟨S, 1, none⟩ (.slice ai ni ci)).setCell ⟨S, 2, none⟩ (.slice an nn cn)).setCell ⟨S, 3, none⟩ (.slice av nv cv)).setCell ⟨S, 4, none⟩ (.slice ta L.length tc)).setCell ⟨S, 5, none⟩ (.int .i64 (i1 : Int))).setCell ⟨S, 6, none⟩ (.int .u32 g)).setCell ⟨S, 7, none⟩ (.slice af nf cf)).setCell ⟨S, 8, none⟩ (.slice ac nc cc)).setCell ⟨S, 9, none⟩ (.slice ao no co)).setCell ⟨S, 10, none⟩ (.int .i64 lm)).setCell ⟨S, 11, none⟩ (.int .i64 (e1 : Int))) = y1 at *
 have HKS2 := Lib.hid (HKSy.out.far (p := ⟨F, 0, none⟩) (by exact hSF) (.int .i64 (d : Int)))
 have HKB2 := Lib.hid (HKBy.out.far (p := ⟨F, 0, none⟩) (by have := HFS.out; show S + 1 ≠ F; omega) (.int .i64 (d : Int)))
 have HKF2 := Lib.hid (HKFy.out.set_ 0 (.int .i64 (d : Int)))
 have HB2 := Lib.hid (below_set HBy.out (p := ⟨F, 0, none⟩) (by have := HFS.out; show S ≤ F; omega) (.int .i64 (d : Int)))
 generalize y1.setCell ⟨F, 0, none⟩ (.int .i64 (d : Int)) = w2 at *
 have HCR1 : Hid (r = if isR L ⟨i1, ⟨g, fq, cq, oq, lm⟩, e1⟩ [61] then { (numTR L (onR ⟨i1, ⟨g, fq, cq, oq, lm⟩, e1⟩)).1 with q := { (numTR L (onR ⟨i1, ⟨g, fq, cq, oq, lm⟩, e1⟩)).1.q with flts := (numTR L (onR ⟨i1, ⟨g, fq, cq, oq, lm⟩, e1⟩)).1.q.flts ++ [((d : Int), [(numTR L (onR ⟨i1, ⟨g, fq, cq, oq, lm⟩, e1⟩)).2])] } }
  else { (wantR L (if isR L (wantR L (wantR L ⟨i1, ⟨g, fq, cq, oq, lm⟩, e1⟩ [105, 110]) [40]) [41] then (wantR L (wantR L ⟨i1, ⟨g, fq, cq, oq, lm⟩, e1⟩ [105, 110]) [40], ([] : List Int)) else codesR L L.length (wantR L (wantR L ⟨i1, ⟨g, fq, cq, oq, lm⟩, e1⟩ [105, 110]) [40]) []).1 [41]) with q := { (wantR L (if isR L (wantR L (wantR L ⟨i1, ⟨g, fq, cq, oq, lm⟩, e1⟩ [105, 110]) [40]) [41] then (wantR L (wantR L ⟨i1, ⟨g, fq, cq, oq, lm⟩, e1⟩ [105, 110]) [40], ([] : List Int)) else codesR L L.length (wantR L (wantR L ⟨i1, ⟨g, fq, cq, oq, lm⟩, e1⟩ [105, 110]) [40]) []).1 [41]).q with flts := (wantR L (if isR L (wantR L (wantR L ⟨i1, ⟨g, fq, cq, oq, lm⟩, e1⟩ [105, 110]) [40]) [41] then (wantR L (wantR L ⟨i1, ⟨g, fq, cq, oq, lm⟩, e1⟩ [105, 110]) [40], ([] : List Int)) else codesR L L.length (wantR L (wantR L ⟨i1, ⟨g, fq, cq, oq, lm⟩, e1⟩ [105, 110]) [40]) []).1 [41]).q.flts ++ [((d : Int), (if isR L (wantR L (wantR L ⟨i1, ⟨g, fq, cq, oq, lm⟩, e1⟩ [105, 110]) [40]) [41] then (wantR L (wantR L ⟨i1, ⟨g, fq, cq, oq, lm⟩, e1⟩ [105, 110]) [40], ([] : List Int)) else codesR L L.length (wantR L (wantR L ⟨i1, ⟨g, fq, cq, oq, lm⟩, e1⟩ [105, 110]) [40]) []).2)] } }) := Lib.hid (by
  rw [← HCR.out]
  unfold condR
  rw [HP1.out])
 obtain ⟨v, hv⟩ : ∃ x, isR L ⟨i1, ⟨g, fq, cq, oq, lm⟩, e1⟩ [61] = x := ⟨_, rfl⟩
 have HII := Lib.hid (HIS.out ⟨i1, ⟨g, fq, cq, oq, lm⟩, e1⟩ HDN.out.1 w2 HB2.out ⟨#[61]⟩ [61] v rfl hv)
 have HV := Lib.hid hv
 clear hv
 have c0 := HKS2.out.c 0
 have c1 := HKS2.out.c 1
 have c2 := HKS2.out.c 2
 have c3 := HKS2.out.c 3
 have c4 := HKS2.out.c 4
 have c5 := HKS2.out.c 5
 have c6 := HKS2.out.c 6
 have c7 := HKS2.out.c 7
 have c8 := HKS2.out.c 8
 have c9 := HKS2.out.c 9
 have c10 := HKS2.out.c 10
 have c11 := HKS2.out.c 11
 go_wp2_with fail
 refine HII.out.mono ?_; rintro e w3 ⟨rfl, hb3⟩
 have HB3 := Lib.hid (HB2.out.trans (hb3.mono (by have := HKS2.out.lt; omega)))
 have HKS3 := Lib.hid (HKS2.out.below hb3 HKS2.out.lt)
 have HKB3 := Lib.hid (HKB2.out.below hb3 HKB2.out.lt)
 have HKF3 := Lib.hid (HKF2.out.below hb3 HKF2.out.lt)
 clear hb3 HII
 clear c0 c1 c2 c3 c4 c5 c6 c7 c8 c9 c10 c11
 go_upto_if 14 with fail
 go_cut [] (fun wx => ∃ (i3 e3 : Nat) (l : List Int) (xa : Option Addr) (xc : Nat), r = ⟨i3, ⟨g, fq ++ [((d : Int), l)], cq, oq, lm⟩, e3⟩ ∧ i3 < L.length ∧ (e3 = 0 → i < i3) ∧ (∀ y ∈ l, I64 y) ∧ wx.ownsRow (S + 3) 3 1 (.slice xa l.length xc) l.length (l.map (Value.int .i64)) ∧ Blk wx S 122 #[.slice ad nd cd, .slice ai ni ci, .slice an nn cn, .slice av nv cv, .slice ta L.length tc, .int .i64 (i3 : Int), .int .u32 g, .slice af nf cf, .slice ac nc cc, .slice ao no co, .int .i64 lm, .int .i64 (e3 : Int)] ∧ Blk wx (S + 1) 122 #[.slice none 0 0, .slice none 0 0, .slice none 0 0, .slice none 0 0, .slice none 0 0, .int .i64 0, .int .u32 0, .slice none 0 0, .slice none 0 0, .slice none 0 0, .int .i64 0, .int .i64 0] ∧ Blk wx F 61 #[.int .i64 (d : Int), .slice xa l.length xc] ∧ Below S w wx)
 case first =>
  rcases v with _ | _
  ·obtain ⟨p2, hp2⟩ : ∃ x, wantR L ⟨i1, ⟨g, fq, cq, oq, lm⟩, e1⟩ [105, 110] = x := ⟨_, rfl⟩
   have HW2 := Lib.hid (HWN.out ⟨i1, ⟨g, fq, cq, oq, lm⟩, e1⟩ HDN.out.1 [105, 110])
   have HWA2 := Lib.hid (fun w' hb => HWA.out ⟨i1, ⟨g, fq, cq, oq, lm⟩, e1⟩ HDN.out.1 w' hb ⟨#[105, 110]⟩ [105, 110] rfl)
   rw [hp2] at HW2 HWA2
   have HP2 := Lib.hid hp2
   clear hp2
   have hq2 := HW2.out.2.1
   obtain ⟨i2, q2, e2⟩ := p2
   dsimp only at hq2
   subst hq2
   obtain ⟨p3, hp3⟩ : ∃ x, wantR L ⟨i2, ⟨g, fq, cq, oq, lm⟩, e2⟩ [40] = x := ⟨_, rfl⟩
   have HW3 := Lib.hid (HWN.out ⟨i2, ⟨g, fq, cq, oq, lm⟩, e2⟩ HW2.out.1 [40])
   have HWA3 := Lib.hid (fun w' hb => HWA.out ⟨i2, ⟨g, fq, cq, oq, lm⟩, e2⟩ HW2.out.1 w' hb ⟨#[40]⟩ [40] rfl)
   rw [hp3] at HW3 HWA3
   have HP3 := Lib.hid hp3
   clear hp3
   have hq3 := HW3.out.2.1
   obtain ⟨i3, q3, e3⟩ := p3
   dsimp only at hq3
   subst hq3
   dsimp only at *
   obtain ⟨b, hb⟩ : ∃ x, isR L ⟨i3, ⟨g, fq, cq, oq, lm⟩, e3⟩ [41] = x := ⟨_, rfl⟩
   have HI3 := Lib.hid (fun w' hbb => HIS.out ⟨i3, ⟨g, fq, cq, oq, lm⟩, e3⟩ HW3.out.1 w' hbb ⟨#[41]⟩ [41] b rfl hb)
   obtain ⟨Z, hZ⟩ : ∃ x, (if b then ((⟨i3, ⟨g, fq, cq, oq, lm⟩, e3⟩ : PState), ([] : List Int)) else codesR L L.length ⟨i3, ⟨g, fq, cq, oq, lm⟩, e3⟩ []) = x := ⟨_, rfl⟩
   have HCX : Hid (r = { (wantR L Z.1 [41]) with q := { (wantR L Z.1 [41]).q with flts := (wantR L Z.1 [41]).q.flts ++ [((d : Int), Z.2)] } }) := Lib.hid (by
    rw [HCR1.out, HV.out, if_neg (by decide), HP2.out, HP3.out, hb, hZ])
   have HZ := Lib.hid hZ
   clear hb hZ
   have c0 := HKS3.out.c 0
   have c1 := HKS3.out.c 1
   have c2 := HKS3.out.c 2
   have c3 := HKS3.out.c 3
   have c4 := HKS3.out.c 4
   have c5 := HKS3.out.c 5
   have c6 := HKS3.out.c 6
   have c7 := HKS3.out.c 7
   have c8 := HKS3.out.c 8
   have c9 := HKS3.out.c 9
   have c10 := HKS3.out.c 10
   have c11 := HKS3.out.c 11
   have fzc : ∀ o, w3.frozen? ⟨S, o, none⟩ = false := fun o => HKS3.out.frozen o
   go_wp2_with fail
   refine (HWA2.out _ HB3.out).mono ?_; rintro e w4 ⟨rfl, hb4⟩
   have HB4 := Lib.hid (HB3.out.trans (hb4.mono (by have := HKS3.out.lt; omega)))
   have HKS4 := Lib.hid (HKS3.out.below hb4 HKS3.out.lt)
   have HKB4 := Lib.hid (HKB3.out.below hb4 HKB3.out.lt)
   have HKF4 := Lib.hid (HKF3.out.below hb4 HKF3.out.lt)
   clear hb4
   clear c0 c1 c2 c3 c4 c5 c6 c7 c8 c9 c10 c11 fzc
   dsimp only
   go_wp2_with fail
   refine (HWA3.out _ HB4.out).mono ?_; rintro e w5 ⟨rfl, hb5⟩
   have HB5 := Lib.hid (HB4.out.trans (hb5.mono (by have := HKS4.out.lt; omega)))
   have HKS5 := Lib.hid (HKS4.out.below hb5 HKS4.out.lt)
   have HKB5 := Lib.hid (HKB4.out.below hb5 HKB4.out.lt)
   have HKF5 := Lib.hid (HKF4.out.below hb5 HKF4.out.lt)
   clear hb5
   dsimp only
   have c0 := HKS5.out.c 0
   have c1 := HKS5.out.c 1
   have c2 := HKS5.out.c 2
   have c3 := HKS5.out.c 3
   have c4 := HKS5.out.c 4
   have c5 := HKS5.out.c 5
   have c6 := HKS5.out.c 6
   have c7 := HKS5.out.c 7
   have c8 := HKS5.out.c 8
   have c9 := HKS5.out.c 9
   have c10 := HKS5.out.c 10
   have c11 := HKS5.out.c 11
   have fzc : ∀ o, w5.frozen? ⟨S, o, none⟩ = false := fun o => HKS5.out.frozen o
   go_upto_region 8 with fail
   clear c0 c1 c2 c3 c4 c5 c6 c7 c8 c9 c10 c11 fzc
   have HKS6 := Lib.hid (blk_st12 HKS5.out (.slice ad nd cd) (.slice ai ni ci) (.slice an nn cn) (.slice av nv cv) (.slice ta L.length tc) (.int .i64 (i3 : Int)) (.int .u32 g) (.slice af nf cf) (.slice ac nc cc) (.slice ao no co) (.int .i64 lm) (.int .i64 (e3 : Int)))
   have HKB6 := Lib.hid (blk_far12 HKB5.out (b := S) (by first | omega | exact hFS) (.slice ad nd cd) (.slice ai ni ci) (.slice an nn cn) (.slice av nv cv) (.slice ta L.length tc) (.int .i64 (i3 : Int)) (.int .u32 g) (.slice af nf cf) (.slice ac nc cc) (.slice ao no co) (.int .i64 lm) (.int .i64 (e3 : Int)))
   have HKF6 := Lib.hid (blk_far12 HKF5.out (b := S) (by first | omega | exact hFS) (.slice ad nd cd) (.slice ai ni ci) (.slice an nn cn) (.slice av nv cv) (.slice ta L.length tc) (.int .i64 (i3 : Int)) (.int .u32 g) (.slice af nf cf) (.slice ac nc cc) (.slice ao no co) (.int .i64 lm) (.int .i64 (e3 : Int)))
   have HB6 := Lib.hid (below_st12 HB5.out (b := S) (by have := HSW.out; omega) (.slice ad nd cd) (.slice ai ni ci) (.slice an nn cn) (.slice av nv cv) (.slice ta L.length tc) (.int .i64 (i3 : Int)) (.int .u32 g) (.slice af nf cf) (.slice ac nc cc) (.slice ao no co) (.int .i64 lm) (.int .i64 (e3 : Int)))
   generalize ((((((((((((w5.setCell ⟨S, 0, none⟩ (.slice ad nd cd)).setCell ⟨S, 1, none⟩ (.slice ai ni ci)).setCell ⟨S, 2, none⟩ (.slice an nn cn)).setCell ⟨S, 3, none⟩ (.slice av nv cv)).setCell ⟨S, 4, none⟩ (.slice ta L.length tc)).setCell ⟨S, 5, none⟩ (.int .i64 (i3 : Int))).setCell ⟨S, 6, none⟩ (.int .u32 g)).setCell ⟨S, 7, none⟩ (.slice af nf cf)).setCell ⟨S, 8, none⟩ (.slice ac nc cc)).setCell ⟨S, 9, none⟩ (.slice ao no co)).setCell ⟨S, 10, none⟩ (.int .i64 lm)).setCell ⟨S, 11, none⟩ (.int .i64 (e3 : Int))) = w6 at *
   have c0 := HKS6.out.c 0
   have c1 := HKS6.out.c 1
   have c2 := HKS6.out.c 2
   have c3 := HKS6.out.c 3
   have c4 := HKS6.out.c 4
   have c5 := HKS6.out.c 5
   have c6 := HKS6.out.c 6
   have c7 := HKS6.out.c 7
   have c8 := HKS6.out.c 8
   have c9 := HKS6.out.c 9
   have c10 := HKS6.out.c 10
   have c11 := HKS6.out.c 11
   go_wp2_with fail
   refine (HI3.out _ HB6.out).mono ?_; rintro e w7 ⟨rfl, hb7⟩
   have HB7 := Lib.hid (HB6.out.trans (hb7.mono (by have := HKS6.out.lt; omega)))
   have HKS7 := Lib.hid (HKS6.out.below hb7 HKS6.out.lt)
   have HKB7 := Lib.hid (HKB6.out.below hb7 HKB6.out.lt)
   have HKF7 := Lib.hid (HKF6.out.below hb7 HKF6.out.lt)
   clear hb7
   clear c0 c1 c2 c3 c4 c5 c6 c7 c8 c9 c10 c11
   go_wp2_with fail
   go_loopg [4, 5] L.length (fun q nu mu wr => ∃ (j f : Nat) (l : List Int) (mr : Bool) (xa : Option Addr) (xc : Nat) (nn' : Int), nu = .int .i64 nn' ∧ mu = .bool mr ∧ (if mr then codesR L q ⟨j, ⟨g, fq, cq, oq, lm⟩, f⟩ l = Z ∧ L.length ≤ q + j ∧ l.length + q ≤ L.length else ((⟨j, ⟨g, fq, cq, oq, lm⟩, f⟩ : PState), l) = Z) ∧ j < L.length ∧ (f = 0 → e3 = 0 ∧ i3 ≤ j) ∧ (∀ y ∈ l, I64 y) ∧ wr.ownsRow (S + 3) 3 1 (.slice xa l.length xc) l.length (l.map (Value.int .i64)) ∧ Blk wr S 122 #[.slice ad nd cd, .slice ai ni ci, .slice an nn cn, .slice av nv cv, .slice ta L.length tc, .int .i64 (j : Int), .int .u32 g, .slice af nf cf, .slice ac nc cc, .slice ao no co, .int .i64 lm, .int .i64 (f : Int)] ∧ Blk wr (S + 1) 122 #[.slice none 0 0, .slice none 0 0, .slice none 0 0, .slice none 0 0, .slice none 0 0, .int .i64 0, .int .u32 0, .slice none 0 0, .slice none 0 0, .slice none 0 0, .int .i64 0, .int .i64 0] ∧ Blk wr F 61 #[.int .i64 (d : Int), .slice xa l.length xc] ∧ Below S w wr)
   case atStart =>
    refine ⟨i3, e3, [], !b, none, 0, 0, rfl, rfl, ?_, HW3.out.1, fun he => ⟨he, Nat.le_refl _⟩, (fun y hy => nomatch hy), World.ownsRow_nil _ _ _ _, HKS7.out, HKB7.out, HKF7.out, HB7.out⟩
    rcases b with _ | _
    ·rw [if_pos (show (!false) = true from rfl)]; exact ⟨HZ.out, by omega, by simp⟩
    ·rw [if_neg (show ¬ (!true) = true by decide)]; exact HZ.out
   case round =>
    obtain ⟨j, f, l, mr, xa, xc, nn', rfl, rfl, hz, hj, hf, hl, ho, hks, hkb, hkf, hb⟩ := hrel
    have HZZ := Lib.hid hz
    have HJ := Lib.hid hj
    have HF := Lib.hid hf
    have HL := Lib.hid hl
    have HO := Lib.hid ho
    have HKS8 := Lib.hid hks
    have HKB8 := Lib.hid hkb
    have HKF8 := Lib.hid hkf
    have HB8 := Lib.hid hb
    clear hz hj hf hl ho hks hkb hkf hb
    rcases mr with _ | _
    ·have HZE : Hid (((⟨j, ⟨g, fq, cq, oq, lm⟩, f⟩ : PState), l) = Z) := Lib.hid HZZ.out
     have c0 := HKS8.out.c 0
     have c1 := HKS8.out.c 1
     have c2 := HKS8.out.c 2
     have c3 := HKS8.out.c 3
     have c4 := HKS8.out.c 4
     have c5 := HKS8.out.c 5
     have c6 := HKS8.out.c 6
     have c7 := HKS8.out.c 7
     have c8 := HKS8.out.c 8
     have c9 := HKS8.out.c 9
     have c10 := HKS8.out.c 10
     have c11 := HKS8.out.c 11
     have fzc : ∀ o, wr.frozen? ⟨S, o, none⟩ = false := fun o => HKS8.out.frozen o
     obtain ⟨p5, hp5⟩ : ∃ x, wantR L ⟨j, ⟨g, fq, cq, oq, lm⟩, f⟩ [41] = x := ⟨_, rfl⟩
     have HW5 := Lib.hid (HWN.out ⟨j, ⟨g, fq, cq, oq, lm⟩, f⟩ HJ.out [41])
     have HWA5 := Lib.hid (fun w' hb => HWA.out ⟨j, ⟨g, fq, cq, oq, lm⟩, f⟩ HJ.out w' hb ⟨#[41]⟩ [41] rfl)
     rw [hp5] at HW5 HWA5
     have HP5 := Lib.hid hp5
     clear hp5
     have hq5 := HW5.out.2.1
     obtain ⟨i5, q5, e5⟩ := p5
     dsimp only at hq5
     subst hq5
     (try dsimp only at *)
     have HRX : Hid (r = ⟨i5, ⟨g, fq ++ [((d : Int), l)], cq, oq, lm⟩, e5⟩) := Lib.hid (by
      rw [HCX.out, ← HZE.out]
      dsimp only
      rw [HP5.out])
     go_wp2_with fail
     refine (HWA5.out _ HB8.out).mono ?_; rintro e w9 ⟨rfl, hb9⟩
     have HB9 := Lib.hid (HB8.out.trans (hb9.mono (by have := HKS8.out.lt; omega)))
     have HKS9 := Lib.hid (HKS8.out.below hb9 HKS8.out.lt)
     have HKB9 := Lib.hid (HKB8.out.below hb9 HKB8.out.lt)
     have HKF9 := Lib.hid (HKF8.out.below hb9 HKF8.out.lt)
     have HO9 := Lib.hid (own_below HO.out hb9 (Nat.le_refl _))
     clear hb9
     clear c0 c1 c2 c3 c4 c5 c6 c7 c8 c9 c10 c11 fzc
     dsimp only
     have c0 := HKS9.out.c 0
     have c1 := HKS9.out.c 1
     have c2 := HKS9.out.c 2
     have c3 := HKS9.out.c 3
     have c4 := HKS9.out.c 4
     have c5 := HKS9.out.c 5
     have c6 := HKS9.out.c 6
     have c7 := HKS9.out.c 7
     have c8 := HKS9.out.c 8
     have c9 := HKS9.out.c 9
     have c10 := HKS9.out.c 10
     have c11 := HKS9.out.c 11
     have fzc : ∀ o, w9.frozen? ⟨S, o, none⟩ = false := fun o => HKS9.out.frozen o
     go_wp2_with fail
     clear c0 c1 c2 c3 c4 c5 c6 c7 c8 c9 c10 c11 fzc
     have HO10 := Lib.hid (own_set (own_set (own_set (own_set (own_set (own_set (own_set (own_set (own_set (own_set (own_set (own_set HO9.out (R := S) (by omega) 0 (.slice ad nd cd)) (R := S) (by omega) 1 (.slice ai ni ci)) (R := S) (by omega) 2 (.slice an nn cn)) (R := S) (by omega) 3 (.slice av nv cv)) (R := S) (by omega) 4 (.slice ta L.length tc)) (R := S) (by omega) 5 (.int .i64 (i5 : Int))) (R := S) (by omega) 6 (.int .u32 g)) (R := S) (by omega) 7 (.slice af nf cf)) (R := S) (by omega) 8 (.slice ac nc cc)) (R := S) (by omega) 9 (.slice ao no co)) (R := S) (by omega) 10 (.int .i64 lm)) (R := S) (by omega) 11 (.int .i64 (e5 : Int)))
     have HKS10 := Lib.hid (blk_st12 HKS9.out (.slice ad nd cd) (.slice ai ni ci) (.slice an nn cn) (.slice av nv cv) (.slice ta L.length tc) (.int .i64 (i5 : Int)) (.int .u32 g) (.slice af nf cf) (.slice ac nc cc) (.slice ao no co) (.int .i64 lm) (.int .i64 (e5 : Int)))
     have HKB10 := Lib.hid (blk_far12 HKB9.out (b := S) (by first | omega | exact hFS) (.slice ad nd cd) (.slice ai ni ci) (.slice an nn cn) (.slice av nv cv) (.slice ta L.length tc) (.int .i64 (i5 : Int)) (.int .u32 g) (.slice af nf cf) (.slice ac nc cc) (.slice ao no co) (.int .i64 lm) (.int .i64 (e5 : Int)))
     have HKF10 := Lib.hid (blk_far12 HKF9.out (b := S) (by first | omega | exact hFS) (.slice ad nd cd) (.slice ai ni ci) (.slice an nn cn) (.slice av nv cv) (.slice ta L.length tc) (.int .i64 (i5 : Int)) (.int .u32 g) (.slice af nf cf) (.slice ac nc cc) (.slice ao no co) (.int .i64 lm) (.int .i64 (e5 : Int)))
     have HB10 := Lib.hid (below_st12 HB9.out (b := S) (by have := HSW.out; omega) (.slice ad nd cd) (.slice ai ni ci) (.slice an nn cn) (.slice av nv cv) (.slice ta L.length tc) (.int .i64 (i5 : Int)) (.int .u32 g) (.slice af nf cf) (.slice ac nc cc) (.slice ao no co) (.int .i64 lm) (.int .i64 (e5 : Int)))
     generalize ((((((((((((w9.setCell ⟨S, 0, none⟩ (.slice ad nd cd)).setCell ⟨S, 1, none⟩ (.slice ai ni ci)).setCell ⟨S, 2, none⟩ (.slice an nn cn)).setCell ⟨S, 3, none⟩ (.slice av nv cv)).setCell ⟨S, 4, none⟩ (.slice ta L.length tc)).setCell ⟨S, 5, none⟩ (.int .i64 (i5 : Int))).setCell ⟨S, 6, none⟩ (.int .u32 g)).setCell ⟨S, 7, none⟩ (.slice af nf cf)).setCell ⟨S, 8, none⟩ (.slice ac nc cc)).setCell ⟨S, 9, none⟩ (.slice ao no co)).setCell ⟨S, 10, none⟩ (.int .i64 lm)).setCell ⟨S, 11, none⟩ (.int .i64 (e5 : Int))) = w10 at *
     go_meet
     refine ⟨i5, e5, l, xa, xc, HRX.out, HW5.out.1, fun he => ?_, HL.out, HO10.out, HKS10.out, HKB10.out, HKF10.out, HB10.out⟩
     obtain ⟨k1, k2⟩ := HW5.out.2.2 he
     obtain ⟨k3, k4⟩ := HF.out k1
     obtain ⟨k5, k6⟩ := HW3.out.2.2 k3
     obtain ⟨k7, k8⟩ := HW2.out.2.2 k5
     obtain ⟨k9, k10, -⟩ := HDN.out.2.2.1 k7
     (try dsimp only at *)
     omega
    ·by_cases hf0 : f = 0
     ·have HF0 := Lib.hid hf0
      have t0 : ((f : Int) == 0) = true := by rw [hf0]; rfl
      clear hf0
      have hzz : codesR L gk ⟨j, ⟨g, fq, cq, oq, lm⟩, f⟩ l = Z ∧ L.length ≤ gk + j ∧ l.length + gk ≤ L.length := HZZ.out
      obtain ⟨gk2, hgk⟩ : ∃ g2, gk = g2 + 1 := ⟨gk - 1, by have := HJ.out; omega⟩
      obtain ⟨⟨p4, n⟩, hp4⟩ : ∃ x, numTR L ⟨j, ⟨g, fq, cq, oq, lm⟩, f⟩ = x := ⟨_, rfl⟩
      have HN4 := Lib.hid (HNN.out ⟨j, ⟨g, fq, cq, oq, lm⟩, f⟩ HJ.out)
      have HNU4 := Lib.hid (fun w' hb => HNU.out ⟨j, ⟨g, fq, cq, oq, lm⟩, f⟩ HJ.out w' hb)
      rw [hp4] at HN4 HNU4
      have hq4 := HN4.out.2.1
      obtain ⟨i4, q4, e4⟩ := p4
      dsimp only at hq4
      subst hq4
      obtain ⟨b4, hb4⟩ : ∃ x, isR L ⟨i4, ⟨g, fq, cq, oq, lm⟩, e4⟩ [44] = x := ⟨_, rfl⟩
      have HI4 := Lib.hid (fun w' hbb => HIS.out ⟨i4, ⟨g, fq, cq, oq, lm⟩, e4⟩ HN4.out.1 w' hbb ⟨#[44]⟩ [44] b4 rfl hb4)
      have HON4 := Lib.hid (HON.out ⟨i4, ⟨g, fq, cq, oq, lm⟩, e4⟩ HN4.out.1)
      have HW4 := Lib.hid (fun h => word_at HG.out (p := ⟨i4, ⟨g, fq, cq, oq, lm⟩, e4⟩) (t := [44]) h)
      have HZ4 : Hid ((if b4 then codesR L gk2 ⟨i4 + 1, ⟨g, fq, cq, oq, lm⟩, e4⟩ (l ++ [n]) else ((⟨i4, ⟨g, fq, cq, oq, lm⟩, e4⟩ : PState), l ++ [n])) = Z) := Lib.hid (by
       rw [← hzz.1, hgk]
       rw [codes_succ, if_neg (c := f ≠ 0) (fun h => h HF0.out), hp4]
       dsimp only [onR]
       rw [hb4])
      have HGK := Lib.hid hgk
      have HBD := Lib.hid hzz.2
      have HB4' := Lib.hid hb4
      have hlb : l.length ≤ 1001 := by have := hzz.2.2; omega
      clear hp4 hzz hgk hb4
      dsimp only at *
      have c0 := HKS8.out.c 0
      have c1 := HKS8.out.c 1
      have c2 := HKS8.out.c 2
      have c3 := HKS8.out.c 3
      have c4 := HKS8.out.c 4
      have c5 := HKS8.out.c 5
      have c6 := HKS8.out.c 6
      have c7 := HKS8.out.c 7
      have c8 := HKS8.out.c 8
      have c9 := HKS8.out.c 9
      have c10 := HKS8.out.c 10
      have c11 := HKS8.out.c 11
      have fzc : ∀ o, wr.frozen? ⟨S, o, none⟩ = false := fun o => HKS8.out.frozen o
      go_wp2_with fail
      refine (HNU4.out _ HB8.out).mono ?_; rintro e w9 ⟨rfl, hb9⟩
      have HB9 := Lib.hid (HB8.out.trans (hb9.mono (by have := HKS8.out.lt; omega)))
      have HKS9 := Lib.hid (HKS8.out.below hb9 HKS8.out.lt)
      have HKB9 := Lib.hid (HKB8.out.below hb9 HKB8.out.lt)
      have HKF9 := Lib.hid (HKF8.out.below hb9 HKF8.out.lt)
      have HO9 := Lib.hid (own_below HO.out hb9 (Nat.le_refl _))
      clear hb9
      clear c0 c1 c2 c3 c4 c5 c6 c7 c8 c9 c10 c11 fzc
      dsimp only
      have c0 := HKS9.out.c 0
      have c1 := HKS9.out.c 1
      have c2 := HKS9.out.c 2
      have c3 := HKS9.out.c 3
      have c4 := HKS9.out.c 4
      have c5 := HKS9.out.c 5
      have c6 := HKS9.out.c 6
      have c7 := HKS9.out.c 7
      have c8 := HKS9.out.c 8
      have c9 := HKS9.out.c 9
      have c10 := HKS9.out.c 10
      have c11 := HKS9.out.c 11
      have fzc : ∀ o, w9.frozen? ⟨S, o, none⟩ = false := fun o => HKS9.out.frozen o
      go_upto_region 11 with fail
      clear c0 c1 c2 c3 c4 c5 c6 c7 c8 c9 c10 c11 fzc
      have HO10 := Lib.hid (own_set (own_set (own_set (own_set (own_set (own_set (own_set (own_set (own_set (own_set (own_set (own_set HO9.out (R := S) (by omega) 0 (.slice ad nd cd)) (R := S) (by omega) 1 (.slice ai ni ci)) (R := S) (by omega) 2 (.slice an nn cn)) (R := S) (by omega) 3 (.slice av nv cv)) (R := S) (by omega) 4 (.slice ta L.length tc)) (R := S) (by omega) 5 (.int .i64 (i4 : Int))) (R := S) (by omega) 6 (.int .u32 g)) (R := S) (by omega) 7 (.slice af nf cf)) (R := S) (by omega) 8 (.slice ac nc cc)) (R := S) (by omega) 9 (.slice ao no co)) (R := S) (by omega) 10 (.int .i64 lm)) (R := S) (by omega) 11 (.int .i64 (e4 : Int)))
      have HKS10 := Lib.hid (blk_st12 HKS9.out (.slice ad nd cd) (.slice ai ni ci) (.slice an nn cn) (.slice av nv cv) (.slice ta L.length tc) (.int .i64 (i4 : Int)) (.int .u32 g) (.slice af nf cf) (.slice ac nc cc) (.slice ao no co) (.int .i64 lm) (.int .i64 (e4 : Int)))
      have HKB10 := Lib.hid (blk_far12 HKB9.out (b := S) (by first | omega | exact hFS) (.slice ad nd cd) (.slice ai ni ci) (.slice an nn cn) (.slice av nv cv) (.slice ta L.length tc) (.int .i64 (i4 : Int)) (.int .u32 g) (.slice af nf cf) (.slice ac nc cc) (.slice ao no co) (.int .i64 lm) (.int .i64 (e4 : Int)))
      have HKF10 := Lib.hid (blk_far12 HKF9.out (b := S) (by first | omega | exact hFS) (.slice ad nd cd) (.slice ai ni ci) (.slice an nn cn) (.slice av nv cv) (.slice ta L.length tc) (.int .i64 (i4 : Int)) (.int .u32 g) (.slice af nf cf) (.slice ac nc cc) (.slice ao no co) (.int .i64 lm) (.int .i64 (e4 : Int)))
      have HB10 := Lib.hid (below_st12 HB9.out (b := S) (by have := HSW.out; omega) (.slice ad nd cd) (.slice ai ni ci) (.slice an nn cn) (.slice av nv cv) (.slice ta L.length tc) (.int .i64 (i4 : Int)) (.int .u32 g) (.slice af nf cf) (.slice ac nc cc) (.slice ao no co) (.int .i64 lm) (.int .i64 (e4 : Int)))
      generalize ((((((((((((w9.setCell ⟨S, 0, none⟩ (.slice ad nd cd)).setCell ⟨S, 1, none⟩ (.slice ai ni ci)).setCell ⟨S, 2, none⟩ (.slice an nn cn)).setCell ⟨S, 3, none⟩ (.slice av nv cv)).setCell ⟨S, 4, none⟩ (.slice ta L.length tc)).setCell ⟨S, 5, none⟩ (.int .i64 (i4 : Int))).setCell ⟨S, 6, none⟩ (.int .u32 g)).setCell ⟨S, 7, none⟩ (.slice af nf cf)).setCell ⟨S, 8, none⟩ (.slice ac nc cc)).setCell ⟨S, 9, none⟩ (.slice ao no co)).setCell ⟨S, 10, none⟩ (.int .i64 lm)).setCell ⟨S, 11, none⟩ (.int .i64 (e4 : Int))) = w10 at *
      have q1 := HKF10.out.c 1
      have hsz : S + 3 ≤ w10.heap.size := by have := HKF10.out.lt; have := HFS.out; omega
      go_wp2_with (at_builtin; refine wpList_append_oneG (z := .int .i64 0) (sz := 1) (bytes := 8) info_codes rfl (by decide) Tryz.underlying59 rfl _ _ rfl w10 _ #[.int .i64 n] (S + 3) (.slice xa l.length xc) l.length (l.map (Value.int .i64)) w10.heap.size rfl rfl rfl rfl HO10.out (fun u hu => by simp at hu; subst hu; rfl) (by omega) (by unfold maxLen; omega) hsz ?_)
      intro v' w11 h2 h3 h4
      obtain ⟨xa2, xc2, rfl⟩ := own_form h2
      have HKS11 := Lib.hid (blk_other HKS10.out HO10.out (by decide) h3)
      have HKB11 := Lib.hid (blk_other HKB10.out HO10.out (by decide) h3)
      have HKF11 := Lib.hid (blk_other HKF10.out HO10.out (by decide) h3)
      have HO11 := Lib.hid (own_setb h2 HKF11.out (by decide) 1 (.slice xa2 (l.length + 1) xc2))
      have HB11 := Lib.hid (below_set (below_grown HB10.out h3 (by have := HKS10.out.lt; omega) (fun g hg => by have := own_ge HO10.out g hg; omega)) (p := ⟨F, 1, none⟩) (by have := HFS.out; show S ≤ F; omega) (.slice xa2 (l.length + 1) xc2))
      clear h2 h3 h4 q1
      have q1 := HKF11.out.c 1
      have qf : ∀ o, w11.frozen? ⟨F, o, none⟩ = false := fun o => HKF11.out.frozen o
      go_upto_region 12 with fail
      clear q1 qf
      have HKS12 := Lib.hid (HKS11.out.far (p := ⟨F, 1, none⟩) (by exact hSF) (.slice xa2 (l.length + 1) xc2))
      have HKB12 := Lib.hid (HKB11.out.far (p := ⟨F, 1, none⟩) (by have := HFS.out; show S + 1 ≠ F; omega) (.slice xa2 (l.length + 1) xc2))
      have HKF12 := Lib.hid (HKF11.out.set_ 1 (.slice xa2 (l.length + 1) xc2))
      generalize w11.setCell ⟨F, 1, none⟩ (.slice xa2 (l.length + 1) xc2) = w12 at *
      have c0 := HKS12.out.c 0
      have c1 := HKS12.out.c 1
      have c2 := HKS12.out.c 2
      have c3 := HKS12.out.c 3
      have c4 := HKS12.out.c 4
      have c5 := HKS12.out.c 5
      have c6 := HKS12.out.c 6
      have c7 := HKS12.out.c 7
      have c8 := HKS12.out.c 8
      have c9 := HKS12.out.c 9
      have c10 := HKS12.out.c 10
      have c11 := HKS12.out.c 11
      go_wp2_with fail
      refine (HI4.out _ HB11.out).mono ?_; rintro e w13 ⟨rfl, hb13⟩
      have HB13 := Lib.hid (HB11.out.trans (hb13.mono (by have := HKS12.out.lt; omega)))
      have HKS13 := Lib.hid (HKS12.out.below hb13 HKS12.out.lt)
      have HKB13 := Lib.hid (HKB12.out.below hb13 HKB12.out.lt)
      have HKF13 := Lib.hid (HKF12.out.below hb13 HKF12.out.lt)
      have HO13 := Lib.hid (own_below HO11.out hb13 (Nat.le_refl _))
      clear hb13
      clear c0 c1 c2 c3 c4 c5 c6 c7 c8 c9 c10 c11
      have HLN : Hid (∀ y ∈ l ++ [n], I64 y) := Lib.hid (fun y hy => by
       rcases List.mem_append.1 hy with hy | hy
       ·exact HL.out y hy
       ·rw [List.mem_singleton.1 hy]; exact i64_small HN4.out.2.2.2.1 (by have := HN4.out.2.2.2.2; omega))
      have HON' : Hid (w13.ownsRow (S + 3) 3 1 (.slice xa2 (l ++ [n]).length xc2) (l ++ [n]).length ((l ++ [n]).map (Value.int .i64))) := Lib.hid (by
       rw [List.map_append, List.length_append]; exact HO13.out)
      have HLL : Hid ((l ++ [n]).length = l.length + 1) := Lib.hid (by simp)
      rcases b4 with _ | _
      ·go_wp2_with fail
       go_roundg gk2
       case measure => have := HGK.out; omega
       case rel =>
        refine ⟨i4, e4, l ++ [n], false, xa2, xc2, n, rfl, rfl, HZ4.out, HN4.out.1, fun he => ?_, HLN.out, HON'.out, HKS13.out, HKB13.out, by rw [HLL.out]; exact HKF13.out, HB13.out⟩
        obtain ⟨k1, k2⟩ := HN4.out.2.2.1 he
        obtain ⟨k3, k4⟩ := HF.out k1
        exact ⟨k3, by omega⟩
      ·have HW5 := Lib.hid (HW4.out HB4'.out)
       have c0 := HKS13.out.c 0
       have c1 := HKS13.out.c 1
       have c2 := HKS13.out.c 2
       have c3 := HKS13.out.c 3
       have c4 := HKS13.out.c 4
       have c5 := HKS13.out.c 5
       have c6 := HKS13.out.c 6
       have c7 := HKS13.out.c 7
       have c8 := HKS13.out.c 8
       have c9 := HKS13.out.c 9
       have c10 := HKS13.out.c 10
       have c11 := HKS13.out.c 11
       have fzc : ∀ o, w13.frozen? ⟨S, o, none⟩ = false := fun o => HKS13.out.frozen o
       go_wp2_with fail
       refine (HON4.out _).mono ?_; rintro e w14 ⟨rfl, hb14⟩
       have HB14 := Lib.hid (HB13.out.trans (hb14.mono (by have := HKS13.out.lt; omega)))
       have HKS14 := Lib.hid (HKS13.out.below hb14 HKS13.out.lt)
       have HKB14 := Lib.hid (HKB13.out.below hb14 HKB13.out.lt)
       have HKF14 := Lib.hid (HKF13.out.below hb14 HKF13.out.lt)
       have HO14 := Lib.hid (own_below HON'.out hb14 (Nat.le_refl _))
       clear hb14
       clear c0 c1 c2 c3 c4 c5 c6 c7 c8 c9 c10 c11 fzc
       dsimp only
       have c0 := HKS14.out.c 0
       have c1 := HKS14.out.c 1
       have c2 := HKS14.out.c 2
       have c3 := HKS14.out.c 3
       have c4 := HKS14.out.c 4
       have c5 := HKS14.out.c 5
       have c6 := HKS14.out.c 6
       have c7 := HKS14.out.c 7
       have c8 := HKS14.out.c 8
       have c9 := HKS14.out.c 9
       have c10 := HKS14.out.c 10
       have c11 := HKS14.out.c 11
       have fzc : ∀ o, w14.frozen? ⟨S, o, none⟩ = false := fun o => HKS14.out.frozen o
       go_wp2_with fail
       clear c0 c1 c2 c3 c4 c5 c6 c7 c8 c9 c10 c11 fzc
       have HO15 := Lib.hid (own_set (own_set (own_set (own_set (own_set (own_set (own_set (own_set (own_set (own_set (own_set (own_set HO14.out (R := S) (by omega) 0 (.slice ad nd cd)) (R := S) (by omega) 1 (.slice ai ni ci)) (R := S) (by omega) 2 (.slice an nn cn)) (R := S) (by omega) 3 (.slice av nv cv)) (R := S) (by omega) 4 (.slice ta L.length tc)) (R := S) (by omega) 5 (.int .i64 ((i4 : Int) + 1))) (R := S) (by omega) 6 (.int .u32 g)) (R := S) (by omega) 7 (.slice af nf cf)) (R := S) (by omega) 8 (.slice ac nc cc)) (R := S) (by omega) 9 (.slice ao no co)) (R := S) (by omega) 10 (.int .i64 lm)) (R := S) (by omega) 11 (.int .i64 (e4 : Int)))
       have HKS15 := Lib.hid (blk_st12 HKS14.out (.slice ad nd cd) (.slice ai ni ci) (.slice an nn cn) (.slice av nv cv) (.slice ta L.length tc) (.int .i64 ((i4 : Int) + 1)) (.int .u32 g) (.slice af nf cf) (.slice ac nc cc) (.slice ao no co) (.int .i64 lm) (.int .i64 (e4 : Int)))
       have HKB15 := Lib.hid (blk_far12 HKB14.out (b := S) (by first | omega | exact hFS) (.slice ad nd cd) (.slice ai ni ci) (.slice an nn cn) (.slice av nv cv) (.slice ta L.length tc) (.int .i64 ((i4 : Int) + 1)) (.int .u32 g) (.slice af nf cf) (.slice ac nc cc) (.slice ao no co) (.int .i64 lm) (.int .i64 (e4 : Int)))
       have HKF15 := Lib.hid (blk_far12 HKF14.out (b := S) (by first | omega | exact hFS) (.slice ad nd cd) (.slice ai ni ci) (.slice an nn cn) (.slice av nv cv) (.slice ta L.length tc) (.int .i64 ((i4 : Int) + 1)) (.int .u32 g) (.slice af nf cf) (.slice ac nc cc) (.slice ao no co) (.int .i64 lm) (.int .i64 (e4 : Int)))
       have HB15 := Lib.hid (below_st12 HB14.out (b := S) (by have := HSW.out; omega) (.slice ad nd cd) (.slice ai ni ci) (.slice an nn cn) (.slice av nv cv) (.slice ta L.length tc) (.int .i64 ((i4 : Int) + 1)) (.int .u32 g) (.slice af nf cf) (.slice ac nc cc) (.slice ao no co) (.int .i64 lm) (.int .i64 (e4 : Int)))
       generalize ((((((((((((w14.setCell ⟨S, 0, none⟩ (.slice ad nd cd)).setCell ⟨S, 1, none⟩ (.slice ai ni ci)).setCell ⟨S, 2, none⟩ (.slice an nn cn)).setCell ⟨S, 3, none⟩ (.slice av nv cv)).setCell ⟨S, 4, none⟩ (.slice ta L.length tc)).setCell ⟨S, 5, none⟩ (.int .i64 ((i4 : Int) + 1))).setCell ⟨S, 6, none⟩ (.int .u32 g)).setCell ⟨S, 7, none⟩ (.slice af nf cf)).setCell ⟨S, 8, none⟩ (.slice ac nc cc)).setCell ⟨S, 9, none⟩ (.slice ao no co)).setCell ⟨S, 10, none⟩ (.int .i64 lm)).setCell ⟨S, 11, none⟩ (.int .i64 (e4 : Int))) = w15 at *
       go_roundg gk2
       case measure => have := HGK.out; omega
       case rel =>
        refine ⟨i4 + 1, e4, l ++ [n], true, xa2, xc2, n, rfl, rfl, ?_, HW5.out.2, fun he => ?_, HLN.out, HO15.out, HKS15.out, HKB15.out, by rw [HLL.out]; exact HKF15.out, HB15.out⟩
        ·rw [if_pos (show true = true from rfl)]
         obtain ⟨k1, k2⟩ := HN4.out.2.2.1 HW5.out.1
         refine ⟨HZ4.out, ?_, ?_⟩
         ·have := HBD.out.1; have := HGK.out; (try dsimp only at *); omega
         ·have := HBD.out.2; have := HGK.out; rw [HLL.out]; omega
        ·obtain ⟨k1, k2⟩ := HN4.out.2.2.1 he
         obtain ⟨k3, k4⟩ := HF.out k1
         exact ⟨k3, by (try dsimp only at *); omega⟩
     ·have HZE : Hid (((⟨j, ⟨g, fq, cq, oq, lm⟩, f⟩ : PState), l) = Z) := Lib.hid (by rw [← HZZ.out.1]; exact (codes_stuck hf0 _ _).symm)
      have t0 : ((f : Int) == 0) = false := by simp; omega
      clear hf0
      have c0 := HKS8.out.c 0
      have c1 := HKS8.out.c 1
      have c2 := HKS8.out.c 2
      have c3 := HKS8.out.c 3
      have c4 := HKS8.out.c 4
      have c5 := HKS8.out.c 5
      have c6 := HKS8.out.c 6
      have c7 := HKS8.out.c 7
      have c8 := HKS8.out.c 8
      have c9 := HKS8.out.c 9
      have c10 := HKS8.out.c 10
      have c11 := HKS8.out.c 11
      have fzc : ∀ o, wr.frozen? ⟨S, o, none⟩ = false := fun o => HKS8.out.frozen o
      obtain ⟨p5, hp5⟩ : ∃ x, wantR L ⟨j, ⟨g, fq, cq, oq, lm⟩, f⟩ [41] = x := ⟨_, rfl⟩
      have HW5 := Lib.hid (HWN.out ⟨j, ⟨g, fq, cq, oq, lm⟩, f⟩ HJ.out [41])
      have HWA5 := Lib.hid (fun w' hb => HWA.out ⟨j, ⟨g, fq, cq, oq, lm⟩, f⟩ HJ.out w' hb ⟨#[41]⟩ [41] rfl)
      rw [hp5] at HW5 HWA5
      have HP5 := Lib.hid hp5
      clear hp5
      have hq5 := HW5.out.2.1
      obtain ⟨i5, q5, e5⟩ := p5
      dsimp only at hq5
      subst hq5
      (try dsimp only at *)
      have HRX : Hid (r = ⟨i5, ⟨g, fq ++ [((d : Int), l)], cq, oq, lm⟩, e5⟩) := Lib.hid (by
       rw [HCX.out, ← HZE.out]
       dsimp only
       rw [HP5.out])
      go_wp2_with fail
      refine (HWA5.out _ HB8.out).mono ?_; rintro e w9 ⟨rfl, hb9⟩
      have HB9 := Lib.hid (HB8.out.trans (hb9.mono (by have := HKS8.out.lt; omega)))
      have HKS9 := Lib.hid (HKS8.out.below hb9 HKS8.out.lt)
      have HKB9 := Lib.hid (HKB8.out.below hb9 HKB8.out.lt)
      have HKF9 := Lib.hid (HKF8.out.below hb9 HKF8.out.lt)
      have HO9 := Lib.hid (own_below HO.out hb9 (Nat.le_refl _))
      clear hb9
      clear c0 c1 c2 c3 c4 c5 c6 c7 c8 c9 c10 c11 fzc
      dsimp only
      have c0 := HKS9.out.c 0
      have c1 := HKS9.out.c 1
      have c2 := HKS9.out.c 2
      have c3 := HKS9.out.c 3
      have c4 := HKS9.out.c 4
      have c5 := HKS9.out.c 5
      have c6 := HKS9.out.c 6
      have c7 := HKS9.out.c 7
      have c8 := HKS9.out.c 8
      have c9 := HKS9.out.c 9
      have c10 := HKS9.out.c 10
      have c11 := HKS9.out.c 11
      have fzc : ∀ o, w9.frozen? ⟨S, o, none⟩ = false := fun o => HKS9.out.frozen o
      go_wp2_with fail
      clear c0 c1 c2 c3 c4 c5 c6 c7 c8 c9 c10 c11 fzc
      have HO10 := Lib.hid (own_set (own_set (own_set (own_set (own_set (own_set (own_set (own_set (own_set (own_set (own_set (own_set HO9.out (R := S) (by omega) 0 (.slice ad nd cd)) (R := S) (by omega) 1 (.slice ai ni ci)) (R := S) (by omega) 2 (.slice an nn cn)) (R := S) (by omega) 3 (.slice av nv cv)) (R := S) (by omega) 4 (.slice ta L.length tc)) (R := S) (by omega) 5 (.int .i64 (i5 : Int))) (R := S) (by omega) 6 (.int .u32 g)) (R := S) (by omega) 7 (.slice af nf cf)) (R := S) (by omega) 8 (.slice ac nc cc)) (R := S) (by omega) 9 (.slice ao no co)) (R := S) (by omega) 10 (.int .i64 lm)) (R := S) (by omega) 11 (.int .i64 (e5 : Int)))
      have HKS10 := Lib.hid (blk_st12 HKS9.out (.slice ad nd cd) (.slice ai ni ci) (.slice an nn cn) (.slice av nv cv) (.slice ta L.length tc) (.int .i64 (i5 : Int)) (.int .u32 g) (.slice af nf cf) (.slice ac nc cc) (.slice ao no co) (.int .i64 lm) (.int .i64 (e5 : Int)))
      have HKB10 := Lib.hid (blk_far12 HKB9.out (b := S) (by first | omega | exact hFS) (.slice ad nd cd) (.slice ai ni ci) (.slice an nn cn) (.slice av nv cv) (.slice ta L.length tc) (.int .i64 (i5 : Int)) (.int .u32 g) (.slice af nf cf) (.slice ac nc cc) (.slice ao no co) (.int .i64 lm) (.int .i64 (e5 : Int)))
      have HKF10 := Lib.hid (blk_far12 HKF9.out (b := S) (by first | omega | exact hFS) (.slice ad nd cd) (.slice ai ni ci) (.slice an nn cn) (.slice av nv cv) (.slice ta L.length tc) (.int .i64 (i5 : Int)) (.int .u32 g) (.slice af nf cf) (.slice ac nc cc) (.slice ao no co) (.int .i64 lm) (.int .i64 (e5 : Int)))
      have HB10 := Lib.hid (below_st12 HB9.out (b := S) (by have := HSW.out; omega) (.slice ad nd cd) (.slice ai ni ci) (.slice an nn cn) (.slice av nv cv) (.slice ta L.length tc) (.int .i64 (i5 : Int)) (.int .u32 g) (.slice af nf cf) (.slice ac nc cc) (.slice ao no co) (.int .i64 lm) (.int .i64 (e5 : Int)))
      generalize ((((((((((((w9.setCell ⟨S, 0, none⟩ (.slice ad nd cd)).setCell ⟨S, 1, none⟩ (.slice ai ni ci)).setCell ⟨S, 2, none⟩ (.slice an nn cn)).setCell ⟨S, 3, none⟩ (.slice av nv cv)).setCell ⟨S, 4, none⟩ (.slice ta L.length tc)).setCell ⟨S, 5, none⟩ (.int .i64 (i5 : Int))).setCell ⟨S, 6, none⟩ (.int .u32 g)).setCell ⟨S, 7, none⟩ (.slice af nf cf)).setCell ⟨S, 8, none⟩ (.slice ac nc cc)).setCell ⟨S, 9, none⟩ (.slice ao no co)).setCell ⟨S, 10, none⟩ (.int .i64 lm)).setCell ⟨S, 11, none⟩ (.int .i64 (e5 : Int))) = w10 at *
      go_meet
      refine ⟨i5, e5, l, xa, xc, HRX.out, HW5.out.1, fun he => ?_, HL.out, HO10.out, HKS10.out, HKB10.out, HKF10.out, HB10.out⟩
      obtain ⟨k1, k2⟩ := HW5.out.2.2 he
      obtain ⟨k3, k4⟩ := HF.out k1
      obtain ⟨k5, k6⟩ := HW3.out.2.2 k3
      obtain ⟨k7, k8⟩ := HW2.out.2.2 k5
      obtain ⟨k9, k10, -⟩ := HDN.out.2.2.1 k7
      (try dsimp only at *)
      omega
  ·obtain ⟨he1, hi1⟩ := word_at HG.out HV.out
   have HE1 := Lib.hid he1
   have HI1 := Lib.hid hi1
   clear he1 hi1
   obtain ⟨⟨p3, n⟩, hp3⟩ : ∃ x, numTR L ⟨i1 + 1, ⟨g, fq, cq, oq, lm⟩, e1⟩ = x := ⟨_, rfl⟩
   have HN3 := Lib.hid (HNN.out ⟨i1 + 1, ⟨g, fq, cq, oq, lm⟩, e1⟩ HI1.out)
   have HNU3 := Lib.hid (fun w' hb => HNU.out ⟨i1 + 1, ⟨g, fq, cq, oq, lm⟩, e1⟩ HI1.out w' hb)
   have HON1 := Lib.hid (HON.out ⟨i1, ⟨g, fq, cq, oq, lm⟩, e1⟩ HDN.out.1)
   rw [hp3] at HN3 HNU3
   have HP3 := Lib.hid hp3
   clear hp3
   have hq3 := HN3.out.2.1
   obtain ⟨i3, q3, e3⟩ := p3
   dsimp only at hq3
   subst hq3
   dsimp only at *
   have HCX : Hid (r = ⟨i3, ⟨g, fq ++ [((d : Int), [n])], cq, oq, lm⟩, e3⟩) := Lib.hid (by
    rw [HCR1.out, HV.out, if_pos rfl]
    dsimp only [onR]
    rw [HP3.out])
   have c0 := HKS3.out.c 0
   have c1 := HKS3.out.c 1
   have c2 := HKS3.out.c 2
   have c3 := HKS3.out.c 3
   have c4 := HKS3.out.c 4
   have c5 := HKS3.out.c 5
   have c6 := HKS3.out.c 6
   have c7 := HKS3.out.c 7
   have c8 := HKS3.out.c 8
   have c9 := HKS3.out.c 9
   have c10 := HKS3.out.c 10
   have c11 := HKS3.out.c 11
   have fzc : ∀ o, w3.frozen? ⟨S, o, none⟩ = false := fun o => HKS3.out.frozen o
   go_wp2_with fail
   refine (HON1.out _).mono ?_; rintro e w4 ⟨rfl, hb4⟩
   have HB4 := Lib.hid (HB3.out.trans (hb4.mono (by have := HKS3.out.lt; omega)))
   have HKS4 := Lib.hid (HKS3.out.below hb4 HKS3.out.lt)
   have HKB4 := Lib.hid (HKB3.out.below hb4 HKB3.out.lt)
   have HKF4 := Lib.hid (HKF3.out.below hb4 HKF3.out.lt)
   clear hb4
   clear c0 c1 c2 c3 c4 c5 c6 c7 c8 c9 c10 c11 fzc
   dsimp only
   go_wp2_with fail
   refine (HNU3.out _ HB4.out).mono ?_; rintro e w5 ⟨rfl, hb5⟩
   have HB5 := Lib.hid (HB4.out.trans (hb5.mono (by have := HKS4.out.lt; omega)))
   have HKS5 := Lib.hid (HKS4.out.below hb5 HKS4.out.lt)
   have HKB5 := Lib.hid (HKB4.out.below hb5 HKB4.out.lt)
   have HKF5 := Lib.hid (HKF4.out.below hb5 HKF4.out.lt)
   clear hb5
   dsimp only
   have c0 := HKS5.out.c 0
   have c1 := HKS5.out.c 1
   have c2 := HKS5.out.c 2
   have c3 := HKS5.out.c 3
   have c4 := HKS5.out.c 4
   have c5 := HKS5.out.c 5
   have c6 := HKS5.out.c 6
   have c7 := HKS5.out.c 7
   have c8 := HKS5.out.c 8
   have c9 := HKS5.out.c 9
   have c10 := HKS5.out.c 10
   have c11 := HKS5.out.c 11
   have fzc : ∀ o, w5.frozen? ⟨S, o, none⟩ = false := fun o => HKS5.out.frozen o
   go_upto_region 6 with fail
   clear c0 c1 c2 c3 c4 c5 c6 c7 c8 c9 c10 c11 fzc
   have HKS6 := Lib.hid (blk_st12 HKS5.out (.slice ad nd cd) (.slice ai ni ci) (.slice an nn cn) (.slice av nv cv) (.slice ta L.length tc) (.int .i64 (i3 : Int)) (.int .u32 g) (.slice af nf cf) (.slice ac nc cc) (.slice ao no co) (.int .i64 lm) (.int .i64 (e3 : Int)))
   have HKB6 := Lib.hid (blk_far12 HKB5.out (b := S) (by first | omega | exact hFS) (.slice ad nd cd) (.slice ai ni ci) (.slice an nn cn) (.slice av nv cv) (.slice ta L.length tc) (.int .i64 (i3 : Int)) (.int .u32 g) (.slice af nf cf) (.slice ac nc cc) (.slice ao no co) (.int .i64 lm) (.int .i64 (e3 : Int)))
   have HKF6 := Lib.hid (blk_far12 HKF5.out (b := S) (by first | omega | exact hFS) (.slice ad nd cd) (.slice ai ni ci) (.slice an nn cn) (.slice av nv cv) (.slice ta L.length tc) (.int .i64 (i3 : Int)) (.int .u32 g) (.slice af nf cf) (.slice ac nc cc) (.slice ao no co) (.int .i64 lm) (.int .i64 (e3 : Int)))
   have HB6 := Lib.hid (below_st12 HB5.out (b := S) (by have := HSW.out; omega) (.slice ad nd cd) (.slice ai ni ci) (.slice an nn cn) (.slice av nv cv) (.slice ta L.length tc) (.int .i64 (i3 : Int)) (.int .u32 g) (.slice af nf cf) (.slice ac nc cc) (.slice ao no co) (.int .i64 lm) (.int .i64 (e3 : Int)))
   generalize ((((((((((((w5.setCell ⟨S, 0, none⟩ (.slice ad nd cd)).setCell ⟨S, 1, none⟩ (.slice ai ni ci)).setCell ⟨S, 2, none⟩ (.slice an nn cn)).setCell ⟨S, 3, none⟩ (.slice av nv cv)).setCell ⟨S, 4, none⟩ (.slice ta L.length tc)).setCell ⟨S, 5, none⟩ (.int .i64 (i3 : Int))).setCell ⟨S, 6, none⟩ (.int .u32 g)).setCell ⟨S, 7, none⟩ (.slice af nf cf)).setCell ⟨S, 8, none⟩ (.slice ac nc cc)).setCell ⟨S, 9, none⟩ (.slice ao no co)).setCell ⟨S, 10, none⟩ (.int .i64 lm)).setCell ⟨S, 11, none⟩ (.int .i64 (e3 : Int))) = w6 at *
   have q1 : w6.cell? ⟨F, 1, none⟩ = some (.slice none 0 0) := HKF6.out.cell 1
   have qf : ∀ o, w6.frozen? ⟨F, o, none⟩ = false := fun o => HKF6.out.frozen o
   have hFl : F < w6.heap.size := HKF6.out.lt
   go_wp2_with fail
   go_meet
   have hos := own_one (w6.setCell ⟨F, 1, none⟩ (.slice (some ⟨w6.heap.size, 0, none⟩) 1 1)) (S + 3) 3 (.int .i64 n) (by rw [World.size_setCell]; have := HFS.out; omega)
   rw [World.size_setCell] at hos
   refine ⟨i3, e3, [n], some ⟨w6.heap.size, 0, none⟩, 1, HCX.out, HN3.out.1, fun he => ?_, fun y hy => ?_, hos, (HKS6.out.far (p := ⟨F, 1, none⟩) (by exact hSF) _).alloc _, (HKB6.out.far (p := ⟨F, 1, none⟩) (by have := HFS.out; show S + 1 ≠ F; omega) _).alloc _, (HKF6.out.set_ 1 _).alloc _, (below_set HB6.out (p := ⟨F, 1, none⟩) (by have := HFS.out; show S ≤ F; omega) _).alloc (by have := HKS6.out.lt; rw [World.size_setCell]; omega) _⟩
   ·obtain ⟨k1, k2⟩ := HN3.out.2.2.1 he
    obtain ⟨k3, k4, -⟩ := HDN.out.2.2.1 HE1.out
    (try dsimp only at *)
    omega
   ·rw [List.mem_singleton.1 hy]; exact i64_small HN3.out.2.2.2.1 (by have := HN3.out.2.2.2.2; omega)
 case rest =>
  obtain ⟨i3, e3, l, xa, xc, hr, hi3, he3, hli, hox, hka, hkb, hkt, hb⟩ := hcut
  obtain ⟨w5, rfl⟩ : ∃ x, x = wc := ⟨_, rfl⟩
  have HRR := Lib.hid hr
  have HI3 := Lib.hid hi3
  have HE3 := Lib.hid he3
  have HLI := Lib.hid hli
  have HOX := Lib.hid hox
  have HKS := Lib.hid hka
  have HKB5 := Lib.hid hkb
  have HKT := Lib.hid hkt
  have HB5 := Lib.hid hb
  have HDD : Hid (I64 (d : Int)) := Lib.hid (i64_small (by omega) (by have h1 := HDN.out.2.2.2; have h2 := HDL.out; omega))
  have HNF : Hid (fl.length = nf) := Lib.hid HST.out.q.1.2.1
  have HFL : Hid (fl.length = fq.length) := Lib.hid (by have := congrArg List.length HST.out.fs; simpa using this)
  have hnf : nf ≤ 1001 := by have h1 := (HST.out.len H0.out).2.2; have h2 := HST.out.at'; have h3 := HNF.out; have h4 := HFL.out; dsimp only at *; omega
  have HOLD : Hid (∀ w', Below w5.heap.size w5 w' → RowG 2 w' af nf cf (fltCells fl)) := Lib.hid (fun w' hbb => HST.out.q.1.1.below (HB5.out.trans (hbb.mono (by have := HKS.out.lt; omega))) (Nat.le_of_eq HSW.out))
  have HONE := Lib.hid (fltCells_one fl)
  clear hr hi3 he3 hli hox hka hkb hkt hb
  go_upto_region 16 with fail
  go_cut [] (fun wx => ∃ ra rc, Blk wx S 122 #[.slice ad nd cd, .slice ai ni ci, .slice an nn cn, .slice av nv cv, .slice ta L.length tc, .int .i64 (i3 : Int), .int .u32 g, .slice ra (nf + 1) rc, .slice ac nc cc, .slice ao no co, .int .i64 lm, .int .i64 (e3 : Int)] ∧ Blk wx (S + 1) 122 #[.slice none 0 0, .slice none 0 0, .slice none 0 0, .slice none 0 0, .slice none 0 0, .int .i64 0, .int .u32 0, .slice none 0 0, .slice none 0 0, .slice none 0 0, .int .i64 0, .int .i64 0] ∧ wx.ownsRow (S + 2) 61 2 (.slice ra (nf + 1) rc) (nf + 1) (fltCells fl ++ [.int .i64 (d : Int), .slice xa l.length xc]) ∧ wx.ownsRow (S + 3) 3 1 (.slice xa l.length xc) l.length (l.map (Value.int .i64)) ∧ Below S w wx)
  case first =>
   have HS0 := Lib.hid (HKS.out).drew
   have HE0 := Lib.hid (HKT.out).drew
   have HOR0 : Hid (∀ w', Below w5.drew.heap.size w5.drew w' → RowG 2 w' af nf cf (fltCells fl)) := Lib.hid (fun w' hb => HOLD.out w' (((Below.refl _ _).drew).trans hb))
   have hBS : S < w5.drew.heap.size := HS0.out.lt
   have hBE : F < w5.drew.heap.size := HE0.out.lt
   refine wp_regionN (fun w' => Blk w' S 122 #[.slice ad nd cd, .slice ai ni ci, .slice an nn cn, .slice av nv cv, .slice ta L.length tc, .int .i64 (i3 : Int), .int .u32 g, .slice af nf cf, .slice ac nc cc, .slice ao no co, .int .i64 lm, .int .i64 (e3 : Int)] ∧ Blk w' F 61 #[.int .i64 (d : Int), .slice xa l.length xc]) [10] (by kernel_rfl) (by exact ⟨HS0.out, HE0.out⟩) (fun hHeld => ?_)
   refine wpAnyN_t 1 ⟨some 55, _, _, _, _, _⟩ ?_ rfl ?_ ?_
   rotate_left 1
   ·(intro w hSw; obtain ⟨u0, u1, u2, u3, u4, u5, u6, u7, u8, u9, u10, u11⟩ := blk12 hSw.1; have v0 : w.cell? ⟨F, 0, none⟩ = some (.int .i64 (d : Int)) := hSw.2.cell 0; have v1 : w.cell? ⟨F, 1, none⟩ = some (.slice xa l.length xc) := hSw.2.cell 1; go_simp; try with_reducible rfl)
   try simp only [Act.put, putA, putB, putC]
   refine wpAnyN_t 2 ⟨some 56, _, _, _, _, _⟩ ?_ rfl ?_ ?_
   rotate_left 1
   ·(intro w hSw; obtain ⟨u0, u1, u2, u3, u4, u5, u6, u7, u8, u9, u10, u11⟩ := blk12 hSw.1; have v0 : w.cell? ⟨F, 0, none⟩ = some (.int .i64 (d : Int)) := hSw.2.cell 0; have v1 : w.cell? ⟨F, 1, none⟩ = some (.slice xa l.length xc) := hSw.2.cell 1; go_simp; try with_reducible rfl)
   try simp only [Act.put, putA, putB, putC]
   refine wpAnyN_t 3 ⟨some 57, _, _, _, _, _⟩ ?_ rfl ?_ ?_
   rotate_left 1
   ·(intro w hSw; obtain ⟨u0, u1, u2, u3, u4, u5, u6, u7, u8, u9, u10, u11⟩ := blk12 hSw.1; have v0 : w.cell? ⟨F, 0, none⟩ = some (.int .i64 (d : Int)) := hSw.2.cell 0; have v1 : w.cell? ⟨F, 1, none⟩ = some (.slice xa l.length xc) := hSw.2.cell 1; go_simp; try with_reducible rfl)
   try simp only [Act.put, putA, putB, putC]
   refine wpAnyN_t 5 ⟨some 59, _, _, _, _, _⟩ ?_ rfl ?_ ?_
   rotate_left 1
   ·(intro w hSw; obtain ⟨u0, u1, u2, u3, u4, u5, u6, u7, u8, u9, u10, u11⟩ := blk12 hSw.1; have v0 : w.cell? ⟨F, 0, none⟩ = some (.int .i64 (d : Int)) := hSw.2.cell 0; have v1 : w.cell? ⟨F, 1, none⟩ = some (.slice xa l.length xc) := hSw.2.cell 1; go_simp; try with_reducible rfl)
   try simp only [Act.put, putA, putB, putC]
   have HB0R := Lib.hid (Below.refl w5.drew.heap.size w5.drew)
   refine wpAnyN_both (i := 0) (j := 6) (o := ⟨some 54, _, _, _, _, _⟩) (p := ⟨some 60, _, _, _, _, _⟩) (by kernel_rfl) rfl rfl (fun K hK => ?_) (fun K hK => ?_)
   ·go_simp
    have HO0 : Hid ((w5.drew.alloc (.cells #[] 61)).ownsRow w5.drew.heap.size 61 2 (.slice (some ⟨w5.heap.size, 0, none⟩) 0 0) 0 []) := Lib.hid (by have h := own_none w5.drew 61 _ HB0R.out.size; exact h)
    have HB_0 := Lib.hid (HB0R.out.alloc HB0R.out.size (.cells #[] 61))
    refine hK.out _ _ (by exact ⟨HS0.out.below HB_0.out hBS, HE0.out.below HB_0.out hBE⟩) ?_
    clear hK K hHeld
    intro hHeld
    try simp only [Act.put, putA, putB, putC]
    refine wpAnyN_both (i := 4) (j := 6) (o := ⟨some 58, _, _, _, _, _⟩) (p := ⟨some 60, _, _, _, _, _⟩) (by kernel_rfl) rfl rfl (fun K hK => ?_) (fun K hK => ?_)
    ·refine step_append_rowG (z := .agg #[.int .i64 0, .slice none 0 0]) (sz := 2) (bytes := 32) info_flt rfl (by decide) Tryz.underlying28 rfl _ _ (by rfl) _ w5.drew.heap.size _ 0 [] af nf cf (fltCells fl) (by rfl) (by rfl) HO0.out (HOR0.out _ HB_0.out) HONE.out (by omega) (by unfold maxLen; omega) HB_0.out.size ?_
     intro v1 x1 h2 h3 h4
     rw [Nat.zero_add, List.nil_append] at h2
     have HO1 := Lib.hid h2
     have HB_1 := Lib.hid (h4 _ HB_0.out)
     clear h2 h3 h4
     refine hK.out _ _ (by exact ⟨HS0.out.below HB_1.out hBS, HE0.out.below HB_1.out hBE⟩) ?_
     clear hK K hHeld
     intro hHeld
     try simp only [Act.put, putA, putB, putC]
     refine wpAnyN_one (i := 6) (o := ⟨some 60, _, _, _, _, _⟩) (by kernel_rfl) rfl (fun K hK => ?_)
     go_simp
     have HL2 : Hid (RowG 2 (x1.alloc (.cells #[.int .i64 (d : Int), .slice xa l.length xc] 61)) (some ⟨x1.heap.size, 0, none⟩) 1 1 [.int .i64 (d : Int), .slice xa l.length xc]) := Lib.hid (by have h := row_elem x1 61 (.int .i64 (d : Int)) (.slice xa l.length xc); exact h)
     have HB_2 := Lib.hid (HB_1.out.alloc HB_1.out.size (.cells #[.int .i64 (d : Int), .slice xa l.length xc] 61))
     have HO2 := Lib.hid (World.ownsRow.alloc HO1.out (.cells #[.int .i64 (d : Int), .slice xa l.length xc] 61))
     refine hK.out _ _ (by exact ⟨HS0.out.below HB_2.out hBS, HE0.out.below HB_2.out hBE⟩) ?_
     clear hK K hHeld
     intro hHeld
     try simp only [Act.put, putA, putB, putC]
     refine wpAnyN_one (i := 7) (o := ⟨some 61, _, _, _, _, _⟩) (by kernel_rfl) rfl (fun K hK => ?_)
     refine step_append_rowG (z := .agg #[.int .i64 0, .slice none 0 0]) (sz := 2) (bytes := 32) info_flt rfl (by decide) Tryz.underlying28 rfl _ _ (by rfl) _ w5.drew.heap.size _ nf (fltCells fl) (some ⟨x1.heap.size, 0, none⟩) 1 1 [.int .i64 (d : Int), .slice xa l.length xc] (by rfl) (by rfl) HO2.out HL2.out (by intro u hu; simp at hu; rcases hu with rfl | rfl <;> rfl) (by omega) (by unfold maxLen; omega) HB_2.out.size ?_
     intro v3 x3 h2 h3 h4
     obtain ⟨ra, rc, rfl⟩ := own_form h2
     have HRF := Lib.hid h2
     have HB_3 := Lib.hid (h4 _ HB_2.out)
     clear h2 h3 h4
     refine hK.out _ _ (by exact ⟨HS0.out.below HB_3.out hBS, HE0.out.below HB_3.out hBE⟩) ?_
     clear hK K hHeld
     intro hHeld
     try simp only [Act.put, putA, putB, putC]
     refine wpAnyN_t 8 ⟨some 62, _, _, _, _, _⟩ ?_ rfl ?_ ?_
     rotate_left 1
     ·(intro w hSw; obtain ⟨u0, u1, u2, u3, u4, u5, u6, u7, u8, u9, u10, u11⟩ := blk12 hSw.1; have v0 : w.cell? ⟨F, 0, none⟩ = some (.int .i64 (d : Int)) := hSw.2.cell 0; have v1 : w.cell? ⟨F, 1, none⟩ = some (.slice xa l.length xc) := hSw.2.cell 1; go_simp; try with_reducible rfl)
     try simp only [Act.put, putA, putB, putC]
     refine wpAnyN_t 9 ⟨some 63, _, _, _, _, _⟩ ?_ rfl ?_ ?_
     rotate_left 1
     ·(intro w hSw; obtain ⟨u0, u1, u2, u3, u4, u5, u6, u7, u8, u9, u10, u11⟩ := blk12 hSw.1; have v0 : w.cell? ⟨F, 0, none⟩ = some (.int .i64 (d : Int)) := hSw.2.cell 0; have v1 : w.cell? ⟨F, 1, none⟩ = some (.slice xa l.length xc) := hSw.2.cell 1; go_simp; try with_reducible rfl)
     try simp only [Act.put, putA, putB, putC]
     refine wpAnyN_late (i := 10) (o := ⟨none, _, _, _, _, _⟩) (by kernel_rfl) (by kernel_rfl) rfl (fun K hK => ?_)
     obtain ⟨u0, u1, u2, u3, u4, u5, u6, u7, u8, u9, u10, u11⟩ := blk12 hHeld.1
     have uf : ∀ o, x3.frozen? ⟨S, o, none⟩ = false := fun o => hHeld.1.frozen o
     go_simp
     refine hK.out _ _ ?_
     clear hK K u0 u1 u2 u3 u4 u5 u6 u7 u8 u9 u10 u11 uf
     try simp only [Act.put, putA, putB, putC]
     refine wpAnyN_end (by kernel_rfl) ?_
     have HSF := Lib.hid (hHeld.1.set_ 7 (.slice ra (nf + 1) rc))
     have HBE0 := Lib.hid (((Below.refl _ _).drew).trans HB_3.out)
     clear hHeld
     have HSB := Lib.hid ((HKB5.out.below HBE0.out HKB5.out.lt).far (p := ⟨S, 7, none⟩) (by show S + 1 ≠ S; omega) (.slice ra (nf + 1) rc))
     have HBZ := Lib.hid (below_set (HB5.out.trans (HBE0.out.mono (show S ≤ w5.drew.heap.size by have := HKS.out.lt; show S ≤ w5.heap.size; omega))) (p := ⟨S, 7, none⟩) (Nat.le_refl S) (.slice ra (nf + 1) rc))
     have HXZ := Lib.hid (own_set (own_below HOX.out HBE0.out (Nat.le_refl w5.heap.size)) (R := S) (by omega) 7 (.slice ra (nf + 1) rc))
     go_wp2_with fail
     go_meet
     exact ⟨ra, rc, HSF.out, HSB.out, own_base (own_set HRF.out hBS 7 _) (by have := HKB5.out.lt; show S + 2 ≤ w5.heap.size; omega), HXZ.out, HBZ.out⟩
    ·go_simp
     have HL1 : Hid (RowG 2 ((w5.drew.alloc (.cells #[] 61)).alloc (.cells #[.int .i64 (d : Int), .slice xa l.length xc] 61)) (some ⟨w5.heap.size + 1, 0, none⟩) 1 1 [.int .i64 (d : Int), .slice xa l.length xc]) := Lib.hid (by have h := row_elem (w5.drew.alloc (.cells #[] 61)) 61 (.int .i64 (d : Int)) (.slice xa l.length xc); rw [World.size_alloc] at h; exact h)
     have HB_1 := Lib.hid (HB_0.out.alloc HB_0.out.size (.cells #[.int .i64 (d : Int), .slice xa l.length xc] 61))
     have HO1 := Lib.hid (World.ownsRow.alloc HO0.out (.cells #[.int .i64 (d : Int), .slice xa l.length xc] 61))
     have HNE : Hid (w5.heap.size + 1 ≠ w5.heap.size) := Lib.hid (by simp)
     refine hK.out _ _ (by exact ⟨HS0.out.below HB_1.out hBS, HE0.out.below HB_1.out hBE⟩) ?_
     clear hK K hHeld
     intro hHeld
     try simp only [Act.put, putA, putB, putC]
     refine wpAnyN_one (i := 4) (o := ⟨some 58, _, _, _, _, _⟩) (by kernel_rfl) rfl (fun K hK => ?_)
     refine step_append_rowG (z := .agg #[.int .i64 0, .slice none 0 0]) (sz := 2) (bytes := 32) info_flt rfl (by decide) Tryz.underlying28 rfl _ _ (by rfl) _ w5.drew.heap.size _ 0 [] af nf cf (fltCells fl) (by rfl) (by rfl) HO1.out (HOR0.out _ HB_1.out) HONE.out (by omega) (by unfold maxLen; omega) HB_1.out.size ?_
     intro v2 x2 h2 h3 h4
     rw [Nat.zero_add, List.nil_append] at h2
     have HO2 := Lib.hid h2
     have HB_2 := Lib.hid (h4 _ HB_1.out)
     have HL2 := Lib.hid (HL1.out.grown h3 (.inr (fun x hx => by cases hx; intro hy; simp [Value.ownBlock] at hy)))
     clear h2 h3 h4
     refine hK.out _ _ (by exact ⟨HS0.out.below HB_2.out hBS, HE0.out.below HB_2.out hBE⟩) ?_
     clear hK K hHeld
     intro hHeld
     try simp only [Act.put, putA, putB, putC]
     refine wpAnyN_one (i := 7) (o := ⟨some 61, _, _, _, _, _⟩) (by kernel_rfl) rfl (fun K hK => ?_)
     refine step_append_rowG (z := .agg #[.int .i64 0, .slice none 0 0]) (sz := 2) (bytes := 32) info_flt rfl (by decide) Tryz.underlying28 rfl _ _ (by rfl) _ w5.drew.heap.size _ nf (fltCells fl) (some ⟨w5.heap.size + 1, 0, none⟩) 1 1 [.int .i64 (d : Int), .slice xa l.length xc] (by rfl) (by rfl) HO2.out HL2.out (by intro u hu; simp at hu; rcases hu with rfl | rfl <;> rfl) (by omega) (by unfold maxLen; omega) HB_2.out.size ?_
     intro v3 x3 h2 h3 h4
     obtain ⟨ra, rc, rfl⟩ := own_form h2
     have HRF := Lib.hid h2
     have HB_3 := Lib.hid (h4 _ HB_2.out)
     clear h2 h3 h4
     refine hK.out _ _ (by exact ⟨HS0.out.below HB_3.out hBS, HE0.out.below HB_3.out hBE⟩) ?_
     clear hK K hHeld
     intro hHeld
     try simp only [Act.put, putA, putB, putC]
     refine wpAnyN_t 8 ⟨some 62, _, _, _, _, _⟩ ?_ rfl ?_ ?_
     rotate_left 1
     ·(intro w hSw; obtain ⟨u0, u1, u2, u3, u4, u5, u6, u7, u8, u9, u10, u11⟩ := blk12 hSw.1; have v0 : w.cell? ⟨F, 0, none⟩ = some (.int .i64 (d : Int)) := hSw.2.cell 0; have v1 : w.cell? ⟨F, 1, none⟩ = some (.slice xa l.length xc) := hSw.2.cell 1; go_simp; try with_reducible rfl)
     try simp only [Act.put, putA, putB, putC]
     refine wpAnyN_t 9 ⟨some 63, _, _, _, _, _⟩ ?_ rfl ?_ ?_
     rotate_left 1
     ·(intro w hSw; obtain ⟨u0, u1, u2, u3, u4, u5, u6, u7, u8, u9, u10, u11⟩ := blk12 hSw.1; have v0 : w.cell? ⟨F, 0, none⟩ = some (.int .i64 (d : Int)) := hSw.2.cell 0; have v1 : w.cell? ⟨F, 1, none⟩ = some (.slice xa l.length xc) := hSw.2.cell 1; go_simp; try with_reducible rfl)
     try simp only [Act.put, putA, putB, putC]
     refine wpAnyN_late (i := 10) (o := ⟨none, _, _, _, _, _⟩) (by kernel_rfl) (by kernel_rfl) rfl (fun K hK => ?_)
     obtain ⟨u0, u1, u2, u3, u4, u5, u6, u7, u8, u9, u10, u11⟩ := blk12 hHeld.1
     have uf : ∀ o, x3.frozen? ⟨S, o, none⟩ = false := fun o => hHeld.1.frozen o
     go_simp
     refine hK.out _ _ ?_
     clear hK K u0 u1 u2 u3 u4 u5 u6 u7 u8 u9 u10 u11 uf
     try simp only [Act.put, putA, putB, putC]
     refine wpAnyN_end (by kernel_rfl) ?_
     have HSF := Lib.hid (hHeld.1.set_ 7 (.slice ra (nf + 1) rc))
     have HBE0 := Lib.hid (((Below.refl _ _).drew).trans HB_3.out)
     clear hHeld
     have HSB := Lib.hid ((HKB5.out.below HBE0.out HKB5.out.lt).far (p := ⟨S, 7, none⟩) (by show S + 1 ≠ S; omega) (.slice ra (nf + 1) rc))
     have HBZ := Lib.hid (below_set (HB5.out.trans (HBE0.out.mono (show S ≤ w5.drew.heap.size by have := HKS.out.lt; show S ≤ w5.heap.size; omega))) (p := ⟨S, 7, none⟩) (Nat.le_refl S) (.slice ra (nf + 1) rc))
     have HXZ := Lib.hid (own_set (own_below HOX.out HBE0.out (Nat.le_refl w5.heap.size)) (R := S) (by omega) 7 (.slice ra (nf + 1) rc))
     go_wp2_with fail
     go_meet
     exact ⟨ra, rc, HSF.out, HSB.out, own_base (own_set HRF.out hBS 7 _) (by have := HKB5.out.lt; show S + 2 ≤ w5.heap.size; omega), HXZ.out, HBZ.out⟩
   ·go_simp
    have HL0 : Hid (RowG 2 (w5.drew.alloc (.cells #[.int .i64 (d : Int), .slice xa l.length xc] 61)) (some ⟨w5.heap.size, 0, none⟩) 1 1 [.int .i64 (d : Int), .slice xa l.length xc]) := Lib.hid (by have h := row_elem w5.drew 61 (.int .i64 (d : Int)) (.slice xa l.length xc); exact h)
    have HB_0 := Lib.hid (HB0R.out.alloc HB0R.out.size (.cells #[.int .i64 (d : Int), .slice xa l.length xc] 61))
    refine hK.out _ _ (by exact ⟨HS0.out.below HB_0.out hBS, HE0.out.below HB_0.out hBE⟩) ?_
    clear hK K hHeld
    intro hHeld
    try simp only [Act.put, putA, putB, putC]
    refine wpAnyN_one (i := 0) (o := ⟨some 54, _, _, _, _, _⟩) (by kernel_rfl) rfl (fun K hK => ?_)
    go_simp
    have HO1 : Hid (((w5.drew.alloc (.cells #[.int .i64 (d : Int), .slice xa l.length xc] 61)).alloc (.cells #[] 61)).ownsRow w5.drew.heap.size 61 2 (.slice (some ⟨w5.heap.size + 1, 0, none⟩) 0 0) 0 []) := Lib.hid (by have h := own_none (w5.drew.alloc (.cells #[.int .i64 (d : Int), .slice xa l.length xc] 61)) 61 _ HB_0.out.size; rw [World.size_alloc] at h; exact h)
    have HB_1 := Lib.hid (HB_0.out.alloc HB_0.out.size (.cells #[] 61))
    have HL1 := Lib.hid (HL0.out.below ((Below.refl _ _).alloc (Nat.le_refl _) (.cells #[] 61)) (Nat.le_refl _))
    have HNE : Hid (w5.heap.size ≠ w5.heap.size + 1) := Lib.hid (by simp)
    refine hK.out _ _ (by exact ⟨HS0.out.below HB_1.out hBS, HE0.out.below HB_1.out hBE⟩) ?_
    clear hK K hHeld
    intro hHeld
    try simp only [Act.put, putA, putB, putC]
    refine wpAnyN_one (i := 4) (o := ⟨some 58, _, _, _, _, _⟩) (by kernel_rfl) rfl (fun K hK => ?_)
    refine step_append_rowG (z := .agg #[.int .i64 0, .slice none 0 0]) (sz := 2) (bytes := 32) info_flt rfl (by decide) Tryz.underlying28 rfl _ _ (by rfl) _ w5.drew.heap.size _ 0 [] af nf cf (fltCells fl) (by rfl) (by rfl) HO1.out (HOR0.out _ HB_1.out) HONE.out (by omega) (by unfold maxLen; omega) HB_1.out.size ?_
    intro v2 x2 h2 h3 h4
    rw [Nat.zero_add, List.nil_append] at h2
    have HO2 := Lib.hid h2
    have HB_2 := Lib.hid (h4 _ HB_1.out)
    have HL2 := Lib.hid (HL1.out.grown h3 (.inr (fun x hx => by cases hx; intro hy; simp [Value.ownBlock] at hy)))
    clear h2 h3 h4
    refine hK.out _ _ (by exact ⟨HS0.out.below HB_2.out hBS, HE0.out.below HB_2.out hBE⟩) ?_
    clear hK K hHeld
    intro hHeld
    try simp only [Act.put, putA, putB, putC]
    refine wpAnyN_one (i := 7) (o := ⟨some 61, _, _, _, _, _⟩) (by kernel_rfl) rfl (fun K hK => ?_)
    refine step_append_rowG (z := .agg #[.int .i64 0, .slice none 0 0]) (sz := 2) (bytes := 32) info_flt rfl (by decide) Tryz.underlying28 rfl _ _ (by rfl) _ w5.drew.heap.size _ nf (fltCells fl) (some ⟨w5.heap.size, 0, none⟩) 1 1 [.int .i64 (d : Int), .slice xa l.length xc] (by rfl) (by rfl) HO2.out HL2.out (by intro u hu; simp at hu; rcases hu with rfl | rfl <;> rfl) (by omega) (by unfold maxLen; omega) HB_2.out.size ?_
    intro v3 x3 h2 h3 h4
    obtain ⟨ra, rc, rfl⟩ := own_form h2
    have HRF := Lib.hid h2
    have HB_3 := Lib.hid (h4 _ HB_2.out)
    clear h2 h3 h4
    refine hK.out _ _ (by exact ⟨HS0.out.below HB_3.out hBS, HE0.out.below HB_3.out hBE⟩) ?_
    clear hK K hHeld
    intro hHeld
    try simp only [Act.put, putA, putB, putC]
    refine wpAnyN_t 8 ⟨some 62, _, _, _, _, _⟩ ?_ rfl ?_ ?_
    rotate_left 1
    ·(intro w hSw; obtain ⟨u0, u1, u2, u3, u4, u5, u6, u7, u8, u9, u10, u11⟩ := blk12 hSw.1; have v0 : w.cell? ⟨F, 0, none⟩ = some (.int .i64 (d : Int)) := hSw.2.cell 0; have v1 : w.cell? ⟨F, 1, none⟩ = some (.slice xa l.length xc) := hSw.2.cell 1; go_simp; try with_reducible rfl)
    try simp only [Act.put, putA, putB, putC]
    refine wpAnyN_t 9 ⟨some 63, _, _, _, _, _⟩ ?_ rfl ?_ ?_
    rotate_left 1
    ·(intro w hSw; obtain ⟨u0, u1, u2, u3, u4, u5, u6, u7, u8, u9, u10, u11⟩ := blk12 hSw.1; have v0 : w.cell? ⟨F, 0, none⟩ = some (.int .i64 (d : Int)) := hSw.2.cell 0; have v1 : w.cell? ⟨F, 1, none⟩ = some (.slice xa l.length xc) := hSw.2.cell 1; go_simp; try with_reducible rfl)
    try simp only [Act.put, putA, putB, putC]
    refine wpAnyN_late (i := 10) (o := ⟨none, _, _, _, _, _⟩) (by kernel_rfl) (by kernel_rfl) rfl (fun K hK => ?_)
    obtain ⟨u0, u1, u2, u3, u4, u5, u6, u7, u8, u9, u10, u11⟩ := blk12 hHeld.1
    have uf : ∀ o, x3.frozen? ⟨S, o, none⟩ = false := fun o => hHeld.1.frozen o
    go_simp
    refine hK.out _ _ ?_
    clear hK K u0 u1 u2 u3 u4 u5 u6 u7 u8 u9 u10 u11 uf
    try simp only [Act.put, putA, putB, putC]
    refine wpAnyN_end (by kernel_rfl) ?_
    have HSF := Lib.hid (hHeld.1.set_ 7 (.slice ra (nf + 1) rc))
    have HBE0 := Lib.hid (((Below.refl _ _).drew).trans HB_3.out)
    clear hHeld
    have HSB := Lib.hid ((HKB5.out.below HBE0.out HKB5.out.lt).far (p := ⟨S, 7, none⟩) (by show S + 1 ≠ S; omega) (.slice ra (nf + 1) rc))
    have HBZ := Lib.hid (below_set (HB5.out.trans (HBE0.out.mono (show S ≤ w5.drew.heap.size by have := HKS.out.lt; show S ≤ w5.heap.size; omega))) (p := ⟨S, 7, none⟩) (Nat.le_refl S) (.slice ra (nf + 1) rc))
    have HXZ := Lib.hid (own_set (own_below HOX.out HBE0.out (Nat.le_refl w5.heap.size)) (R := S) (by omega) 7 (.slice ra (nf + 1) rc))
    go_wp2_with fail
    go_meet
    exact ⟨ra, rc, HSF.out, HSB.out, own_base (own_set HRF.out hBS 7 _) (by have := HKB5.out.lt; show S + 2 ≤ w5.heap.size; omega), HXZ.out, HBZ.out⟩
  case rest =>
   obtain ⟨ra, rc, hka, hkb, hrg, hxg, hb⟩ := hcut
   have HKA7 := Lib.hid hka
   have HKB7 := Lib.hid hkb
   have HRG := Lib.hid hrg
   have HXG := Lib.hid hxg
   have HB7 := Lib.hid hb
   obtain ⟨w7, rfl⟩ : ∃ x, x = wc := ⟨_, rfl⟩
   clear hka hkb hrg hxg hb
   have c0 := HKA7.out.c 0
   have c1 := HKA7.out.c 1
   have c2 := HKA7.out.c 2
   have c3 := HKA7.out.c 3
   have c4 := HKA7.out.c 4
   have c5 := HKA7.out.c 5
   have c6 := HKA7.out.c 6
   have c7 := HKA7.out.c 7
   have c8 := HKA7.out.c 8
   have c9 := HKA7.out.c 9
   have c10 := HKA7.out.c 10
   have c11 := HKA7.out.c 11
   have d0 := HKB7.out.c 0
   have d1 := HKB7.out.c 1
   have d2 := HKB7.out.c 2
   have d3 := HKB7.out.c 3
   have d4 := HKB7.out.c 4
   have d5 := HKB7.out.c 5
   have d6 := HKB7.out.c 6
   have d7 := HKB7.out.c 7
   have d8 := HKB7.out.c 8
   have d9 := HKB7.out.c 9
   have d10 := HKB7.out.c 10
   have d11 := HKB7.out.c 11
   have fzd : ∀ o, w7.frozen? ⟨S + 1, o, none⟩ = false := fun o => HKB7.out.frozen o
   go_wp2_with fail
   have HRGF := Lib.hid (own_set (own_set (own_set (own_set (own_set (own_set (own_set (own_set (own_set (own_set (own_set (own_set HRG.out (R := S + 1) (by omega) 0 (.slice ad nd cd)) (R := S + 1) (by omega) 1 (.slice ai ni ci)) (R := S + 1) (by omega) 2 (.slice an nn cn)) (R := S + 1) (by omega) 3 (.slice av nv cv)) (R := S + 1) (by omega) 4 (.slice ta L.length tc)) (R := S + 1) (by omega) 5 (.int .i64 (i3 : Int))) (R := S + 1) (by omega) 6 (.int .u32 g)) (R := S + 1) (by omega) 7 (.slice ra (nf + 1) rc)) (R := S + 1) (by omega) 8 (.slice ac nc cc)) (R := S + 1) (by omega) 9 (.slice ao no co)) (R := S + 1) (by omega) 10 (.int .i64 lm)) (R := S + 1) (by omega) 11 (.int .i64 (e3 : Int)))
   have HXGF := Lib.hid (own_set (own_set (own_set (own_set (own_set (own_set (own_set (own_set (own_set (own_set (own_set (own_set HXG.out (R := S + 1) (by omega) 0 (.slice ad nd cd)) (R := S + 1) (by omega) 1 (.slice ai ni ci)) (R := S + 1) (by omega) 2 (.slice an nn cn)) (R := S + 1) (by omega) 3 (.slice av nv cv)) (R := S + 1) (by omega) 4 (.slice ta L.length tc)) (R := S + 1) (by omega) 5 (.int .i64 (i3 : Int))) (R := S + 1) (by omega) 6 (.int .u32 g)) (R := S + 1) (by omega) 7 (.slice ra (nf + 1) rc)) (R := S + 1) (by omega) 8 (.slice ac nc cc)) (R := S + 1) (by omega) 9 (.slice ao no co)) (R := S + 1) (by omega) 10 (.int .i64 lm)) (R := S + 1) (by omega) 11 (.int .i64 (e3 : Int)))
   have HKF := Lib.hid (blk_st12 (HKB7.out) (.slice ad nd cd) (.slice ai ni ci) (.slice an nn cn) (.slice av nv cv) (.slice ta L.length tc) (.int .i64 (i3 : Int)) (.int .u32 g) (.slice ra (nf + 1) rc) (.slice ac nc cc) (.slice ao no co) (.int .i64 lm) (.int .i64 (e3 : Int)))
   have HBF := Lib.hid (below_st12 (HB7.out) (b := S + 1) (by have := HSW.out; omega) (.slice ad nd cd) (.slice ai ni ci) (.slice an nn cn) (.slice av nv cv) (.slice ta L.length tc) (.int .i64 (i3 : Int)) (.int .u32 g) (.slice ra (nf + 1) rc) (.slice ac nc cc) (.slice ao no co) (.int .i64 lm) (.int .i64 (e3 : Int)))
   generalize ((((((((((((w7.setCell ⟨S + 1, 0, none⟩ (.slice ad nd cd)).setCell ⟨S + 1, 1, none⟩ (.slice ai ni ci)).setCell ⟨S + 1, 2, none⟩ (.slice an nn cn)).setCell ⟨S + 1, 3, none⟩ (.slice av nv cv)).setCell ⟨S + 1, 4, none⟩ (.slice ta L.length tc)).setCell ⟨S + 1, 5, none⟩ (.int .i64 (i3 : Int))).setCell ⟨S + 1, 6, none⟩ (.int .u32 g)).setCell ⟨S + 1, 7, none⟩ (.slice ra (nf + 1) rc)).setCell ⟨S + 1, 8, none⟩ (.slice ac nc cc)).setCell ⟨S + 1, 9, none⟩ (.slice ao no co)).setCell ⟨S + 1, 10, none⟩ (.int .i64 lm)).setCell ⟨S + 1, 11, none⟩ (.int .i64 (e3 : Int))) = Wf at *
   have z0 := HKF.out.c 0
   have z1 := HKF.out.c 1
   have z2 := HKF.out.c 2
   have z3 := HKF.out.c 3
   have z4 := HKF.out.c 4
   have z5 := HKF.out.c 5
   have z6 := HKF.out.c 6
   have z7 := HKF.out.c 7
   have z8 := HKF.out.c 8
   have z9 := HKF.out.c 9
   have z10 := HKF.out.c 10
   have z11 := HKF.out.c 11
   refine bodyPost_ret (v := .agg #[.slice ad nd cd, .slice ai ni ci, .slice an nn cn, .slice av nv cv, .slice ta L.length tc, .int .i64 (i3 : Int), .int .u32 g, .slice ra (nf + 1) rc, .slice ac nc cc, .slice ao no co, .int .i64 lm, .int .i64 (e3 : Int)]) (by simp [results, Tryz.results105, go_sem, z0, z1, z2, z3, z4, z5, z6, z7, z8, z9, z10, z11]) rfl ?_
   rw [HRR.out]
   refine ⟨⟨ra, nf + 1, rc, ac, nc, cc, ao, no, co⟩, fl ++ [⟨d, l, xa, l.length, xc⟩], rfl, fun wx hag => ?_, by rw [HSW.out]; exact HBF.out⟩
   have h := HSG.out wx (hag.old (by rw [HSW.out]; exact HBF.out))
   refine ⟨flt_qry h.q (x := ⟨d, l, xa, l.length, xc⟩) ⟨HDD.out, HLI.out⟩ (rowk_of_g (own_rowg (own_agr hag HXGF.out (by have := HSW.out; omega)))) (by rw [fltCells_push]; exact own_rowg (own_agr hag HRGF.out (by have := HSW.out; omega))), by rw [List.map_append, h.fs]; rfl, h.grp, fun he => ?_, HI3.out⟩
   obtain ⟨k3, k4, k5⟩ := h.len H0.out
   have k6 := HE3.out he
   dsimp only at *
   rw [List.length_append]
   exact ⟨by omega, by omega, by show fq.length + 1 ≤ i3; omega⟩
end Go.Proofs.YtaofjnidniekjaaGreatDoor
/- The reference's reading (package bushelref36): one, part. Conditions: those stated. -/
namespace Go.Proofs.YtaofjnidniekjaaGreatDoor
open Go.RowKit

/-- a part's thing -/
def oneR (X : RX) (k : Nat) (p : PState) : PState := if k = 0 then colR (measN X.s) X.L p else if k = 1 then groupR (dimN X.s) X.L p else if k = 2 then condR (dimN X.s) X.L p else ordR X.L p
def oneSX (X : RX) (k : Nat) : Nat → QP → Except (Nat × Nat) (Nat × QP) := if k = 0 then colS (measN X.s) X.L else if k = 1 then groupS (dimN X.s) X.L else if k = 2 then condS (dimN X.s) X.L else ordS X.L
theorem AgrG.st1 {G G' : Nat → Prop} {w wx : World} {b k : Nat} {c : Value} (h : AgrG G' (w.setCell ⟨b, k, none⟩ c) wx) (hb : ∀ g, G g → g ≠ b) (hG : ∀ g, G g → G' g) : AgrG G w wx :=
 ⟨h.os, h.tape, h.output, by have := h.size; rw [World.size_setCell] at this; exact this, fun g hg hgg => by
  rw [h.block g (by rw [World.size_setCell]; exact hg) (hG g hgg), Below.heap_setCell _ _ _ _ (show g ≠ b from hb g hgg)]⟩
theorem AgrG.st12 {G G' : Nat → Prop} {w wx : World} {b : Nat} {c0 c1 c2 c3 c4 c5 c6 c7 c8 c9 c10 c11 : Value} (h : AgrG G' ((((((((((((w.setCell ⟨b, 0, none⟩ (c0)).setCell ⟨b, 1, none⟩ (c1)).setCell ⟨b, 2, none⟩ (c2)).setCell ⟨b, 3, none⟩ (c3)).setCell ⟨b, 4, none⟩ (c4)).setCell ⟨b, 5, none⟩ (c5)).setCell ⟨b, 6, none⟩ (c6)).setCell ⟨b, 7, none⟩ (c7)).setCell ⟨b, 8, none⟩ (c8)).setCell ⟨b, 9, none⟩ (c9)).setCell ⟨b, 10, none⟩ (c10)).setCell ⟨b, 11, none⟩ (c11)) wx) (hb : ∀ g, G g → g ≠ b) (hG : ∀ g, G g → G' g) : AgrG G w wx := ((((((((((((h.st1 hb hG).st1 hb (fun _ h => h)).st1 hb (fun _ h => h)).st1 hb (fun _ h => h)).st1 hb (fun _ h => h)).st1 hb (fun _ h => h)).st1 hb (fun _ h => h)).st1 hb (fun _ h => h)).st1 hb (fun _ h => h)).st1 hb (fun _ h => h)).st1 hb (fun _ h => h)).st1 hb (fun _ h => h))
theorem one_says (X : RX) (k i : Nat) (q : QP) : SaysR (oneR X k ⟨i, q, 0⟩) (oneSX X k i q) := by
 unfold oneR oneSX
 split
 ·exact col_says _ _ _ _
 split
 ·exact group_says _ _ _ _
 split
 ·exact cond_says _ _ _ _
 ·exact ord_says _ _ _
theorem one_goes (X : RX) (k : Nat) : Goes X.L (oneSX X k) := by
 unfold oneSX
 split
 ·exact col_goes _ _
 split
 ·exact group_goes _ _
 split
 ·exact cond_goes _ _
 ·exact ord_goes _
theorem one_on (X : RX) (k : Nat) {p : PState} (hp : p.err = 0) (h : (oneR X k p).err = 0) : p.at' < (oneR X k p).at' := by
 obtain ⟨i, q, er⟩ := p
 dsimp only at hp
 subst hp
 have h1 := one_says X k i q
 have h2 := one_goes X k i q
 rcases hx : oneSX X k i q with e | x
 ·rw [hx] at h1
  obtain ⟨h3, h4, h5⟩ := h1
  exact absurd (h4.symm.trans h) h5
 ·rw [hx] at h1
  have h1 : oneR X k ⟨i, q, 0⟩ = ⟨x.1, x.2, 0⟩ := h1
  rw [h1]
  exact (h2 x hx).1

set_option maxRecDepth 100000 in
set_option maxHeartbeats 1000000 in
theorem vone_any (X : RX) (m : QryL) (fl : List Flt) (p : PState) (G : Nat → Prop) (w : World) (hX : X.At w) (hp : StG G X m fl p w) (hG : ∀ g, G g → g < w.heap.size) (k : Nat) (hk : k ≤ 3) (he : k = 0 ∨ p.err = 0) :
  Calls Tryz.prog 90 #[StV X m p, .int .i64 (k : Int)] w (RStO X (oneR X k p) G w) := by
 have HGW := Lib.hid hG
 have HC : Hid (k = 0 → ∀ w', Below w.heap.size w w' → Calls Tryz.prog 103 #[StV X m p] w' (RStO X (oneR X k p) G w')) := Lib.hid (fun h w' hb => by
  unfold oneR; rw [if_pos h]; exact vcol_any X m fl p G w' (hX.below hb (Nat.le_refl _)) (hp.below hb))
 have HG : Hid (k = 1 → ∀ w', Below w.heap.size w w' → Calls Tryz.prog 104 #[StV X m p] w' (RStO X (oneR X k p) G w')) := Lib.hid (fun h w' hb => by
  unfold oneR; rw [if_neg (by omega), if_pos h]; exact vgroup_any X m fl p G w' (hX.below hb (Nat.le_refl _)) (hp.below hb))
 have HD : Hid (k = 2 → ∀ w', Below w.heap.size w w' → Calls Tryz.prog 105 #[StV X m p] w' (RStO X (oneR X k p) G w')) := Lib.hid (fun h w' hb => by
  unfold oneR; rw [if_neg (by omega), if_neg (by omega), if_pos h]; exact vcond_any X m fl p G w' (hX.below hb (Nat.le_refl _)) (hp.below hb) (by omega))
 have HO : Hid (k = 3 → ∀ w', Below w.heap.size w w' → Calls Tryz.prog 106 #[StV X m p] w' (RStO X (oneR X k p) G w')) := Lib.hid (fun h w' hb => by
  unfold oneR; rw [if_neg (by omega), if_neg (by omega), if_neg (by omega)]; exact vord_any X m fl p G w' (hX.below hb (Nat.le_refl _)) (hp.below hb) (by omega))
 obtain ⟨p2, hp2⟩ : ∃ x, oneR X k p = x := ⟨_, rfl⟩
 rw [hp2] at HC HG HD HO ⊢
 clear hX hp he hp2 hG
 unfold RStO at *
 unfold StV at *
 obtain ⟨⟨ad, nd, cd, ai, ni, ci, an, nn, cn, av, nv, cv⟩, s, ta, tc, L⟩ := X
 obtain ⟨af, nf, cf, ac, nc, cc, ao, no, co⟩ := m
 obtain ⟨i, ⟨g, fq, cq, oq, lm⟩, er⟩ := p
 (try dsimp only at *)
 obtain ⟨W0, hW0⟩ : ∃ W0, ((w.alloc (.cells #[.slice ad nd cd, .slice ai ni ci, .slice an nn cn, .slice av nv cv, .slice ta L.length tc, .int .i64 (i : Int), .int .u32 g, .slice af nf cf, .slice ac nc cc, .slice ao no co, .int .i64 lm, .int .i64 (er : Int)] 122)).alloc (.cells #[.slice none 0 0, .slice none 0 0, .slice none 0 0, .slice none 0 0, .slice none 0 0, .int .i64 0, .int .u32 0, .slice none 0 0, .slice none 0 0, .slice none 0 0, .int .i64 0, .int .i64 0] 122)) = W0 := ⟨_, rfl⟩
 have HB0 : Hid (Below w.heap.size w W0) := Lib.hid (by
  rw [← hW0]
  exact (((Below.refl _ _).alloc (Nat.le_refl _) _).alloc (by simp) _))
 have HZ0 : Hid (W0.heap.size = w.heap.size + 2) := Lib.hid (by rw [← hW0]; simp)
 have HK0 : Hid (Blk W0 (w.heap.size) 122 #[.slice ad nd cd, .slice ai ni ci, .slice an nn cn, .slice av nv cv, .slice ta L.length tc, .int .i64 (i : Int), .int .u32 g, .slice af nf cf, .slice ac nc cc, .slice ao no co, .int .i64 lm, .int .i64 (er : Int)]) := Lib.hid (by
  rw [← hW0]
  have h := Blk.new w 122 #[.slice ad nd cd, .slice ai ni ci, .slice an nn cn, .slice av nv cv, .slice ta L.length tc, .int .i64 (i : Int), .int .u32 g, .slice af nf cf, .slice ac nc cc, .slice ao no co, .int .i64 lm, .int .i64 (er : Int)]
  exact h.alloc _)
 have HK1 : Hid (Blk W0 (w.heap.size + 1) 122 #[.slice none 0 0, .slice none 0 0, .slice none 0 0, .slice none 0 0, .slice none 0 0, .int .i64 0, .int .u32 0, .slice none 0 0, .slice none 0 0, .slice none 0 0, .int .i64 0, .int .i64 0]) := Lib.hid (by
  rw [← hW0]
  have h := Blk.new (w.alloc (.cells #[.slice ad nd cd, .slice ai ni ci, .slice an nn cn, .slice av nv cv, .slice ta L.length tc, .int .i64 (i : Int), .int .u32 g, .slice af nf cf, .slice ac nc cc, .slice ao no co, .int .i64 lm, .int .i64 (er : Int)] 122)) 122 #[.slice none 0 0, .slice none 0 0, .slice none 0 0, .slice none 0 0, .slice none 0 0, .int .i64 0, .int .u32 0, .slice none 0 0, .slice none 0 0, .slice none 0 0, .int .i64 0, .int .i64 0]
  rw [World.size_alloc] at h
  exact h)
 rcases (by omega : k = 0 ∨ k = 1 ∨ k = 2 ∨ k = 3) with rfl | rfl | rfl | rfl
 ·have HONE := Lib.hid (HC.out rfl)
  clear HC HG HD HO hk
  (try unfold StV)
  (try dsimp only)
  go_enter Tryz.func90, Tryz.ntmps90
  go_upto_region 1 with fail
  clear hW0
  generalize hS : w.heap.size = S at *
  have HSW := Lib.hid hS
  clear hS
  have c0 := HK0.out.c 0
  have c1 := HK0.out.c 1
  have c2 := HK0.out.c 2
  have c3 := HK0.out.c 3
  have c4 := HK0.out.c 4
  have c5 := HK0.out.c 5
  have c6 := HK0.out.c 6
  have c7 := HK0.out.c 7
  have c8 := HK0.out.c 8
  have c9 := HK0.out.c 9
  have c10 := HK0.out.c 10
  have c11 := HK0.out.c 11
  go_wp2_with fail
  refine (HONE.out _ HB0.out).mono ?_; rintro e w1 ⟨m2, fl2, rfl, hst, hb1⟩
  have HB1 := Lib.hid (HB0.out.trans (hb1.mono (by have := HZ0.out; omega)))
  have HKB := Lib.hid (HK1.out.below hb1 HK1.out.lt)
  have HST := Lib.hid hst
  clear hb1 hst HONE
  clear c0 c1 c2 c3 c4 c5 c6 c7 c8 c9 c10 c11
  (try unfold StV)
  (try dsimp only)
  have d0 := HKB.out.c 0
  have d1 := HKB.out.c 1
  have d2 := HKB.out.c 2
  have d3 := HKB.out.c 3
  have d4 := HKB.out.c 4
  have d5 := HKB.out.c 5
  have d6 := HKB.out.c 6
  have d7 := HKB.out.c 7
  have d8 := HKB.out.c 8
  have d9 := HKB.out.c 9
  have d10 := HKB.out.c 10
  have d11 := HKB.out.c 11
  have fzd : ∀ o, w1.frozen? ⟨S + 1, o, none⟩ = false := fun o => HKB.out.frozen o
  go_wp2_with fail
  have HAG : Hid (∀ wx, AgrG (fun g => G g ∨ w.heap.size ≤ g) ((((((((((((w1.setCell ⟨S + 1, 0, none⟩ (.slice ad nd cd)).setCell ⟨S + 1, 1, none⟩ (.slice ai ni ci)).setCell ⟨S + 1, 2, none⟩ (.slice an nn cn)).setCell ⟨S + 1, 3, none⟩ (.slice av nv cv)).setCell ⟨S + 1, 4, none⟩ (.slice ta L.length tc)).setCell ⟨S + 1, 5, none⟩ (.int .i64 (p2.at' : Int))).setCell ⟨S + 1, 6, none⟩ (.int .u32 p2.q.group)).setCell ⟨S + 1, 7, none⟩ (.slice m2.af m2.nf m2.cf)).setCell ⟨S + 1, 8, none⟩ (.slice m2.ac m2.nc m2.cc)).setCell ⟨S + 1, 9, none⟩ (.slice m2.ao m2.no m2.co)).setCell ⟨S + 1, 10, none⟩ (.int .i64 p2.q.limit)).setCell ⟨S + 1, 11, none⟩ (.int .i64 (p2.err : Int))) wx → AgrG (fun g => G g ∨ W0.heap.size ≤ g) w1 wx) := Lib.hid (fun wx hag => hag.st12 (b := S + 1) (fun g hg => by have := HGW.out; have := HSW.out; have := HZ0.out; rcases hg with h | h; have := HGW.out g h; omega; omega) (fun g hg => by have := HSW.out; have := HZ0.out; rcases hg with h | h; exact .inl h; exact .inr (by omega)) )
  have HKF := Lib.hid (blk_st12 (HKB.out) (.slice ad nd cd) (.slice ai ni ci) (.slice an nn cn) (.slice av nv cv) (.slice ta L.length tc) (.int .i64 (p2.at' : Int)) (.int .u32 p2.q.group) (.slice m2.af m2.nf m2.cf) (.slice m2.ac m2.nc m2.cc) (.slice m2.ao m2.no m2.co) (.int .i64 p2.q.limit) (.int .i64 (p2.err : Int)))
  have HBF := Lib.hid (below_st12 (HB1.out) (b := S + 1) (by have := HSW.out; omega) (.slice ad nd cd) (.slice ai ni ci) (.slice an nn cn) (.slice av nv cv) (.slice ta L.length tc) (.int .i64 (p2.at' : Int)) (.int .u32 p2.q.group) (.slice m2.af m2.nf m2.cf) (.slice m2.ac m2.nc m2.cc) (.slice m2.ao m2.no m2.co) (.int .i64 p2.q.limit) (.int .i64 (p2.err : Int)))
  generalize ((((((((((((w1.setCell ⟨S + 1, 0, none⟩ (.slice ad nd cd)).setCell ⟨S + 1, 1, none⟩ (.slice ai ni ci)).setCell ⟨S + 1, 2, none⟩ (.slice an nn cn)).setCell ⟨S + 1, 3, none⟩ (.slice av nv cv)).setCell ⟨S + 1, 4, none⟩ (.slice ta L.length tc)).setCell ⟨S + 1, 5, none⟩ (.int .i64 (p2.at' : Int))).setCell ⟨S + 1, 6, none⟩ (.int .u32 p2.q.group)).setCell ⟨S + 1, 7, none⟩ (.slice m2.af m2.nf m2.cf)).setCell ⟨S + 1, 8, none⟩ (.slice m2.ac m2.nc m2.cc)).setCell ⟨S + 1, 9, none⟩ (.slice m2.ao m2.no m2.co)).setCell ⟨S + 1, 10, none⟩ (.int .i64 p2.q.limit)).setCell ⟨S + 1, 11, none⟩ (.int .i64 (p2.err : Int))) = Wf at *
  have z0 := HKF.out.c 0
  have z1 := HKF.out.c 1
  have z2 := HKF.out.c 2
  have z3 := HKF.out.c 3
  have z4 := HKF.out.c 4
  have z5 := HKF.out.c 5
  have z6 := HKF.out.c 6
  have z7 := HKF.out.c 7
  have z8 := HKF.out.c 8
  have z9 := HKF.out.c 9
  have z10 := HKF.out.c 10
  have z11 := HKF.out.c 11
  refine bodyPost_ret (v := .agg #[.slice ad nd cd, .slice ai ni ci, .slice an nn cn, .slice av nv cv, .slice ta L.length tc, .int .i64 (p2.at' : Int), .int .u32 p2.q.group, .slice m2.af m2.nf m2.cf, .slice m2.ac m2.nc m2.cc, .slice m2.ao m2.no m2.co, .int .i64 p2.q.limit, .int .i64 (p2.err : Int)]) (by simp [results, Tryz.results90, go_sem, z0, z1, z2, z3, z4, z5, z6, z7, z8, z9, z10, z11]) rfl ?_
  refine ⟨m2, fl2, rfl, fun wx hag => ?_, by rw [HSW.out]; exact HBF.out⟩
  exact HST.out wx (HAG.out wx hag)
 ·have HONE := Lib.hid (HG.out rfl)
  clear HC HG HD HO hk
  (try unfold StV)
  (try dsimp only)
  go_enter Tryz.func90, Tryz.ntmps90
  go_upto_region 1 with fail
  clear hW0
  generalize hS : w.heap.size = S at *
  have HSW := Lib.hid hS
  clear hS
  have c0 := HK0.out.c 0
  have c1 := HK0.out.c 1
  have c2 := HK0.out.c 2
  have c3 := HK0.out.c 3
  have c4 := HK0.out.c 4
  have c5 := HK0.out.c 5
  have c6 := HK0.out.c 6
  have c7 := HK0.out.c 7
  have c8 := HK0.out.c 8
  have c9 := HK0.out.c 9
  have c10 := HK0.out.c 10
  have c11 := HK0.out.c 11
  go_wp2_with fail
  refine (HONE.out _ HB0.out).mono ?_; rintro e w1 ⟨m2, fl2, rfl, hst, hb1⟩
  have HB1 := Lib.hid (HB0.out.trans (hb1.mono (by have := HZ0.out; omega)))
  have HKB := Lib.hid (HK1.out.below hb1 HK1.out.lt)
  have HST := Lib.hid hst
  clear hb1 hst HONE
  clear c0 c1 c2 c3 c4 c5 c6 c7 c8 c9 c10 c11
  (try unfold StV)
  (try dsimp only)
  have d0 := HKB.out.c 0
  have d1 := HKB.out.c 1
  have d2 := HKB.out.c 2
  have d3 := HKB.out.c 3
  have d4 := HKB.out.c 4
  have d5 := HKB.out.c 5
  have d6 := HKB.out.c 6
  have d7 := HKB.out.c 7
  have d8 := HKB.out.c 8
  have d9 := HKB.out.c 9
  have d10 := HKB.out.c 10
  have d11 := HKB.out.c 11
  have fzd : ∀ o, w1.frozen? ⟨S + 1, o, none⟩ = false := fun o => HKB.out.frozen o
  go_wp2_with fail
  have HAG : Hid (∀ wx, AgrG (fun g => G g ∨ w.heap.size ≤ g) ((((((((((((w1.setCell ⟨S + 1, 0, none⟩ (.slice ad nd cd)).setCell ⟨S + 1, 1, none⟩ (.slice ai ni ci)).setCell ⟨S + 1, 2, none⟩ (.slice an nn cn)).setCell ⟨S + 1, 3, none⟩ (.slice av nv cv)).setCell ⟨S + 1, 4, none⟩ (.slice ta L.length tc)).setCell ⟨S + 1, 5, none⟩ (.int .i64 (p2.at' : Int))).setCell ⟨S + 1, 6, none⟩ (.int .u32 p2.q.group)).setCell ⟨S + 1, 7, none⟩ (.slice m2.af m2.nf m2.cf)).setCell ⟨S + 1, 8, none⟩ (.slice m2.ac m2.nc m2.cc)).setCell ⟨S + 1, 9, none⟩ (.slice m2.ao m2.no m2.co)).setCell ⟨S + 1, 10, none⟩ (.int .i64 p2.q.limit)).setCell ⟨S + 1, 11, none⟩ (.int .i64 (p2.err : Int))) wx → AgrG (fun g => G g ∨ W0.heap.size ≤ g) w1 wx) := Lib.hid (fun wx hag => hag.st12 (b := S + 1) (fun g hg => by have := HGW.out; have := HSW.out; have := HZ0.out; rcases hg with h | h; have := HGW.out g h; omega; omega) (fun g hg => by have := HSW.out; have := HZ0.out; rcases hg with h | h; exact .inl h; exact .inr (by omega)) )
  have HKF := Lib.hid (blk_st12 (HKB.out) (.slice ad nd cd) (.slice ai ni ci) (.slice an nn cn) (.slice av nv cv) (.slice ta L.length tc) (.int .i64 (p2.at' : Int)) (.int .u32 p2.q.group) (.slice m2.af m2.nf m2.cf) (.slice m2.ac m2.nc m2.cc) (.slice m2.ao m2.no m2.co) (.int .i64 p2.q.limit) (.int .i64 (p2.err : Int)))
  have HBF := Lib.hid (below_st12 (HB1.out) (b := S + 1) (by have := HSW.out; omega) (.slice ad nd cd) (.slice ai ni ci) (.slice an nn cn) (.slice av nv cv) (.slice ta L.length tc) (.int .i64 (p2.at' : Int)) (.int .u32 p2.q.group) (.slice m2.af m2.nf m2.cf) (.slice m2.ac m2.nc m2.cc) (.slice m2.ao m2.no m2.co) (.int .i64 p2.q.limit) (.int .i64 (p2.err : Int)))
  generalize ((((((((((((w1.setCell ⟨S + 1, 0, none⟩ (.slice ad nd cd)).setCell ⟨S + 1, 1, none⟩ (.slice ai ni ci)).setCell ⟨S + 1, 2, none⟩ (.slice an nn cn)).setCell ⟨S + 1, 3, none⟩ (.slice av nv cv)).setCell ⟨S + 1, 4, none⟩ (.slice ta L.length tc)).setCell ⟨S + 1, 5, none⟩ (.int .i64 (p2.at' : Int))).setCell ⟨S + 1, 6, none⟩ (.int .u32 p2.q.group)).setCell ⟨S + 1, 7, none⟩ (.slice m2.af m2.nf m2.cf)).setCell ⟨S + 1, 8, none⟩ (.slice m2.ac m2.nc m2.cc)).setCell ⟨S + 1, 9, none⟩ (.slice m2.ao m2.no m2.co)).setCell ⟨S + 1, 10, none⟩ (.int .i64 p2.q.limit)).setCell ⟨S + 1, 11, none⟩ (.int .i64 (p2.err : Int))) = Wf at *
  have z0 := HKF.out.c 0
  have z1 := HKF.out.c 1
  have z2 := HKF.out.c 2
  have z3 := HKF.out.c 3
  have z4 := HKF.out.c 4
  have z5 := HKF.out.c 5
  have z6 := HKF.out.c 6
  have z7 := HKF.out.c 7
  have z8 := HKF.out.c 8
  have z9 := HKF.out.c 9
  have z10 := HKF.out.c 10
  have z11 := HKF.out.c 11
  refine bodyPost_ret (v := .agg #[.slice ad nd cd, .slice ai ni ci, .slice an nn cn, .slice av nv cv, .slice ta L.length tc, .int .i64 (p2.at' : Int), .int .u32 p2.q.group, .slice m2.af m2.nf m2.cf, .slice m2.ac m2.nc m2.cc, .slice m2.ao m2.no m2.co, .int .i64 p2.q.limit, .int .i64 (p2.err : Int)]) (by simp [results, Tryz.results90, go_sem, z0, z1, z2, z3, z4, z5, z6, z7, z8, z9, z10, z11]) rfl ?_
  refine ⟨m2, fl2, rfl, fun wx hag => ?_, by rw [HSW.out]; exact HBF.out⟩
  exact HST.out wx (HAG.out wx hag)
 ·have HONE := Lib.hid (HD.out rfl)
  clear HC HG HD HO hk
  (try unfold StV)
  (try dsimp only)
  go_enter Tryz.func90, Tryz.ntmps90
  go_upto_region 1 with fail
  clear hW0
  generalize hS : w.heap.size = S at *
  have HSW := Lib.hid hS
  clear hS
  have c0 := HK0.out.c 0
  have c1 := HK0.out.c 1
  have c2 := HK0.out.c 2
  have c3 := HK0.out.c 3
  have c4 := HK0.out.c 4
  have c5 := HK0.out.c 5
  have c6 := HK0.out.c 6
  have c7 := HK0.out.c 7
  have c8 := HK0.out.c 8
  have c9 := HK0.out.c 9
  have c10 := HK0.out.c 10
  have c11 := HK0.out.c 11
  go_wp2_with fail
  refine (HONE.out _ HB0.out).mono ?_; rintro e w1 ⟨m2, fl2, rfl, hst, hb1⟩
  have HB1 := Lib.hid (HB0.out.trans (hb1.mono (by have := HZ0.out; omega)))
  have HKB := Lib.hid (HK1.out.below hb1 HK1.out.lt)
  have HST := Lib.hid hst
  clear hb1 hst HONE
  clear c0 c1 c2 c3 c4 c5 c6 c7 c8 c9 c10 c11
  (try unfold StV)
  (try dsimp only)
  have d0 := HKB.out.c 0
  have d1 := HKB.out.c 1
  have d2 := HKB.out.c 2
  have d3 := HKB.out.c 3
  have d4 := HKB.out.c 4
  have d5 := HKB.out.c 5
  have d6 := HKB.out.c 6
  have d7 := HKB.out.c 7
  have d8 := HKB.out.c 8
  have d9 := HKB.out.c 9
  have d10 := HKB.out.c 10
  have d11 := HKB.out.c 11
  have fzd : ∀ o, w1.frozen? ⟨S + 1, o, none⟩ = false := fun o => HKB.out.frozen o
  go_wp2_with fail
  have HAG : Hid (∀ wx, AgrG (fun g => G g ∨ w.heap.size ≤ g) ((((((((((((w1.setCell ⟨S + 1, 0, none⟩ (.slice ad nd cd)).setCell ⟨S + 1, 1, none⟩ (.slice ai ni ci)).setCell ⟨S + 1, 2, none⟩ (.slice an nn cn)).setCell ⟨S + 1, 3, none⟩ (.slice av nv cv)).setCell ⟨S + 1, 4, none⟩ (.slice ta L.length tc)).setCell ⟨S + 1, 5, none⟩ (.int .i64 (p2.at' : Int))).setCell ⟨S + 1, 6, none⟩ (.int .u32 p2.q.group)).setCell ⟨S + 1, 7, none⟩ (.slice m2.af m2.nf m2.cf)).setCell ⟨S + 1, 8, none⟩ (.slice m2.ac m2.nc m2.cc)).setCell ⟨S + 1, 9, none⟩ (.slice m2.ao m2.no m2.co)).setCell ⟨S + 1, 10, none⟩ (.int .i64 p2.q.limit)).setCell ⟨S + 1, 11, none⟩ (.int .i64 (p2.err : Int))) wx → AgrG (fun g => G g ∨ W0.heap.size ≤ g) w1 wx) := Lib.hid (fun wx hag => hag.st12 (b := S + 1) (fun g hg => by have := HGW.out; have := HSW.out; have := HZ0.out; rcases hg with h | h; have := HGW.out g h; omega; omega) (fun g hg => by have := HSW.out; have := HZ0.out; rcases hg with h | h; exact .inl h; exact .inr (by omega)) )
  have HKF := Lib.hid (blk_st12 (HKB.out) (.slice ad nd cd) (.slice ai ni ci) (.slice an nn cn) (.slice av nv cv) (.slice ta L.length tc) (.int .i64 (p2.at' : Int)) (.int .u32 p2.q.group) (.slice m2.af m2.nf m2.cf) (.slice m2.ac m2.nc m2.cc) (.slice m2.ao m2.no m2.co) (.int .i64 p2.q.limit) (.int .i64 (p2.err : Int)))
  have HBF := Lib.hid (below_st12 (HB1.out) (b := S + 1) (by have := HSW.out; omega) (.slice ad nd cd) (.slice ai ni ci) (.slice an nn cn) (.slice av nv cv) (.slice ta L.length tc) (.int .i64 (p2.at' : Int)) (.int .u32 p2.q.group) (.slice m2.af m2.nf m2.cf) (.slice m2.ac m2.nc m2.cc) (.slice m2.ao m2.no m2.co) (.int .i64 p2.q.limit) (.int .i64 (p2.err : Int)))
  generalize ((((((((((((w1.setCell ⟨S + 1, 0, none⟩ (.slice ad nd cd)).setCell ⟨S + 1, 1, none⟩ (.slice ai ni ci)).setCell ⟨S + 1, 2, none⟩ (.slice an nn cn)).setCell ⟨S + 1, 3, none⟩ (.slice av nv cv)).setCell ⟨S + 1, 4, none⟩ (.slice ta L.length tc)).setCell ⟨S + 1, 5, none⟩ (.int .i64 (p2.at' : Int))).setCell ⟨S + 1, 6, none⟩ (.int .u32 p2.q.group)).setCell ⟨S + 1, 7, none⟩ (.slice m2.af m2.nf m2.cf)).setCell ⟨S + 1, 8, none⟩ (.slice m2.ac m2.nc m2.cc)).setCell ⟨S + 1, 9, none⟩ (.slice m2.ao m2.no m2.co)).setCell ⟨S + 1, 10, none⟩ (.int .i64 p2.q.limit)).setCell ⟨S + 1, 11, none⟩ (.int .i64 (p2.err : Int))) = Wf at *
  have z0 := HKF.out.c 0
  have z1 := HKF.out.c 1
  have z2 := HKF.out.c 2
  have z3 := HKF.out.c 3
  have z4 := HKF.out.c 4
  have z5 := HKF.out.c 5
  have z6 := HKF.out.c 6
  have z7 := HKF.out.c 7
  have z8 := HKF.out.c 8
  have z9 := HKF.out.c 9
  have z10 := HKF.out.c 10
  have z11 := HKF.out.c 11
  refine bodyPost_ret (v := .agg #[.slice ad nd cd, .slice ai ni ci, .slice an nn cn, .slice av nv cv, .slice ta L.length tc, .int .i64 (p2.at' : Int), .int .u32 p2.q.group, .slice m2.af m2.nf m2.cf, .slice m2.ac m2.nc m2.cc, .slice m2.ao m2.no m2.co, .int .i64 p2.q.limit, .int .i64 (p2.err : Int)]) (by simp [results, Tryz.results90, go_sem, z0, z1, z2, z3, z4, z5, z6, z7, z8, z9, z10, z11]) rfl ?_
  refine ⟨m2, fl2, rfl, fun wx hag => ?_, by rw [HSW.out]; exact HBF.out⟩
  exact HST.out wx (HAG.out wx hag)
 ·have HONE := Lib.hid (HO.out rfl)
  clear HC HG HD HO hk
  (try unfold StV)
  (try dsimp only)
  go_enter Tryz.func90, Tryz.ntmps90
  go_upto_region 1 with fail
  clear hW0
  generalize hS : w.heap.size = S at *
  have HSW := Lib.hid hS
  clear hS
  have c0 := HK0.out.c 0
  have c1 := HK0.out.c 1
  have c2 := HK0.out.c 2
  have c3 := HK0.out.c 3
  have c4 := HK0.out.c 4
  have c5 := HK0.out.c 5
  have c6 := HK0.out.c 6
  have c7 := HK0.out.c 7
  have c8 := HK0.out.c 8
  have c9 := HK0.out.c 9
  have c10 := HK0.out.c 10
  have c11 := HK0.out.c 11
  go_wp2_with fail
  refine (HONE.out _ HB0.out).mono ?_; rintro e w1 ⟨m2, fl2, rfl, hst, hb1⟩
  have HB1 := Lib.hid (HB0.out.trans (hb1.mono (by have := HZ0.out; omega)))
  have HKB := Lib.hid (HK1.out.below hb1 HK1.out.lt)
  have HST := Lib.hid hst
  clear hb1 hst HONE
  clear c0 c1 c2 c3 c4 c5 c6 c7 c8 c9 c10 c11
  (try unfold StV)
  (try dsimp only)
  have d0 := HKB.out.c 0
  have d1 := HKB.out.c 1
  have d2 := HKB.out.c 2
  have d3 := HKB.out.c 3
  have d4 := HKB.out.c 4
  have d5 := HKB.out.c 5
  have d6 := HKB.out.c 6
  have d7 := HKB.out.c 7
  have d8 := HKB.out.c 8
  have d9 := HKB.out.c 9
  have d10 := HKB.out.c 10
  have d11 := HKB.out.c 11
  have fzd : ∀ o, w1.frozen? ⟨S + 1, o, none⟩ = false := fun o => HKB.out.frozen o
  go_wp2_with fail
  have HAG : Hid (∀ wx, AgrG (fun g => G g ∨ w.heap.size ≤ g) ((((((((((((w1.setCell ⟨S + 1, 0, none⟩ (.slice ad nd cd)).setCell ⟨S + 1, 1, none⟩ (.slice ai ni ci)).setCell ⟨S + 1, 2, none⟩ (.slice an nn cn)).setCell ⟨S + 1, 3, none⟩ (.slice av nv cv)).setCell ⟨S + 1, 4, none⟩ (.slice ta L.length tc)).setCell ⟨S + 1, 5, none⟩ (.int .i64 (p2.at' : Int))).setCell ⟨S + 1, 6, none⟩ (.int .u32 p2.q.group)).setCell ⟨S + 1, 7, none⟩ (.slice m2.af m2.nf m2.cf)).setCell ⟨S + 1, 8, none⟩ (.slice m2.ac m2.nc m2.cc)).setCell ⟨S + 1, 9, none⟩ (.slice m2.ao m2.no m2.co)).setCell ⟨S + 1, 10, none⟩ (.int .i64 p2.q.limit)).setCell ⟨S + 1, 11, none⟩ (.int .i64 (p2.err : Int))) wx → AgrG (fun g => G g ∨ W0.heap.size ≤ g) w1 wx) := Lib.hid (fun wx hag => hag.st12 (b := S + 1) (fun g hg => by have := HGW.out; have := HSW.out; have := HZ0.out; rcases hg with h | h; have := HGW.out g h; omega; omega) (fun g hg => by have := HSW.out; have := HZ0.out; rcases hg with h | h; exact .inl h; exact .inr (by omega)) )
  have HKF := Lib.hid (blk_st12 (HKB.out) (.slice ad nd cd) (.slice ai ni ci) (.slice an nn cn) (.slice av nv cv) (.slice ta L.length tc) (.int .i64 (p2.at' : Int)) (.int .u32 p2.q.group) (.slice m2.af m2.nf m2.cf) (.slice m2.ac m2.nc m2.cc) (.slice m2.ao m2.no m2.co) (.int .i64 p2.q.limit) (.int .i64 (p2.err : Int)))
  have HBF := Lib.hid (below_st12 (HB1.out) (b := S + 1) (by have := HSW.out; omega) (.slice ad nd cd) (.slice ai ni ci) (.slice an nn cn) (.slice av nv cv) (.slice ta L.length tc) (.int .i64 (p2.at' : Int)) (.int .u32 p2.q.group) (.slice m2.af m2.nf m2.cf) (.slice m2.ac m2.nc m2.cc) (.slice m2.ao m2.no m2.co) (.int .i64 p2.q.limit) (.int .i64 (p2.err : Int)))
  generalize ((((((((((((w1.setCell ⟨S + 1, 0, none⟩ (.slice ad nd cd)).setCell ⟨S + 1, 1, none⟩ (.slice ai ni ci)).setCell ⟨S + 1, 2, none⟩ (.slice an nn cn)).setCell ⟨S + 1, 3, none⟩ (.slice av nv cv)).setCell ⟨S + 1, 4, none⟩ (.slice ta L.length tc)).setCell ⟨S + 1, 5, none⟩ (.int .i64 (p2.at' : Int))).setCell ⟨S + 1, 6, none⟩ (.int .u32 p2.q.group)).setCell ⟨S + 1, 7, none⟩ (.slice m2.af m2.nf m2.cf)).setCell ⟨S + 1, 8, none⟩ (.slice m2.ac m2.nc m2.cc)).setCell ⟨S + 1, 9, none⟩ (.slice m2.ao m2.no m2.co)).setCell ⟨S + 1, 10, none⟩ (.int .i64 p2.q.limit)).setCell ⟨S + 1, 11, none⟩ (.int .i64 (p2.err : Int))) = Wf at *
  have z0 := HKF.out.c 0
  have z1 := HKF.out.c 1
  have z2 := HKF.out.c 2
  have z3 := HKF.out.c 3
  have z4 := HKF.out.c 4
  have z5 := HKF.out.c 5
  have z6 := HKF.out.c 6
  have z7 := HKF.out.c 7
  have z8 := HKF.out.c 8
  have z9 := HKF.out.c 9
  have z10 := HKF.out.c 10
  have z11 := HKF.out.c 11
  refine bodyPost_ret (v := .agg #[.slice ad nd cd, .slice ai ni ci, .slice an nn cn, .slice av nv cv, .slice ta L.length tc, .int .i64 (p2.at' : Int), .int .u32 p2.q.group, .slice m2.af m2.nf m2.cf, .slice m2.ac m2.nc m2.cc, .slice m2.ao m2.no m2.co, .int .i64 p2.q.limit, .int .i64 (p2.err : Int)]) (by simp [results, Tryz.results90, go_sem, z0, z1, z2, z3, z4, z5, z6, z7, z8, z9, z10, z11]) rfl ?_
  refine ⟨m2, fl2, rfl, fun wx hag => ?_, by rw [HSW.out]; exact HBF.out⟩
  exact HST.out wx (HAG.out wx hag)

theorem StG.cut {G : Nat → Prop} {X : RX} {m : QryL} {fl : List Flt} {p : PState} {w : World} (h : StG G X m fl p w) : StG (fun g => G g ∧ g < w.heap.size) X m fl p w := fun wx ha => h wx ⟨ha.os, ha.tape, ha.output, ha.size, fun g hg hG => ha.block g hg ⟨hG, hg⟩⟩
theorem StG.same {G : Nat → Prop} {X : RX} {m : QryL} {fl : List Flt} {p p' : PState} {w : World} (h : StG G X m fl p w) (hq : p'.q = p.q) (ha : p'.at' < X.L.length) (he : p'.err = 0 → p.err = 0 ∧ p.at' ≤ p'.at') : StG G X m fl p' w := fun wx hg => (h wx hg).same hq ha he
theorem part_succ (one : PState → PState) (L : List Tok) (b : List UInt8) (f : Nat) (p : PState) : partR one L b (f + 1) p = if isR L (one p) b then partR one L b f (onR (one p)) else one p := rfl

set_option maxRecDepth 100000 in
set_option maxHeartbeats 2000000 in
theorem vpart_any (X : RX) (m : QryL) (fl : List Flt) (p : PState) (G : Nat → Prop) (w : World) (hX : X.At w) (hp : StG G X m fl p w) (hG : ∀ g, G g → g < w.heap.size) (k : Nat) (hk : k ≤ 3) (he : k = 0 ∨ p.err = 0) (u : ByteArray) (b : List UInt8) (hu : u.data.toList = b) :
  Calls Tryz.prog 67 #[StV X m p, .int .i64 (k : Int), .string u] w (RStO X (partR (oneR X k) X.L b X.L.length p) G w) := by
 have HGW := Lib.hid hG
 have HXX := Lib.hid (fun (w' : World) (hb : Below w.heap.size w w') => hX.below hb (Nat.le_refl _))
 have HGD := Lib.hid hX.good
 have HON := Lib.hid (fun (m1 : QryL) (fl1 : List Flt) (p1 : PState) (G1 : Nat → Prop) (w' : World) (hb : Below w.heap.size w w') (h1 : StG G1 X m1 fl1 p1 w') (h2 : ∀ g, G1 g → g < w'.heap.size) (h3 : k = 0 ∨ p1.err = 0) => vone_any X m1 fl1 p1 G1 w' (hX.below hb (Nat.le_refl _)) h1 h2 k hk h3)
 have HO1 := Lib.hid (fun (w' : World) (hb : Below w.heap.size w w') => vone_any X m fl p G w' (hX.below hb (Nat.le_refl _)) (hp.below hb) (fun g hg => Nat.lt_of_lt_of_le (hG g hg) hb.size) k hk he)
 have HIS := Lib.hid (fun (m1 : QryL) (p1 : PState) (w' : World) (hb : Below w.heap.size w w') (hn : p1.at' < X.L.length) (v : Bool) (hv : isR X.L p1 b = v) => vis_any X m1 p1 w' (hX.below hb (Nat.le_refl _)) hn u v (by rw [hu]; exact hv))
 have HOO := Lib.hid (fun (m1 : QryL) (p1 : PState) (w' : World) (hn : p1.at' < X.L.length) => von_any X m1 p1 w' (by have := hX.good.many; omega))
 have hpos := hX.good.pos
 obtain ⟨r, hr⟩ : ∃ x, partR (oneR X k) X.L b X.L.length p = x := ⟨_, rfl⟩
 rw [hr]
 have HR0 : Hid (r = if isR X.L (oneR X k p) b then partR (oneR X k) X.L b (X.L.length - 1) (onR (oneR X k p)) else oneR X k p) := Lib.hid (by
  rw [← hr, ← part_succ, show X.L.length - 1 + 1 = X.L.length by omega])
 have HPO := Lib.hid (fun (p1 : PState) => one_on X k (p := p1))
 have HE := Lib.hid he
 clear hr hX hp he hG hu hk
 unfold RSt at HOO
 obtain ⟨XL, hXL⟩ : ∃ x, X.L = x := ⟨_, rfl⟩
 have HXL := Lib.hid hXL
 rw [hXL] at HIS HOO HR0 hpos HGD
 obtain ⟨ON, hON⟩ : ∃ x, oneR X k = x := ⟨_, rfl⟩
 rw [hON] at HON HO1 HR0 HPO
 clear hXL hON
 unfold StV at HO1 ⊢
 obtain ⟨⟨ad, nd, cd, ai, ni, ci, an, nn, cn, av, nv, cv⟩, s, ta, tc, L⟩ := X
 obtain ⟨af, nf, cf, ac, nc, cc, ao, no, co⟩ := m
 obtain ⟨i, ⟨g, fq, cq, oq, lm⟩, er⟩ := p
 (try dsimp only at *)
 (try dsimp only at HXL)
 have hLL := HXL.out
 subst hLL
 obtain ⟨W0, hW0⟩ : ∃ W0, ((w.alloc (.cells #[.slice ad nd cd, .slice ai ni ci, .slice an nn cn, .slice av nv cv, .slice ta L.length tc, .int .i64 (i : Int), .int .u32 g, .slice af nf cf, .slice ac nc cc, .slice ao no co, .int .i64 lm, .int .i64 (er : Int)] 122)).alloc (.cells #[.slice none 0 0, .slice none 0 0, .slice none 0 0, .slice none 0 0, .slice none 0 0, .int .i64 0, .int .u32 0, .slice none 0 0, .slice none 0 0, .slice none 0 0, .int .i64 0, .int .i64 0] 122)) = W0 := ⟨_, rfl⟩
 have HB0 : Hid (Below w.heap.size w W0) := Lib.hid (by
  rw [← hW0]
  exact (((Below.refl _ _).alloc (Nat.le_refl _) _).alloc (by simp) _))
 have HZ0 : Hid (W0.heap.size = w.heap.size + 2) := Lib.hid (by rw [← hW0]; simp)
 have HK0 : Hid (Blk W0 (w.heap.size) 122 #[.slice ad nd cd, .slice ai ni ci, .slice an nn cn, .slice av nv cv, .slice ta L.length tc, .int .i64 (i : Int), .int .u32 g, .slice af nf cf, .slice ac nc cc, .slice ao no co, .int .i64 lm, .int .i64 (er : Int)]) := Lib.hid (by
  rw [← hW0]
  have h := Blk.new w 122 #[.slice ad nd cd, .slice ai ni ci, .slice an nn cn, .slice av nv cv, .slice ta L.length tc, .int .i64 (i : Int), .int .u32 g, .slice af nf cf, .slice ac nc cc, .slice ao no co, .int .i64 lm, .int .i64 (er : Int)]
  exact h.alloc _)
 have HK1 : Hid (Blk W0 (w.heap.size + 1) 122 #[.slice none 0 0, .slice none 0 0, .slice none 0 0, .slice none 0 0, .slice none 0 0, .int .i64 0, .int .u32 0, .slice none 0 0, .slice none 0 0, .slice none 0 0, .int .i64 0, .int .i64 0]) := Lib.hid (by
  rw [← hW0]
  have h := Blk.new (w.alloc (.cells #[.slice ad nd cd, .slice ai ni ci, .slice an nn cn, .slice av nv cv, .slice ta L.length tc, .int .i64 (i : Int), .int .u32 g, .slice af nf cf, .slice ac nc cc, .slice ao no co, .int .i64 lm, .int .i64 (er : Int)] 122)) 122 #[.slice none 0 0, .slice none 0 0, .slice none 0 0, .slice none 0 0, .slice none 0 0, .int .i64 0, .int .u32 0, .slice none 0 0, .slice none 0 0, .slice none 0 0, .int .i64 0, .int .i64 0]
  rw [World.size_alloc] at h
  exact h)
 (try unfold StV)
 (try dsimp only)
 go_enter Tryz.func67, Tryz.ntmps67
 go_upto_region 1 with fail
 clear hW0
 generalize hS : w.heap.size = S at *
 have HSW := Lib.hid hS
 clear hS
 have c0 := HK0.out.c 0
 have c1 := HK0.out.c 1
 have c2 := HK0.out.c 2
 have c3 := HK0.out.c 3
 have c4 := HK0.out.c 4
 have c5 := HK0.out.c 5
 have c6 := HK0.out.c 6
 have c7 := HK0.out.c 7
 have c8 := HK0.out.c 8
 have c9 := HK0.out.c 9
 have c10 := HK0.out.c 10
 have c11 := HK0.out.c 11
 have fzc : ∀ o, W0.frozen? ⟨S, o, none⟩ = false := fun o => HK0.out.frozen o
 go_wp2_with fail
 refine (HO1.out _ HB0.out).mono ?_; rintro e w1 ⟨m2, fl2, rfl, hst, hb1⟩
 have HB1 := Lib.hid (HB0.out.trans (hb1.mono (by have := HZ0.out; omega)))
 have HKA := Lib.hid (HK0.out.below hb1 HK0.out.lt)
 have HKB := Lib.hid (HK1.out.below hb1 HK1.out.lt)
 have HST := Lib.hid hst
 clear hb1 hst HO1
 clear c0 c1 c2 c3 c4 c5 c6 c7 c8 c9 c10 c11 fzc
 (try unfold StV)
 (try dsimp only)
 obtain ⟨p2, hp2⟩ : ∃ x, ON ⟨i, ⟨g, fq, cq, oq, lm⟩, er⟩ = x := ⟨_, rfl⟩
 rw [hp2] at HST HR0 ⊢
 have HP2 := Lib.hid hp2
 clear hp2
 have c0 := HKA.out.c 0
 have c1 := HKA.out.c 1
 have c2 := HKA.out.c 2
 have c3 := HKA.out.c 3
 have c4 := HKA.out.c 4
 have c5 := HKA.out.c 5
 have c6 := HKA.out.c 6
 have c7 := HKA.out.c 7
 have c8 := HKA.out.c 8
 have c9 := HKA.out.c 9
 have c10 := HKA.out.c 10
 have c11 := HKA.out.c 11
 have fzc : ∀ o, w1.frozen? ⟨S, o, none⟩ = false := fun o => HKA.out.frozen o
 go_wp2_with fail
 have HSG2 : Hid (StG (fun g => G g ∨ S + 2 ≤ g) ⟨⟨ad, nd, cd, ai, ni, ci, an, nn, cn, av, nv, cv⟩, s, ta, tc, L⟩ m2 fl2 p2 ((((((((((((w1.setCell ⟨S, 0, none⟩ (.slice ad nd cd)).setCell ⟨S, 1, none⟩ (.slice ai ni ci)).setCell ⟨S, 2, none⟩ (.slice an nn cn)).setCell ⟨S, 3, none⟩ (.slice av nv cv)).setCell ⟨S, 4, none⟩ (.slice ta L.length tc)).setCell ⟨S, 5, none⟩ (.int .i64 (p2.at' : Int))).setCell ⟨S, 6, none⟩ (.int .u32 p2.q.group)).setCell ⟨S, 7, none⟩ (.slice m2.af m2.nf m2.cf)).setCell ⟨S, 8, none⟩ (.slice m2.ac m2.nc m2.cc)).setCell ⟨S, 9, none⟩ (.slice m2.ao m2.no m2.co)).setCell ⟨S, 10, none⟩ (.int .i64 p2.q.limit)).setCell ⟨S, 11, none⟩ (.int .i64 (p2.err : Int)))) := Lib.hid (fun wx hag => HST.out wx (hag.st12 (b := S) (fun g hg => by have := HSW.out; have := HZ0.out; rcases hg with h | h; have := HGW.out g h; omega; omega) (fun g hg => by have := HSW.out; have := HZ0.out; rcases hg with h | h; exact .inl h; exact .inr (by omega))))
 clear c0 c1 c2 c3 c4 c5 c6 c7 c8 c9 c10 c11 fzc
 have HKA2 := Lib.hid (blk_st12 HKA.out (.slice ad nd cd) (.slice ai ni ci) (.slice an nn cn) (.slice av nv cv) (.slice ta L.length tc) (.int .i64 (p2.at' : Int)) (.int .u32 p2.q.group) (.slice m2.af m2.nf m2.cf) (.slice m2.ac m2.nc m2.cc) (.slice m2.ao m2.no m2.co) (.int .i64 p2.q.limit) (.int .i64 (p2.err : Int)))
 have HKB2 := Lib.hid (blk_far12 HKB.out (b := S) (by omega) (.slice ad nd cd) (.slice ai ni ci) (.slice an nn cn) (.slice av nv cv) (.slice ta L.length tc) (.int .i64 (p2.at' : Int)) (.int .u32 p2.q.group) (.slice m2.af m2.nf m2.cf) (.slice m2.ac m2.nc m2.cc) (.slice m2.ao m2.no m2.co) (.int .i64 p2.q.limit) (.int .i64 (p2.err : Int)))
 have HB2 := Lib.hid (below_st12 HB1.out (b := S) (by have := HSW.out; omega) (.slice ad nd cd) (.slice ai ni ci) (.slice an nn cn) (.slice av nv cv) (.slice ta L.length tc) (.int .i64 (p2.at' : Int)) (.int .u32 p2.q.group) (.slice m2.af m2.nf m2.cf) (.slice m2.ac m2.nc m2.cc) (.slice m2.ao m2.no m2.co) (.int .i64 p2.q.limit) (.int .i64 (p2.err : Int)))
 generalize ((((((((((((w1.setCell ⟨S, 0, none⟩ (.slice ad nd cd)).setCell ⟨S, 1, none⟩ (.slice ai ni ci)).setCell ⟨S, 2, none⟩ (.slice an nn cn)).setCell ⟨S, 3, none⟩ (.slice av nv cv)).setCell ⟨S, 4, none⟩ (.slice ta L.length tc)).setCell ⟨S, 5, none⟩ (.int .i64 (p2.at' : Int))).setCell ⟨S, 6, none⟩ (.int .u32 p2.q.group)).setCell ⟨S, 7, none⟩ (.slice m2.af m2.nf m2.cf)).setCell ⟨S, 8, none⟩ (.slice m2.ac m2.nc m2.cc)).setCell ⟨S, 9, none⟩ (.slice m2.ao m2.no m2.co)).setCell ⟨S, 10, none⟩ (.int .i64 p2.q.limit)).setCell ⟨S, 11, none⟩ (.int .i64 (p2.err : Int))) = w2 at *
 obtain ⟨Z, hZ⟩ : ∃ x, (if isR L p2 b then partR ON L b (L.length - 1) (onR p2) else p2) = x := ⟨_, rfl⟩
 have HRZ : Hid (r = Z) := Lib.hid (by rw [HR0.out, hZ])
 have HZ := Lib.hid hZ
 clear hZ
 go_loopg [] (L.length - 1) (fun q wr => ∃ (mj : QryL) (flj : List Flt) (pj : PState), Blk wr S 122 #[.slice ad nd cd, .slice ai ni ci, .slice an nn cn, .slice av nv cv, .slice ta L.length tc, .int .i64 (pj.at' : Int), .int .u32 pj.q.group, .slice mj.af mj.nf mj.cf, .slice mj.ac mj.nc mj.cc, .slice mj.ao mj.no mj.co, .int .i64 pj.q.limit, .int .i64 (pj.err : Int)] ∧ Blk wr (S + 1) 122 #[.slice none 0 0, .slice none 0 0, .slice none 0 0, .slice none 0 0, .slice none 0 0, .int .i64 0, .int .u32 0, .slice none 0 0, .slice none 0 0, .slice none 0 0, .int .i64 0, .int .i64 0] ∧ StG (fun g => G g ∨ S + 2 ≤ g) ⟨⟨ad, nd, cd, ai, ni, ci, an, nn, cn, av, nv, cv⟩, s, ta, tc, L⟩ mj flj pj wr ∧ Below S w wr ∧ (if isR L pj b then partR ON L b q (onR pj) else pj) = Z ∧ (isR L pj b = true → L.length ≤ q + pj.at' + 1))
 case atStart => exact ⟨m2, fl2, p2, HKA2.out, HKB2.out, HSG2.out, HB2.out, HZ.out, fun _ => by omega⟩
 case round =>
  obtain ⟨mj, flj, pj, hka, hkb, hsg, hb, hz, hq⟩ := hrel
  have HKA3 := Lib.hid hka
  have HKB3 := Lib.hid hkb
  have HSG3 := Lib.hid hsg
  have HB3 := Lib.hid hb
  have HZ3 := Lib.hid hz
  have HQ3 := Lib.hid hq
  clear hka hkb hsg hb hz hq
  obtain ⟨v, hv⟩ : ∃ x, isR L pj b = x := ⟨_, rfl⟩
  have HI3 := Lib.hid (HIS.out mj pj wr HB3.out HSG3.out.here.at' v hv)
  rw [hv] at HZ3 HQ3
  have HV := Lib.hid hv
  clear hv
  unfold StV at HI3
  dsimp only at HI3
  have c0 := HKA3.out.c 0
  have c1 := HKA3.out.c 1
  have c2 := HKA3.out.c 2
  have c3 := HKA3.out.c 3
  have c4 := HKA3.out.c 4
  have c5 := HKA3.out.c 5
  have c6 := HKA3.out.c 6
  have c7 := HKA3.out.c 7
  have c8 := HKA3.out.c 8
  have c9 := HKA3.out.c 9
  have c10 := HKA3.out.c 10
  have c11 := HKA3.out.c 11
  have fzc : ∀ o, wr.frozen? ⟨S, o, none⟩ = false := fun o => HKA3.out.frozen o
  go_wp2_with fail
  refine HI3.out.mono ?_; rintro e w3 ⟨rfl, hb3⟩
  have HB4 := Lib.hid (HB3.out.trans (hb3.mono (by have := HKA3.out.lt; omega)))
  have HKA4 := Lib.hid (HKA3.out.below hb3 HKA3.out.lt)
  have HKB4 := Lib.hid (HKB3.out.below hb3 HKB3.out.lt)
  have HSG4 := Lib.hid (HSG3.out.below hb3)
  clear hb3 HI3
  clear c0 c1 c2 c3 c4 c5 c6 c7 c8 c9 c10 c11 fzc
  rcases v with _ | _
  ·have HPZ : Hid (pj = Z) := Lib.hid HZ3.out
   have c0 := HKA4.out.c 0
   have c1 := HKA4.out.c 1
   have c2 := HKA4.out.c 2
   have c3 := HKA4.out.c 3
   have c4 := HKA4.out.c 4
   have c5 := HKA4.out.c 5
   have c6 := HKA4.out.c 6
   have c7 := HKA4.out.c 7
   have c8 := HKA4.out.c 8
   have c9 := HKA4.out.c 9
   have c10 := HKA4.out.c 10
   have c11 := HKA4.out.c 11
   have d0 := HKB4.out.c 0
   have d1 := HKB4.out.c 1
   have d2 := HKB4.out.c 2
   have d3 := HKB4.out.c 3
   have d4 := HKB4.out.c 4
   have d5 := HKB4.out.c 5
   have d6 := HKB4.out.c 6
   have d7 := HKB4.out.c 7
   have d8 := HKB4.out.c 8
   have d9 := HKB4.out.c 9
   have d10 := HKB4.out.c 10
   have d11 := HKB4.out.c 11
   have fzd : ∀ o, w3.frozen? ⟨S + 1, o, none⟩ = false := fun o => HKB4.out.frozen o
   go_wp2_with fail
   have HAG : Hid (∀ wx, AgrG (fun g => G g ∨ w.heap.size ≤ g) ((((((((((((w3.setCell ⟨S + 1, 0, none⟩ (.slice ad nd cd)).setCell ⟨S + 1, 1, none⟩ (.slice ai ni ci)).setCell ⟨S + 1, 2, none⟩ (.slice an nn cn)).setCell ⟨S + 1, 3, none⟩ (.slice av nv cv)).setCell ⟨S + 1, 4, none⟩ (.slice ta L.length tc)).setCell ⟨S + 1, 5, none⟩ (.int .i64 (pj.at' : Int))).setCell ⟨S + 1, 6, none⟩ (.int .u32 pj.q.group)).setCell ⟨S + 1, 7, none⟩ (.slice mj.af mj.nf mj.cf)).setCell ⟨S + 1, 8, none⟩ (.slice mj.ac mj.nc mj.cc)).setCell ⟨S + 1, 9, none⟩ (.slice mj.ao mj.no mj.co)).setCell ⟨S + 1, 10, none⟩ (.int .i64 pj.q.limit)).setCell ⟨S + 1, 11, none⟩ (.int .i64 (pj.err : Int))) wx → AgrG (fun g => (G g ∨ S + 2 ≤ g) ∧ g < w3.heap.size) w3 wx) := Lib.hid (fun wx hag => hag.st12 (b := S + 1) (fun g hg => by have := HSW.out; rcases hg.1 with h | h; have := HGW.out g h; omega; omega) (fun g hg => by have := HSW.out; rcases hg.1 with h | h; exact .inl h; exact .inr (by omega)))
   have HKF := Lib.hid (blk_st12 (HKB4.out) (.slice ad nd cd) (.slice ai ni ci) (.slice an nn cn) (.slice av nv cv) (.slice ta L.length tc) (.int .i64 (pj.at' : Int)) (.int .u32 pj.q.group) (.slice mj.af mj.nf mj.cf) (.slice mj.ac mj.nc mj.cc) (.slice mj.ao mj.no mj.co) (.int .i64 pj.q.limit) (.int .i64 (pj.err : Int)))
   have HBF := Lib.hid (below_st12 (HB4.out) (b := S + 1) (by have := HSW.out; omega) (.slice ad nd cd) (.slice ai ni ci) (.slice an nn cn) (.slice av nv cv) (.slice ta L.length tc) (.int .i64 (pj.at' : Int)) (.int .u32 pj.q.group) (.slice mj.af mj.nf mj.cf) (.slice mj.ac mj.nc mj.cc) (.slice mj.ao mj.no mj.co) (.int .i64 pj.q.limit) (.int .i64 (pj.err : Int)))
   generalize ((((((((((((w3.setCell ⟨S + 1, 0, none⟩ (.slice ad nd cd)).setCell ⟨S + 1, 1, none⟩ (.slice ai ni ci)).setCell ⟨S + 1, 2, none⟩ (.slice an nn cn)).setCell ⟨S + 1, 3, none⟩ (.slice av nv cv)).setCell ⟨S + 1, 4, none⟩ (.slice ta L.length tc)).setCell ⟨S + 1, 5, none⟩ (.int .i64 (pj.at' : Int))).setCell ⟨S + 1, 6, none⟩ (.int .u32 pj.q.group)).setCell ⟨S + 1, 7, none⟩ (.slice mj.af mj.nf mj.cf)).setCell ⟨S + 1, 8, none⟩ (.slice mj.ac mj.nc mj.cc)).setCell ⟨S + 1, 9, none⟩ (.slice mj.ao mj.no mj.co)).setCell ⟨S + 1, 10, none⟩ (.int .i64 pj.q.limit)).setCell ⟨S + 1, 11, none⟩ (.int .i64 (pj.err : Int))) = Wf at *
   have z0 := HKF.out.c 0
   have z1 := HKF.out.c 1
   have z2 := HKF.out.c 2
   have z3 := HKF.out.c 3
   have z4 := HKF.out.c 4
   have z5 := HKF.out.c 5
   have z6 := HKF.out.c 6
   have z7 := HKF.out.c 7
   have z8 := HKF.out.c 8
   have z9 := HKF.out.c 9
   have z10 := HKF.out.c 10
   have z11 := HKF.out.c 11
   refine bodyPost_ret (v := .agg #[.slice ad nd cd, .slice ai ni ci, .slice an nn cn, .slice av nv cv, .slice ta L.length tc, .int .i64 (pj.at' : Int), .int .u32 pj.q.group, .slice mj.af mj.nf mj.cf, .slice mj.ac mj.nc mj.cc, .slice mj.ao mj.no mj.co, .int .i64 pj.q.limit, .int .i64 (pj.err : Int)]) (by simp [results, Tryz.results67, go_sem, z0, z1, z2, z3, z4, z5, z6, z7, z8, z9, z10, z11]) rfl ?_
   rw [HRZ.out, ← HPZ.out]
   refine ⟨mj, flj, rfl, fun wx hag => ?_, by rw [HSW.out]; exact HBF.out⟩
   exact HSG4.out.cut wx (HAG.out wx hag)
  ·obtain ⟨he0, ha1⟩ := word_at HGD.out HV.out
   obtain ⟨g2, hg2⟩ : ∃ g2, gk = g2 + 1 := ⟨gk - 1, by have := HQ3.out rfl; omega⟩
   have HG2 := Lib.hid hg2
   have HQ4 := Lib.hid (HQ3.out rfl)
   obtain ⟨p4, hp4⟩ : ∃ x, onR pj = x := ⟨_, rfl⟩
   have HOO4 := Lib.hid (fun w' => HOO.out mj pj w' HSG3.out.here.at')
   rw [hp4] at HOO4
   have HE4 : Hid (p4.err = 0 ∧ p4.at' = pj.at' + 1 ∧ p4.q = pj.q) := Lib.hid (by rw [← hp4]; exact ⟨he0, rfl, rfl⟩)
   have HSP := Lib.hid (HSG4.out.cut.same (p' := p4) HE4.out.2.2 (by rw [HE4.out.2.1]; exact ha1) (fun _ => ⟨he0, by rw [HE4.out.2.1]; omega⟩))
   have HPX : Hid ((if isR L (ON p4) b then partR ON L b g2 (onR (ON p4)) else ON p4) = Z) := Lib.hid (by
    rw [← part_succ, ← hg2, ← hp4]; exact HZ3.out)
   clear hg2 hp4 he0 ha1
   unfold StV at HOO4
   dsimp only at HOO4
   have c0 := HKA4.out.c 0
   have c1 := HKA4.out.c 1
   have c2 := HKA4.out.c 2
   have c3 := HKA4.out.c 3
   have c4 := HKA4.out.c 4
   have c5 := HKA4.out.c 5
   have c6 := HKA4.out.c 6
   have c7 := HKA4.out.c 7
   have c8 := HKA4.out.c 8
   have c9 := HKA4.out.c 9
   have c10 := HKA4.out.c 10
   have c11 := HKA4.out.c 11
   have fzc : ∀ o, w3.frozen? ⟨S, o, none⟩ = false := fun o => HKA4.out.frozen o
   go_wp2_with fail
   refine (HOO4.out _).mono ?_; rintro e w4 ⟨rfl, hb4⟩
   have HB5 := Lib.hid (HB4.out.trans (hb4.mono (by have := HKA4.out.lt; omega)))
   have HKA5 := Lib.hid (HKA4.out.below hb4 HKA4.out.lt)
   have HKB5 := Lib.hid (HKB4.out.below hb4 HKB4.out.lt)
   have HSZ5 : Hid (w3.heap.size ≤ w4.heap.size) := Lib.hid hb4.size
   have HON5 := Lib.hid (HON.out mj flj p4 _ w4 HB5.out (HSP.out.below hb4) (fun g hg => Nat.lt_of_lt_of_le hg.2 hb4.size) (.inr HE4.out.1))
   clear hb4 HSP HOO4
   clear c0 c1 c2 c3 c4 c5 c6 c7 c8 c9 c10 c11 fzc
   unfold StV at HON5
   dsimp only at HON5
   go_wp2_with fail
   refine HON5.out.mono ?_; rintro e w5 ⟨m5, fl5, rfl, hst5, hb5⟩
   have HB6 := Lib.hid (HB5.out.trans (hb5.mono (by have := HKA5.out.lt; omega)))
   have HKA6 := Lib.hid (HKA5.out.below hb5 HKA5.out.lt)
   have HKB6 := Lib.hid (HKB5.out.below hb5 HKB5.out.lt)
   have HST6 := Lib.hid hst5
   clear hb5 hst5 HON5
   obtain ⟨p5, hp5⟩ : ∃ x, ON p4 = x := ⟨_, rfl⟩
   have HP5 := Lib.hid (HPO.out p4 HE4.out.1)
   rw [hp5] at HST6 HPX HP5 ⊢
   clear hp5
   (try unfold StV)
   (try dsimp only)
   have c0 := HKA6.out.c 0
   have c1 := HKA6.out.c 1
   have c2 := HKA6.out.c 2
   have c3 := HKA6.out.c 3
   have c4 := HKA6.out.c 4
   have c5 := HKA6.out.c 5
   have c6 := HKA6.out.c 6
   have c7 := HKA6.out.c 7
   have c8 := HKA6.out.c 8
   have c9 := HKA6.out.c 9
   have c10 := HKA6.out.c 10
   have c11 := HKA6.out.c 11
   have fzc : ∀ o, w5.frozen? ⟨S, o, none⟩ = false := fun o => HKA6.out.frozen o
   go_wp2_with fail
   have HSG7 : Hid (StG (fun g => G g ∨ S + 2 ≤ g) ⟨⟨ad, nd, cd, ai, ni, ci, an, nn, cn, av, nv, cv⟩, s, ta, tc, L⟩ m5 fl5 p5 ((((((((((((w5.setCell ⟨S, 0, none⟩ (.slice ad nd cd)).setCell ⟨S, 1, none⟩ (.slice ai ni ci)).setCell ⟨S, 2, none⟩ (.slice an nn cn)).setCell ⟨S, 3, none⟩ (.slice av nv cv)).setCell ⟨S, 4, none⟩ (.slice ta L.length tc)).setCell ⟨S, 5, none⟩ (.int .i64 (p5.at' : Int))).setCell ⟨S, 6, none⟩ (.int .u32 p5.q.group)).setCell ⟨S, 7, none⟩ (.slice m5.af m5.nf m5.cf)).setCell ⟨S, 8, none⟩ (.slice m5.ac m5.nc m5.cc)).setCell ⟨S, 9, none⟩ (.slice m5.ao m5.no m5.co)).setCell ⟨S, 10, none⟩ (.int .i64 p5.q.limit)).setCell ⟨S, 11, none⟩ (.int .i64 (p5.err : Int)))) := Lib.hid (fun wx hag => HST6.out wx (hag.st12 (b := S) (fun g hg => by have := HSW.out; have := HKB4.out.lt; have := HSZ5.out; rcases hg with h | h; rcases h.1 with h2 | h2; have := HGW.out g h2; omega; omega; omega) (fun g hg => by have := HSW.out; have := HKB4.out.lt; have := HSZ5.out; rcases hg with h | h; exact h.1; exact .inr (by omega))))
   clear c0 c1 c2 c3 c4 c5 c6 c7 c8 c9 c10 c11 fzc
   have HKA7 := Lib.hid (blk_st12 HKA6.out (.slice ad nd cd) (.slice ai ni ci) (.slice an nn cn) (.slice av nv cv) (.slice ta L.length tc) (.int .i64 (p5.at' : Int)) (.int .u32 p5.q.group) (.slice m5.af m5.nf m5.cf) (.slice m5.ac m5.nc m5.cc) (.slice m5.ao m5.no m5.co) (.int .i64 p5.q.limit) (.int .i64 (p5.err : Int)))
   have HKB7 := Lib.hid (blk_far12 HKB6.out (b := S) (by omega) (.slice ad nd cd) (.slice ai ni ci) (.slice an nn cn) (.slice av nv cv) (.slice ta L.length tc) (.int .i64 (p5.at' : Int)) (.int .u32 p5.q.group) (.slice m5.af m5.nf m5.cf) (.slice m5.ac m5.nc m5.cc) (.slice m5.ao m5.no m5.co) (.int .i64 p5.q.limit) (.int .i64 (p5.err : Int)))
   have HB7 := Lib.hid (below_st12 HB6.out (b := S) (by have := HSW.out; omega) (.slice ad nd cd) (.slice ai ni ci) (.slice an nn cn) (.slice av nv cv) (.slice ta L.length tc) (.int .i64 (p5.at' : Int)) (.int .u32 p5.q.group) (.slice m5.af m5.nf m5.cf) (.slice m5.ac m5.nc m5.cc) (.slice m5.ao m5.no m5.co) (.int .i64 p5.q.limit) (.int .i64 (p5.err : Int)))
   generalize ((((((((((((w5.setCell ⟨S, 0, none⟩ (.slice ad nd cd)).setCell ⟨S, 1, none⟩ (.slice ai ni ci)).setCell ⟨S, 2, none⟩ (.slice an nn cn)).setCell ⟨S, 3, none⟩ (.slice av nv cv)).setCell ⟨S, 4, none⟩ (.slice ta L.length tc)).setCell ⟨S, 5, none⟩ (.int .i64 (p5.at' : Int))).setCell ⟨S, 6, none⟩ (.int .u32 p5.q.group)).setCell ⟨S, 7, none⟩ (.slice m5.af m5.nf m5.cf)).setCell ⟨S, 8, none⟩ (.slice m5.ac m5.nc m5.cc)).setCell ⟨S, 9, none⟩ (.slice m5.ao m5.no m5.co)).setCell ⟨S, 10, none⟩ (.int .i64 p5.q.limit)).setCell ⟨S, 11, none⟩ (.int .i64 (p5.err : Int))) = w6 at *
   go_roundg g2
   case measure => have := HG2.out; omega
   case rel => exact ⟨m5, fl5, p5, HKA7.out, HKB7.out, HSG7.out, HB7.out, HPX.out, fun h => by
    have h1 := word_at HGD.out h
    have h2 := HP5.out h1.1
    have h3 := HQ4.out
    have h4 := HG2.out
    have h5 := HE4.out.2.1
    omega⟩
end Go.Proofs.YtaofjnidniekjaaGreatDoor
