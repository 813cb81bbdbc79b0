/- The reference's reading (package bushelref36): where its states stand (plain); group. Conditions: those stated. -/
import Derived.Test.YtaofjnidniekjaaGreatDoorMRfA
import Derived.Test.YtaofjnidniekjaaGreatDoorMPaC
import Derived.Test.YtaofjnidniekjaaGreatDoorMPaD
import Derived.Test.YtaofjnidniekjaaGreatDoorMReg
import Derived.Deep.DeepCutAuto
import Derived.StillTailTactics
namespace Go.Proofs.YtaofjnidniekjaaGreatDoor
open Go.RowKit

theorem word_at {L : List Tok} (h : TokOk L) {p : PState} {t : List UInt8} (hw : isR L p t = true) : p.err = 0 ∧ p.at' + 1 < L.length := by
 unfold isR at hw
 simp only [Bool.and_eq_true, decide_eq_true_eq] at hw
 exact ⟨hw.1, word_next h hw.2⟩
theorem fail_at (p : PState) (e : Nat) : (failR p e).at' = p.at' ∧ (failR p e).q = p.q := by
 unfold failR; split <;> exact ⟨rfl, rfl⟩
theorem fail_err {p : PState} {e : Nat} (he : e ≠ 0) : (failR p e).err ≠ 0 := by
 unfold failR; split
 ·exact he
 ·rename_i h; exact h
theorem want_at {L : List Tok} (h : TokOk L) {p : PState} {t : List UInt8} (hp : p.at' < L.length) : (wantR L p t).at' < L.length ∧ (wantR L p t).q = p.q ∧ ((wantR L p t).err = 0 → p.err = 0 ∧ (wantR L p t).at' = p.at' + 1) := by
 unfold wantR
 split
 ·rename_i hw
  have := word_at h hw
  exact ⟨this.2, rfl, fun _ => ⟨this.1, rfl⟩⟩
 ·have := fail_at p 6
  exact ⟨by rw [this.1]; exact hp, this.2, fun he => absurd he (fail_err (by decide))⟩
theorem num_at {L : List Tok} (h : TokOk L) {p : PState} (hp : p.at' < L.length) : (numTR L p).1.at' < L.length ∧ (numTR L p).1.q = p.q ∧ ((numTR L p).1.err = 0 → p.err = 0 ∧ (numTR L p).1.at' = p.at' + 1) ∧ 0 ≤ (numTR L p).2 ∧ (numTR L p).2 ≤ 1000000000000000000 := by
 unfold numTR
 split
 ·have := fail_at p 6
  exact ⟨by rw [this.1]; exact hp, this.2, fun he => absurd he (fail_err (by decide)), Int.le_refl 0, show (0 : Int) ≤ _ by decide⟩
 ·rename_i hk
  have h0 : p.err = 0 := Classical.byContradiction fun h => hk (.inl h)
  have h3 : (tokAt L p.at').k = 3 := Classical.byContradiction fun h => hk (.inr h)
  exact ⟨h.next hp (by omega), rfl, fun _ => ⟨h0, rfl⟩, h.num _ (tokAt_mem hp).2⟩
theorem place_at {L : List Tok} (h : TokOk L) (names : List ByteArray) {p : PState} (hp : p.at' < L.length) : (placeR names L p).1.at' < L.length ∧ (placeR names L p).1.q = p.q ∧ ((placeR names L p).1.err = 0 → p.err = 0 ∧ (placeR names L p).1.at' = p.at' + 1 ∧ (placeR names L p).2 < names.length) ∧ ((placeR names L p).2 < names.length ∨ (placeR names L p).2 = 0) := by
 unfold placeR
 split
 ·have := fail_at p 6
  exact ⟨by rw [this.1]; exact hp, this.2, fun he => absurd he (fail_err (by decide)), .inr rfl⟩
 ·rename_i hk
  have h0 : p.err = 0 := Classical.byContradiction fun h => hk (.inl h)
  have h2 : (tokAt L p.at').k = 2 := Classical.byContradiction fun h => hk (.inr h)
  split
  ·have := fail_at p 11
   exact ⟨by rw [this.1]; exact hp, this.2, fun he => absurd he (fail_err (by decide)), .inr rfl⟩
  ·rename_i hl
   have := place_lt (place_mem.1 (Int.not_lt.1 hl))
   exact ⟨h.next hp (by omega), rfl, fun _ => ⟨h0, rfl, by dsimp only; omega⟩, .inl (by dsimp only; omega)⟩
/-- a state of which a reading may go on -/
structure StOk (X : RX) (m : QryL) (fl : List Flt) (p : PState) (w : World) : Prop where
 q : QryAt w m (p.q.at' fl)
 fs : fl.map (fun f => (f.dim, f.codes)) = p.q.flts
 grp : 0 ≤ p.q.group ∧ p.q.group < 2 ^ X.s.dims.length
 len : p.err = 0 → p.q.cols.length ≤ p.at' ∧ p.q.ord.length ≤ p.at' ∧ p.q.flts.length ≤ p.at'
 at' : p.at' < X.L.length
/-- the good blocks are as they were -/
structure AgrG (G : Nat → Prop) (w wx : World) : Prop where
 os : wx.os = w.os
 tape : wx.tape = w.tape
 output : wx.output = w.output
 size : w.heap.size ≤ wx.heap.size
 block : ∀ g, g < w.heap.size → G g → wx.heap[g]? = w.heap[g]?
theorem AgrG.refl (G : Nat → Prop) (w : World) : AgrG G w w := ⟨rfl, rfl, rfl, Nat.le_refl _, fun _ _ _ => rfl⟩
theorem AgrG.old {G : Nat → Prop} {w w' wx : World} (h : AgrG (fun g => G g ∨ w.heap.size ≤ g) w' wx) (hb : Below w.heap.size w w') : AgrG G w wx :=
 ⟨h.os.trans hb.os, h.tape.trans hb.tape, h.output.trans hb.output, Nat.le_trans hb.size h.size, fun g hg hG => (h.block g (Nat.lt_of_lt_of_le hg hb.size) (.inl hG)).trans (hb.block g hg)⟩
theorem own_agr {G : Nat → Prop} {w' wx : World} {N B s n : Nat} {e : TypeId} {v : Value} {cs : List Value} (h : AgrG (fun g => G g ∨ N ≤ g) w' wx) (ho : w'.ownsRow B e s v n cs) (hB : N ≤ B) : wx.ownsRow B e s v n cs := by
 refine ⟨ho.1, ?_⟩
 rcases ho.2 with h2 | ⟨g, cap, cur, hv, hg, hh, r⟩
 ·exact .inl h2
 ·refine .inr ⟨g, cap, cur, hv, hg, ?_, r⟩
  rw [h.block g (Array.getElem?_eq_some_iff.1 hh).1 (.inr (Nat.le_trans hB hg))]; exact hh
/-- a state of which a reading may go on, as long as the good blocks stay -/
def StG (G : Nat → Prop) (X : RX) (m : QryL) (fl : List Flt) (p : PState) (w : World) : Prop := ∀ wx, AgrG G w wx → StOk X m fl p wx
theorem StG.here {G : Nat → Prop} {X : RX} {m : QryL} {fl : List Flt} {p : PState} {w : World} (h : StG G X m fl p w) : StOk X m fl p w := h w (AgrG.refl G w)
theorem StG.below {G : Nat → Prop} {X : RX} {m : QryL} {fl : List Flt} {p : PState} {w w' : World} (h : StG G X m fl p w) (hb : Below w.heap.size w w') : StG G X m fl p w' := fun wx ha =>
 h wx ⟨ha.os.trans hb.os, ha.tape.trans hb.tape, ha.output.trans hb.output, Nat.le_trans hb.size ha.size, fun g hg hG => (ha.block g (Nat.lt_of_lt_of_le hg hb.size) hG).trans (hb.block g hg)⟩
/-- a call's answer: a state of which a reading may go on -/
def RStO (X : RX) (p : PState) (G : Nat → Prop) (w : World) (e : Ending) (w' : World) : Prop := ∃ m fl, e = .returned (StV X m p) ∧ StG (fun g => G g ∨ w.heap.size ≤ g) X m fl p w' ∧ Below w.heap.size w w'
/-- another state of the same query -/
theorem StOk.same {X : RX} {m : QryL} {fl : List Flt} {p p' : PState} {w : World} (h : StOk X m fl p w) (hq : p'.q = p.q) (ha : p'.at' < X.L.length) (he : p'.err = 0 → p.err = 0 ∧ p.at' ≤ p'.at') : StOk X m fl p' w :=
 ⟨by rw [hq]; exact h.q, by rw [hq]; exact h.fs, by rw [hq]; exact h.grp, fun h0 => by
  obtain ⟨h1, h2⟩ := he h0
  obtain ⟨h3, h4, h5⟩ := h.len h1
  rw [hq]
  exact ⟨by omega, by omega, by omega⟩, ha⟩

theorem group_qry {w : World} {m : QryL} {q : QP} {fl : List Flt} {g : Int} (h : QryAt w m (q.at' fl)) (hg : 0 ≤ g ∧ g ≤ 4294967295) : QryAt w m (({ q with group := g } : QP).at' fl) := ⟨h.1, h.2.1, h.2.2.1, h.2.2.2.1, h.2.2.2.2.1, hg, h.2.2.2.2.2.2⟩
set_option maxRecDepth 100000 in
set_option maxHeartbeats 1000000 in
theorem vgroup_any (X : RX) (m : QryL) (fl : List Flt) (p : PState) (G : Nat → Prop) (w : World) (hX : X.At w) (hpG : StG G X m fl p w) :
  Calls Tryz.prog 104 #[StV X m p] w (RStO X (groupR (dimN X.s) X.L p) G w) := by
 have hp := hpG.here
 have HSG := Lib.hid hpG
 clear hpG
 have hnd := (chk_dims hX.chk).1
 have HDL : Hid ((dimN X.s).length = X.s.dims.length) := Lib.hid (List.length_map _)
 have hdl := HDL.out
 have HPA := Lib.hid (place_at hX.good (dimN X.s) hp.at')
 have HST := Lib.hid hp
 have HD := Lib.hid (fun (w' : World) (hb : Below w.heap.size w w') => vdim_any X m p w' (hX.below hb (Nat.le_refl _)) hp.at')
 have HFA : Hid (∀ w', Calls Tryz.prog 73 #[StV X m p, .int .i64 (9 : Int)] w' (RSt X m (failR p 9) w')) := Lib.hid (fun w' => vfail_any X m p w' 9)
 have HGR : Hid (groupR (dimN X.s) X.L p = if (placeR (dimN X.s) X.L p).1.err = 0 ∧ p.q.group / 2 ^ (placeR (dimN X.s) X.L p).2 % 2 = 1 then failR p 9 else if (placeR (dimN X.s) X.L p).1.err = 0 then { (placeR (dimN X.s) X.L p).1 with q := { (placeR (dimN X.s) X.L p).1.q with group := (placeR (dimN X.s) X.L p).1.q.group + 2 ^ (placeR (dimN X.s) X.L p).2 } } else (placeR (dimN X.s) X.L p).1) := Lib.hid rfl
 have hg1 : p.q.group ≤ 4294967295 := hp.q.2.2.2.2.2.1.2
 have hg0 : 0 ≤ p.q.group := hp.grp.1
 obtain ⟨r, hr⟩ : ∃ x, groupR (dimN X.s) X.L p = x := ⟨_, rfl⟩
 rw [hr] at HGR ⊢
 obtain ⟨⟨p1, d⟩, hp1⟩ : ∃ x, placeR (dimN X.s) X.L p = x := ⟨_, rfl⟩
 rw [hp1] at HPA HGR HD
 have hd31 : d ≤ 5 := by have := HPA.out.2.2.2; dsimp only at this; omega
 have HPR := Lib.hid hp1
 clear hp1 hr hX hp
 obtain ⟨p9, hp9⟩ : ∃ x, failR p 9 = x := ⟨_, rfl⟩
 rw [hp9] at HFA HGR
 have HP9 := Lib.hid hp9
 clear hp9
 unfold RSt RStN at *
 have HIN := Lib.hid (fun w => rin_any p.q.group d w (by omega) hg0 hg1)
 have HTW := Lib.hid (fun w => rtwo_any d w (by omega))
 obtain ⟨bi, hbi⟩ : ∃ x, inM p.q.group d = x := ⟨_, rfl⟩
 rw [hbi] at HIN
 have HBI := Lib.hid hbi
 clear hbi
 dsimp only at HPA HGR
 have hq1 : p1.q = p.q := HPA.out.2.1
 obtain ⟨i1, q1, e1⟩ := p1
 dsimp only at hq1
 subst hq1
 unfold StV at *
 obtain ⟨⟨ad, nd, cd, ai, ni, ci, an, nn, cn, av, nv, cv⟩, s, ta, tc, L⟩ := X
 obtain ⟨af, nf, cf, ac, nc, cc, ao, no, co⟩ := m
 obtain ⟨i, ⟨g, fq, cq, oq, lm⟩, er⟩ := p
 (try dsimp only at *)
 obtain ⟨W0, hW0⟩ : ∃ W0, ((w.alloc (.cells #[.slice ad nd cd, .slice ai ni ci, .slice an nn cn, .slice av nv cv, .slice ta L.length tc, .int .i64 (i : Int), .int .u32 g, .slice af nf cf, .slice ac nc cc, .slice ao no co, .int .i64 lm, .int .i64 (er : Int)] 122)).alloc (.cells #[.slice none 0 0, .slice none 0 0, .slice none 0 0, .slice none 0 0, .slice none 0 0, .int .i64 0, .int .u32 0, .slice none 0 0, .slice none 0 0, .slice none 0 0, .int .i64 0, .int .i64 0] 122)) = W0 := ⟨_, rfl⟩
 have HB0 : Hid (Below w.heap.size w W0) := Lib.hid (by
  rw [← hW0]
  exact (((Below.refl _ _).alloc (Nat.le_refl _) _).alloc (by simp) _))
 have HZ0 : Hid (W0.heap.size = w.heap.size + 2) := Lib.hid (by rw [← hW0]; simp)
 have HK0 : Hid (Blk W0 (w.heap.size) 122 #[.slice ad nd cd, .slice ai ni ci, .slice an nn cn, .slice av nv cv, .slice ta L.length tc, .int .i64 (i : Int), .int .u32 g, .slice af nf cf, .slice ac nc cc, .slice ao no co, .int .i64 lm, .int .i64 (er : Int)]) := Lib.hid (by
  rw [← hW0]
  have h := Blk.new w 122 #[.slice ad nd cd, .slice ai ni ci, .slice an nn cn, .slice av nv cv, .slice ta L.length tc, .int .i64 (i : Int), .int .u32 g, .slice af nf cf, .slice ac nc cc, .slice ao no co, .int .i64 lm, .int .i64 (er : Int)]
  exact h.alloc _)
 have HK1 : Hid (Blk W0 (w.heap.size + 1) 122 #[.slice none 0 0, .slice none 0 0, .slice none 0 0, .slice none 0 0, .slice none 0 0, .int .i64 0, .int .u32 0, .slice none 0 0, .slice none 0 0, .slice none 0 0, .int .i64 0, .int .i64 0]) := Lib.hid (by
  rw [← hW0]
  have h := Blk.new (w.alloc (.cells #[.slice ad nd cd, .slice ai ni ci, .slice an nn cn, .slice av nv cv, .slice ta L.length tc, .int .i64 (i : Int), .int .u32 g, .slice af nf cf, .slice ac nc cc, .slice ao no co, .int .i64 lm, .int .i64 (er : Int)] 122)) 122 #[.slice none 0 0, .slice none 0 0, .slice none 0 0, .slice none 0 0, .slice none 0 0, .int .i64 0, .int .u32 0, .slice none 0 0, .slice none 0 0, .slice none 0 0, .int .i64 0, .int .i64 0]
  rw [World.size_alloc] at h
  exact h)
 (try unfold StV)
 (try dsimp only)
 go_enter Tryz.func104, Tryz.ntmps104
 go_upto_region 1 with fail
 clear hW0
 generalize hS : w.heap.size = S at *
 have HSW := Lib.hid hS
 clear hS
 have c0 := HK0.out.c 0
 have c1 := HK0.out.c 1
 have c2 := HK0.out.c 2
 have c3 := HK0.out.c 3
 have c4 := HK0.out.c 4
 have c5 := HK0.out.c 5
 have c6 := HK0.out.c 6
 have c7 := HK0.out.c 7
 have c8 := HK0.out.c 8
 have c9 := HK0.out.c 9
 have c10 := HK0.out.c 10
 have c11 := HK0.out.c 11
 go_wp2_with fail
 refine (HD.out _ HB0.out).mono ?_; rintro e w1 ⟨rfl, hb1⟩
 have HB1 := Lib.hid (HB0.out.trans (hb1.mono (by have := HZ0.out; omega)))
 have HKA := Lib.hid ((HK0.out.below hb1 HK0.out.lt).alloc (.cells #[.slice ad nd cd, .slice ai ni ci, .slice an nn cn, .slice av nv cv, .slice ta L.length tc, .int .i64 (i1 : Int), .int .u32 g, .slice af nf cf, .slice ac nc cc, .slice ao no co, .int .i64 lm, .int .i64 (e1 : Int)] 122))
 have HKB := Lib.hid ((HK1.out.below hb1 HK1.out.lt).alloc (.cells #[.slice ad nd cd, .slice ai ni ci, .slice an nn cn, .slice av nv cv, .slice ta L.length tc, .int .i64 (i1 : Int), .int .u32 g, .slice af nf cf, .slice ac nc cc, .slice ao no co, .int .i64 lm, .int .i64 (e1 : Int)] 122))
 have HKY := Lib.hid (Blk.new w1 122 #[.slice ad nd cd, .slice ai ni ci, .slice an nn cn, .slice av nv cv, .slice ta L.length tc, .int .i64 (i1 : Int), .int .u32 g, .slice af nf cf, .slice ac nc cc, .slice ao no co, .int .i64 lm, .int .i64 (e1 : Int)])
 have HB2 := Lib.hid (HB1.out.alloc (by have := HB1.out.size; have := HSW.out; omega) (.cells #[.slice ad nd cd, .slice ai ni ci, .slice an nn cn, .slice av nv cv, .slice ta L.length tc, .int .i64 (i1 : Int), .int .u32 g, .slice af nf cf, .slice ac nc cc, .slice ao no co, .int .i64 lm, .int .i64 (e1 : Int)] 122))
 have HSY : Hid (S + 1 < w1.heap.size) := Lib.hid (HK1.out.below hb1 HK1.out.lt).lt
 have hSl : S < w1.heap.size := by have := HSY.out; omega
 clear hb1
 clear c0 c1 c2 c3 c4 c5 c6 c7 c8 c9 c10 c11
 go_upto_region 2 with fail
 generalize w1.alloc (.cells #[.slice ad nd cd, .slice ai ni ci, .slice an nn cn, .slice av nv cv, .slice ta L.length tc, .int .i64 (i1 : Int), .int .u32 g, .slice af nf cf, .slice ac nc cc, .slice ao no co, .int .i64 lm, .int .i64 (e1 : Int)] 122) = w2 at *
 generalize w1.heap.size = Y at *
 have y0 := HKY.out.c 0
 have y1 := HKY.out.c 1
 have y2 := HKY.out.c 2
 have y3 := HKY.out.c 3
 have y4 := HKY.out.c 4
 have y5 := HKY.out.c 5
 have y6 := HKY.out.c 6
 have y7 := HKY.out.c 7
 have y8 := HKY.out.c 8
 have y9 := HKY.out.c 9
 have y10 := HKY.out.c 10
 have y11 := HKY.out.c 11
 have c0 := HKA.out.c 0
 have c1 := HKA.out.c 1
 have c2 := HKA.out.c 2
 have c3 := HKA.out.c 3
 have c4 := HKA.out.c 4
 have c5 := HKA.out.c 5
 have c6 := HKA.out.c 6
 have c7 := HKA.out.c 7
 have c8 := HKA.out.c 8
 have c9 := HKA.out.c 9
 have c10 := HKA.out.c 10
 have c11 := HKA.out.c 11
 have HFZ : Hid (∀ o, w2.frozen? ⟨Y, o, none⟩ = false) := Lib.hid (fun o => HKY.out.frozen o)
 by_cases h0 : e1 = 0
 ·have t0 : ((e1 : Int) == 0) = true := by rw [h0]; rfl
  have H0 := Lib.hid h0
  clear h0
  go_wp2_with fail
  refine (HIN.out _).mono ?_; rintro e w3 ⟨rfl, rfl⟩
  rcases bi with _ | _
  ·have hb2 : ¬ g / 2 ^ d % 2 = 1 := by have h := HBI.out; unfold inM at h; exact of_decide_eq_false h
   have HRR : Hid (r = ⟨i1, ⟨g + 2 ^ d, fq, cq, oq, lm⟩, e1⟩) := Lib.hid (by rw [HGR.out, if_neg (fun h => hb2 h.2), if_pos H0.out])
   have HBO := Lib.hid (grp_or HST.out.grp.1 HST.out.grp.2 hnd (by have := (HPA.out.2.2.1 H0.out).2.2; have := HDL.out; dsimp only at *; omega) hb2)
   have hw : IntKind.u32.wrap (g + 2 ^ d) = g + 2 ^ d := IntWalk.u32_in _ ⟨HBO.out.2.1, by
    have h1 := HBO.out.2.2
    have : s.dims.length = 0 ∨ s.dims.length = 1 ∨ s.dims.length = 2 ∨ s.dims.length = 3 ∨ s.dims.length = 4 ∨ s.dims.length = 5 ∨ s.dims.length = 6 := by omega
    dsimp only at h1
    rcases this with e | e | e | e | e | e | e <;> rw [e] at h1 <;> omega⟩
   have HG32 : Hid (g + 2 ^ d ≤ 4294967295) := Lib.hid (by
    have h1 := HBO.out.2.2
    have : s.dims.length = 0 ∨ s.dims.length = 1 ∨ s.dims.length = 2 ∨ s.dims.length = 3 ∨ s.dims.length = 4 ∨ s.dims.length = 5 ∨ s.dims.length = 6 := by omega
    dsimp only at h1
    rcases this with e | e | e | e | e | e | e <;> rw [e] at h1 <;> omega)
   clear hb2
   go_upto_region 5 with fail
   refine wp_regionN (fun w' => w'.cell? ⟨Y, 6, none⟩ = some (.int .u32 g)) [8] (by kernel_rfl) (by exact (show w2.drew.cell? ⟨Y, 6, none⟩ = some (.int .u32 g) from y6)) (fun hHeld => ?_)
   refine wpAnyN_t 0 ⟨some 25, _, _, _, _, _⟩ ?_ rfl ?_ ?_
   rotate_left 1
   ·(intro w hSw; (try dsimp only at hSw); go_simp; try with_reducible rfl)
   try simp only [Act.put, putA, putB, putC]
   refine wpAnyN_t 1 ⟨some 26, _, _, _, _, _⟩ ?_ rfl ?_ ?_
   rotate_left 1
   ·(intro w hSw; (try dsimp only at hSw); go_simp; try with_reducible rfl)
   try simp only [Act.put, putA, putB, putC]
   refine wpAnyN_t 2 ⟨some 27, _, _, _, _, _⟩ ?_ rfl ?_ ?_
   rotate_left 1
   ·(intro w hSw; (try dsimp only at hSw); go_simp; try with_reducible rfl)
   try simp only [Act.put, putA, putB, putC]
   refine wpAnyN_t 3 ⟨some 28, _, _, _, _, _⟩ ?_ rfl ?_ ?_
   rotate_left 1
   ·(intro w hSw; (try dsimp only at hSw); go_simp; try with_reducible rfl)
   try simp only [Act.put, putA, putB, putC]
   refine wpAnyN_one (i := 4) (o := ⟨some 29, _, _, _, _, _⟩) (by kernel_rfl) rfl (fun K hK => ?_)
   go_simp
   refine (HTW.out _).mono ?_; rintro e w5 ⟨rfl, rfl⟩
   refine hK.out _ _ (by exact hHeld) ?_
   clear hK K hHeld
   intro hHeld
   try simp only [Act.put, putA, putB, putC]
   refine wpAnyN_t 5 ⟨some 30, _, _, _, _, _⟩ ?_ rfl ?_ ?_
   rotate_left 1
   ·(intro w hSw; (try dsimp only at hSw); go_simp; try with_reducible rfl)
   try simp only [Act.put, putA, putB, putC]
   refine wpAnyN_t 6 ⟨some 31, _, _, _, _, _⟩ ?_ rfl ?_ ?_
   rotate_left 1
   ·(intro w hSw; (try dsimp only at hSw); go_simp; try with_reducible rfl)
   try simp only [Act.put, putA, putB, putC]
   refine wpAnyN_t 7 ⟨some 32, _, _, _, _, _⟩ ?_ rfl ?_ ?_
   rotate_left 1
   ·(intro w hSw; (try dsimp only at hSw); go_simp; try with_reducible rfl)
   try simp only [Act.put, putA, putB, putC]
   refine wpAnyN_late (i := 8) (o := ⟨none, _, _, _, _, _⟩) (by kernel_rfl) (by kernel_rfl) rfl (fun K hK => ?_)
   have y6 := hHeld
   have fy := HFZ.out
   go_simp
   refine hK.out _ _ ?_
   clear hK K
   try simp only [Act.put, putA, putB, putC]
   refine wpAnyN_end (by kernel_rfl) ?_
   have HKY5 := Lib.hid (HKY.out.set_ 6 (.int .u32 (g + 2 ^ d))).drew
   have HKB5 := Lib.hid (HKB.out.far (p := ⟨Y, 6, none⟩) (by have := HSY.out; show S + 1 ≠ Y; omega) (.int .u32 (g + 2 ^ d))).drew
   have HB5 := Lib.hid (blk_d (below_set HB2.out (p := ⟨Y, 6, none⟩) (by have := HSY.out; have := HSW.out; show _ ≤ Y; omega) (.int .u32 (g + 2 ^ d))))
   generalize (w2.setCell ⟨Y, 6, none⟩ (.int .u32 (g + 2 ^ d))).drew = w5 at *
   clear y0 y1 y2 y3 y4 y5 y6 y7 y8 y9 y10 y11
   clear c0 c1 c2 c3 c4 c5 c6 c7 c8 c9 c10 c11
   have y0 : w5.cell? ⟨Y, 0, none⟩ = some (.slice ad nd cd) := HKY5.out.cell 0
   have y1 : w5.cell? ⟨Y, 1, none⟩ = some (.slice ai ni ci) := HKY5.out.cell 1
   have y2 : w5.cell? ⟨Y, 2, none⟩ = some (.slice an nn cn) := HKY5.out.cell 2
   have y3 : w5.cell? ⟨Y, 3, none⟩ = some (.slice av nv cv) := HKY5.out.cell 3
   have y4 : w5.cell? ⟨Y, 4, none⟩ = some (.slice ta L.length tc) := HKY5.out.cell 4
   have y5 : w5.cell? ⟨Y, 5, none⟩ = some (.int .i64 (i1 : Int)) := HKY5.out.cell 5
   have y6 : w5.cell? ⟨Y, 6, none⟩ = some (.int .u32 (g + 2 ^ d)) := HKY5.out.cell 6
   have y7 : w5.cell? ⟨Y, 7, none⟩ = some (.slice af nf cf) := HKY5.out.cell 7
   have y8 : w5.cell? ⟨Y, 8, none⟩ = some (.slice ac nc cc) := HKY5.out.cell 8
   have y9 : w5.cell? ⟨Y, 9, none⟩ = some (.slice ao no co) := HKY5.out.cell 9
   have y10 : w5.cell? ⟨Y, 10, none⟩ = some (.int .i64 lm) := HKY5.out.cell 10
   have y11 : w5.cell? ⟨Y, 11, none⟩ = some (.int .i64 (e1 : Int)) := HKY5.out.cell 11
   have d0 := HKB5.out.c 0
   have d1 := HKB5.out.c 1
   have d2 := HKB5.out.c 2
   have d3 := HKB5.out.c 3
   have d4 := HKB5.out.c 4
   have d5 := HKB5.out.c 5
   have d6 := HKB5.out.c 6
   have d7 := HKB5.out.c 7
   have d8 := HKB5.out.c 8
   have d9 := HKB5.out.c 9
   have d10 := HKB5.out.c 10
   have d11 := HKB5.out.c 11
   have fzd : ∀ o, w5.frozen? ⟨S + 1, o, none⟩ = false := fun o => HKB5.out.frozen o
   go_wp2_with fail
   have HKF := Lib.hid (blk_st12 (HKB5.out) (.slice ad nd cd) (.slice ai ni ci) (.slice an nn cn) (.slice av nv cv) (.slice ta L.length tc) (.int .i64 (i1 : Int)) (.int .u32 (g + 2 ^ d)) (.slice af nf cf) (.slice ac nc cc) (.slice ao no co) (.int .i64 lm) (.int .i64 (e1 : Int)))
   have HBF := Lib.hid (below_st12 (HB5.out) (b := S + 1) (by have := HSW.out; omega) (.slice ad nd cd) (.slice ai ni ci) (.slice an nn cn) (.slice av nv cv) (.slice ta L.length tc) (.int .i64 (i1 : Int)) (.int .u32 (g + 2 ^ d)) (.slice af nf cf) (.slice ac nc cc) (.slice ao no co) (.int .i64 lm) (.int .i64 (e1 : Int)))
   generalize ((((((((((((w5.setCell ⟨S + 1, 0, none⟩ (.slice ad nd cd)).setCell ⟨S + 1, 1, none⟩ (.slice ai ni ci)).setCell ⟨S + 1, 2, none⟩ (.slice an nn cn)).setCell ⟨S + 1, 3, none⟩ (.slice av nv cv)).setCell ⟨S + 1, 4, none⟩ (.slice ta L.length tc)).setCell ⟨S + 1, 5, none⟩ (.int .i64 (i1 : Int))).setCell ⟨S + 1, 6, none⟩ (.int .u32 (g + 2 ^ d))).setCell ⟨S + 1, 7, none⟩ (.slice af nf cf)).setCell ⟨S + 1, 8, none⟩ (.slice ac nc cc)).setCell ⟨S + 1, 9, none⟩ (.slice ao no co)).setCell ⟨S + 1, 10, none⟩ (.int .i64 lm)).setCell ⟨S + 1, 11, none⟩ (.int .i64 (e1 : Int))) = Wf at *
   have z0 := HKF.out.c 0
   have z1 := HKF.out.c 1
   have z2 := HKF.out.c 2
   have z3 := HKF.out.c 3
   have z4 := HKF.out.c 4
   have z5 := HKF.out.c 5
   have z6 := HKF.out.c 6
   have z7 := HKF.out.c 7
   have z8 := HKF.out.c 8
   have z9 := HKF.out.c 9
   have z10 := HKF.out.c 10
   have z11 := HKF.out.c 11
   refine bodyPost_ret (v := .agg #[.slice ad nd cd, .slice ai ni ci, .slice an nn cn, .slice av nv cv, .slice ta L.length tc, .int .i64 (i1 : Int), .int .u32 (g + 2 ^ d), .slice af nf cf, .slice ac nc cc, .slice ao no co, .int .i64 lm, .int .i64 (e1 : Int)]) (by simp [results, Tryz.results104, go_sem, z0, z1, z2, z3, z4, z5, z6, z7, z8, z9, z10, z11]) rfl ?_
   rw [HRR.out]
   refine ⟨⟨af, nf, cf, ac, nc, cc, ao, no, co⟩, fl, rfl, fun wx hag => ?_, by rw [HSW.out]; exact HBF.out⟩
   have h := HSG.out wx (hag.old (by rw [HSW.out]; exact HBF.out))
   exact ⟨group_qry h.q ⟨HBO.out.2.1, HG32.out⟩, h.fs, HBO.out.2, fun he => by obtain ⟨k1, k2, -⟩ := HPA.out.2.2.1 he; obtain ⟨k3, k4, k5⟩ := h.len k1; dsimp only at *; omega, HPA.out.1⟩
  ·have hb2 : g / 2 ^ d % 2 = 1 := by have h := HBI.out; unfold inM at h; exact of_decide_eq_true h
   have HRR : Hid (r = p9) := Lib.hid (by rw [HGR.out, if_pos ⟨H0.out, hb2⟩])
   clear hb2
   go_wp2_with fail
   refine (HFA.out _).mono ?_; rintro e w3 ⟨rfl, hb3⟩
   have HB3 := Lib.hid (HB2.out.trans (hb3.mono (by have := HB2.out.size; have := HSW.out; omega)))
   have HKC := Lib.hid (HKB.out.below hb3 HKB.out.lt)
   clear hb3
   clear y0 y1 y2 y3 y4 y5 y6 y7 y8 y9 y10 y11
   clear c0 c1 c2 c3 c4 c5 c6 c7 c8 c9 c10 c11
   have d0 := HKC.out.c 0
   have d1 := HKC.out.c 1
   have d2 := HKC.out.c 2
   have d3 := HKC.out.c 3
   have d4 := HKC.out.c 4
   have d5 := HKC.out.c 5
   have d6 := HKC.out.c 6
   have d7 := HKC.out.c 7
   have d8 := HKC.out.c 8
   have d9 := HKC.out.c 9
   have d10 := HKC.out.c 10
   have d11 := HKC.out.c 11
   have fzd : ∀ o, w3.frozen? ⟨S + 1, o, none⟩ = false := fun o => HKC.out.frozen o
   go_wp2_with fail
   have HKF := Lib.hid (blk_st12 (HKC.out) (.slice ad nd cd) (.slice ai ni ci) (.slice an nn cn) (.slice av nv cv) (.slice ta L.length tc) (.int .i64 (p9.at' : Int)) (.int .u32 p9.q.group) (.slice af nf cf) (.slice ac nc cc) (.slice ao no co) (.int .i64 p9.q.limit) (.int .i64 (p9.err : Int)))
   have HBF := Lib.hid (below_st12 (HB3.out) (b := S + 1) (by have := HSW.out; omega) (.slice ad nd cd) (.slice ai ni ci) (.slice an nn cn) (.slice av nv cv) (.slice ta L.length tc) (.int .i64 (p9.at' : Int)) (.int .u32 p9.q.group) (.slice af nf cf) (.slice ac nc cc) (.slice ao no co) (.int .i64 p9.q.limit) (.int .i64 (p9.err : Int)))
   generalize ((((((((((((w3.setCell ⟨S + 1, 0, none⟩ (.slice ad nd cd)).setCell ⟨S + 1, 1, none⟩ (.slice ai ni ci)).setCell ⟨S + 1, 2, none⟩ (.slice an nn cn)).setCell ⟨S + 1, 3, none⟩ (.slice av nv cv)).setCell ⟨S + 1, 4, none⟩ (.slice ta L.length tc)).setCell ⟨S + 1, 5, none⟩ (.int .i64 (p9.at' : Int))).setCell ⟨S + 1, 6, none⟩ (.int .u32 p9.q.group)).setCell ⟨S + 1, 7, none⟩ (.slice af nf cf)).setCell ⟨S + 1, 8, none⟩ (.slice ac nc cc)).setCell ⟨S + 1, 9, none⟩ (.slice ao no co)).setCell ⟨S + 1, 10, none⟩ (.int .i64 p9.q.limit)).setCell ⟨S + 1, 11, none⟩ (.int .i64 (p9.err : Int))) = Wf at *
   have z0 := HKF.out.c 0
   have z1 := HKF.out.c 1
   have z2 := HKF.out.c 2
   have z3 := HKF.out.c 3
   have z4 := HKF.out.c 4
   have z5 := HKF.out.c 5
   have z6 := HKF.out.c 6
   have z7 := HKF.out.c 7
   have z8 := HKF.out.c 8
   have z9 := HKF.out.c 9
   have z10 := HKF.out.c 10
   have z11 := HKF.out.c 11
   refine bodyPost_ret (v := .agg #[.slice ad nd cd, .slice ai ni ci, .slice an nn cn, .slice av nv cv, .slice ta L.length tc, .int .i64 (p9.at' : Int), .int .u32 p9.q.group, .slice af nf cf, .slice ac nc cc, .slice ao no co, .int .i64 p9.q.limit, .int .i64 (p9.err : Int)]) (by simp [results, Tryz.results104, go_sem, z0, z1, z2, z3, z4, z5, z6, z7, z8, z9, z10, z11]) rfl ?_
   rw [HRR.out]
   refine ⟨⟨af, nf, cf, ac, nc, cc, ao, no, co⟩, fl, rfl, fun wx hag => ?_, by rw [HSW.out]; exact HBF.out⟩
   have h := HSG.out wx (hag.old (by rw [HSW.out]; exact HBF.out))
   have h9 := fail_at ⟨i, ⟨g, fq, cq, oq, lm⟩, er⟩ 9
   have h10 : (failR ⟨i, ⟨g, fq, cq, oq, lm⟩, er⟩ 9).err ≠ 0 := fail_err (by decide)
   rw [HP9.out] at h9 h10
   exact h.same h9.2 (by rw [h9.1]; exact HST.out.at') (fun he => absurd he h10)
 ·have t0 : ((e1 : Int) == 0) = false := by simp; omega
  have HRR : Hid (r = ⟨i1, ⟨g, fq, cq, oq, lm⟩, e1⟩) := Lib.hid (by rw [HGR.out, if_neg (fun h => h0 h.1), if_neg h0])
  have H0 := Lib.hid h0
  clear h0
  clear c0 c1 c2 c3 c4 c5 c6 c7 c8 c9 c10 c11
  have d0 := HKB.out.c 0
  have d1 := HKB.out.c 1
  have d2 := HKB.out.c 2
  have d3 := HKB.out.c 3
  have d4 := HKB.out.c 4
  have d5 := HKB.out.c 5
  have d6 := HKB.out.c 6
  have d7 := HKB.out.c 7
  have d8 := HKB.out.c 8
  have d9 := HKB.out.c 9
  have d10 := HKB.out.c 10
  have d11 := HKB.out.c 11
  have fzd : ∀ o, w2.frozen? ⟨S + 1, o, none⟩ = false := fun o => HKB.out.frozen o
  go_wp2_with fail
  have HKF := Lib.hid (blk_st12 (HKB.out) (.slice ad nd cd) (.slice ai ni ci) (.slice an nn cn) (.slice av nv cv) (.slice ta L.length tc) (.int .i64 (i1 : Int)) (.int .u32 g) (.slice af nf cf) (.slice ac nc cc) (.slice ao no co) (.int .i64 lm) (.int .i64 (e1 : Int)))
  have HBF := Lib.hid (below_st12 (HB2.out) (b := S + 1) (by have := HSW.out; omega) (.slice ad nd cd) (.slice ai ni ci) (.slice an nn cn) (.slice av nv cv) (.slice ta L.length tc) (.int .i64 (i1 : Int)) (.int .u32 g) (.slice af nf cf) (.slice ac nc cc) (.slice ao no co) (.int .i64 lm) (.int .i64 (e1 : Int)))
  generalize ((((((((((((w2.setCell ⟨S + 1, 0, none⟩ (.slice ad nd cd)).setCell ⟨S + 1, 1, none⟩ (.slice ai ni ci)).setCell ⟨S + 1, 2, none⟩ (.slice an nn cn)).setCell ⟨S + 1, 3, none⟩ (.slice av nv cv)).setCell ⟨S + 1, 4, none⟩ (.slice ta L.length tc)).setCell ⟨S + 1, 5, none⟩ (.int .i64 (i1 : Int))).setCell ⟨S + 1, 6, none⟩ (.int .u32 g)).setCell ⟨S + 1, 7, none⟩ (.slice af nf cf)).setCell ⟨S + 1, 8, none⟩ (.slice ac nc cc)).setCell ⟨S + 1, 9, none⟩ (.slice ao no co)).setCell ⟨S + 1, 10, none⟩ (.int .i64 lm)).setCell ⟨S + 1, 11, none⟩ (.int .i64 (e1 : Int))) = Wf at *
  have z0 := HKF.out.c 0
  have z1 := HKF.out.c 1
  have z2 := HKF.out.c 2
  have z3 := HKF.out.c 3
  have z4 := HKF.out.c 4
  have z5 := HKF.out.c 5
  have z6 := HKF.out.c 6
  have z7 := HKF.out.c 7
  have z8 := HKF.out.c 8
  have z9 := HKF.out.c 9
  have z10 := HKF.out.c 10
  have z11 := HKF.out.c 11
  refine bodyPost_ret (v := .agg #[.slice ad nd cd, .slice ai ni ci, .slice an nn cn, .slice av nv cv, .slice ta L.length tc, .int .i64 (i1 : Int), .int .u32 g, .slice af nf cf, .slice ac nc cc, .slice ao no co, .int .i64 lm, .int .i64 (e1 : Int)]) (by simp [results, Tryz.results104, go_sem, z0, z1, z2, z3, z4, z5, z6, z7, z8, z9, z10, z11]) rfl ?_
  rw [HRR.out]
  refine ⟨⟨af, nf, cf, ac, nc, cc, ao, no, co⟩, fl, rfl, fun wx hag => ?_, by rw [HSW.out]; exact HBF.out⟩
  exact (HSG.out wx (hag.old (by rw [HSW.out]; exact HBF.out))).same rfl HPA.out.1 (fun he => absurd he H0.out)
end Go.Proofs.YtaofjnidniekjaaGreatDoor
/- The reference's reading (package bushelref36): ord. Conditions: those stated. -/
namespace Go.Proofs.YtaofjnidniekjaaGreatDoor
open Go.RowKit

/-- two operations may come up -/
theorem wpAnyN_both {P : Program} {ops : Array Oper} {Q : Exit → Act → World → Prop} {md : Region.Mode} {S : World → Prop} {Ls : List Nat} {i j : Nat} {o p : Oper} {fuel : Nat} {listed : Array Bool} {a : Act} {w : World} (hr : Region.ready md ops listed = [i, j]) (ho : ops[i]? = some o) (hp : ops[j]? = some p)
  (h1 : ∀ K' : Act → World → Prop, Shut (∀ a w, S w → (S w → wpAnyN P md ops Q S Ls fuel (listed.setIfInBounds i true) a w) → K' a w) → if Region.wanted o (yielded ops a.tmps) = true then Oper.wp P o a w K' Q else K' (a.put o.dst undef) w)
  (h2 : ∀ K' : Act → World → Prop, Shut (∀ a w, S w → (S w → wpAnyN P md ops Q S Ls fuel (listed.setIfInBounds j true) a w) → K' a w) → if Region.wanted p (yielded ops a.tmps) = true then Oper.wp P p a w K' Q else K' (a.put p.dst undef) w) :
  wpAnyN P md ops Q S Ls (fuel + 1) listed a w :=
 ⟨fun h0 => (by rw [hr] at h0; cases h0), fun q hq => by
  rw [hr] at hq
  have hq' : q = i ∨ q = j := by simpa using hq
  rcases hq' with rfl | rfl
  ·exact wpOp_step ho fun K' hK => h1 K' fun a w hS hW => hK a w ⟨.inr hS, hW hS⟩
  ·exact wpOp_step hp fun K' hK => h2 K' fun a w hS hW => hK a w ⟨.inr hS, hW hS⟩⟩

theorem ord_qry {w : World} {af ac ao ra : Option Addr} {nf cf nc cc no co rc : Nat} {q : QP} {fl : List Flt} (h : QryAt w ⟨af, nf, cf, ac, nc, cc, ao, no, co⟩ (q.at' fl)) {x : Int × Bool} (hx : I64 x.1) (hr : RowG 2 w ra (no + 1) rc (ordCells (q.ord ++ [x]))) : QryAt w ⟨af, nf, cf, ac, nc, cc, ra, no + 1, rc⟩ (({ q with ord := q.ord ++ [x] } : QP).at' fl) :=
 ⟨h.1, h.2.1, h.2.2.1, hr, by have := h.2.2.2.2.1; show (q.ord ++ [x]).length = no + 1; rw [List.length_append]; exact congrArg (· + 1) this, h.2.2.2.2.2.1, h.2.2.2.2.2.2.1, h.2.2.2.2.2.2.2.1, fun c hc => by
  rcases List.mem_append.1 hc with hc | hc
  ·exact h.2.2.2.2.2.2.2.2 c hc
  ·rw [List.mem_singleton.1 hc]; exact hx⟩
theorem own_none (w : World) (e : TypeId) (N : Nat) (h : N ≤ w.heap.size) : (w.alloc (.cells #[] e)).ownsRow N e 2 (.slice (some ⟨w.heap.size, 0, none⟩) 0 0) 0 [] :=
 ⟨rfl, .inr ⟨w.heap.size, 0, #[], rfl, h, heap_alloc_new w _, Nat.le_refl _, Nat.zero_le _, rfl, rfl⟩⟩
theorem row_elem (w : World) (e : TypeId) (u0 u1 : Value) : RowG 2 (w.alloc (.cells #[u0, u1] e)) (some ⟨w.heap.size, 0, none⟩) 1 1 [u0, u1] := by
 refine ⟨rfl, Nat.le_refl _, by unfold maxLen; omega, .inr ⟨w.heap.size, 0, rfl, by simp, fun i hi => ?_⟩⟩
 rw [cell_of_row _ w.heap.size (0 + i) #[u0, u1] e (0, 0) (heap_alloc_new w _), Nat.zero_add]
 have : i = 0 ∨ i = 1 := by omega
 rcases this with rfl | rfl <;> rfl
theorem ordCells_one : ∀ (l : List (Int × Bool)), ∀ u ∈ ordCells l, u.oneCell' = true
 | [], _, h => by cases h
 | x :: l, u, h => by
  unfold ordCells at h
  rcases List.mem_cons.1 h with rfl | h
  ·rfl
  rcases List.mem_cons.1 h with rfl | h
  ·rfl
  ·exact ordCells_one l u h
theorem colCells_one : ∀ (l : List (Int × Int)), ∀ u ∈ colCells l, u.oneCell' = true
 | [], _, h => by cases h
 | x :: l, u, h => by
  unfold colCells at h
  rcases List.mem_cons.1 h with rfl | h
  ·rfl
  rcases List.mem_cons.1 h with rfl | h
  ·rfl
  ·exact colCells_one l u h
theorem fltCells_one : ∀ (l : List Flt), ∀ u ∈ fltCells l, u.oneCell' = true
 | [], _, h => by cases h
 | x :: l, u, h => by
  unfold fltCells at h
  rcases List.mem_cons.1 h with rfl | h
  ·rfl
  rcases List.mem_cons.1 h with rfl | h
  ·rfl
  ·exact fltCells_one l u h

set_option maxRecDepth 100000 in
set_option maxHeartbeats 2000000 in
theorem vord_any (X : RX) (m : QryL) (fl : List Flt) (p : PState) (G : Nat → Prop) (w : World) (hX : X.At w) (hpG : StG G X m fl p w) (h0 : p.err = 0) :
  Calls Tryz.prog 106 #[StV X m p] w (RStO X (ordR X.L p) G w) := by
 have hp := hpG.here
 have HSG := Lib.hid hpG
 clear hpG
 have hmany := hX.good.many
 have HNA := Lib.hid (num_at hX.good hp.at')
 have HNU := Lib.hid (fun (w' : World) (hb : Below w.heap.size w w') => vnumber_any X m p w' (hX.below hb (Nat.le_refl _)) hp.at')
 have HIS := Lib.hid (fun (w' : World) (hb : Below w.heap.size w w') (u : ByteArray) (t : List UInt8) (b : Bool) (ht : u.data.toList = t) (hb' : isR X.L (numTR X.L p).1 t = b) => vis_any X m (numTR X.L p).1 w' (hX.below hb (Nat.le_refl _)) HNA.out.1 u b (by rw [ht]; exact hb'))
 have HON := Lib.hid (fun (w' : World) => von_any X m (numTR X.L p).1 w' (by have := HNA.out.1; omega))
 have HOR : Hid (ordR X.L p = { (if isR X.L (numTR X.L p).1 [100, 101, 115, 99] || isR X.L (numTR X.L p).1 [97, 115, 99] then onR (numTR X.L p).1 else (numTR X.L p).1) with q := { (if isR X.L (numTR X.L p).1 [100, 101, 115, 99] || isR X.L (numTR X.L p).1 [97, 115, 99] then onR (numTR X.L p).1 else (numTR X.L p).1).q with ord := (if isR X.L (numTR X.L p).1 [100, 101, 115, 99] || isR X.L (numTR X.L p).1 [97, 115, 99] then onR (numTR X.L p).1 else (numTR X.L p).1).q.ord ++ [((numTR X.L p).2 - 1, isR X.L (numTR X.L p).1 [100, 101, 115, 99])] } }) := Lib.hid rfl
 have HWA := Lib.hid (fun (t : List UInt8) (hw : isR X.L (numTR X.L p).1 t = true) => word_at hX.good hw)
 have HST := Lib.hid hp
 have H0 := Lib.hid h0
 obtain ⟨r, hr⟩ : ∃ x, ordR X.L p = x := ⟨_, rfl⟩
 rw [hr] at HOR ⊢
 obtain ⟨⟨p1, n⟩, hp1⟩ : ∃ x, numTR X.L p = x := ⟨_, rfl⟩
 rw [hp1] at HNA HNU HIS HON HOR HWA
 clear hp1 hr hX hp h0
 unfold RSt RStN at *
 have hq1 : p1.q = p.q := HNA.out.2.1
 obtain ⟨n0, n1⟩ : 0 ≤ n ∧ n ≤ 1000000000000000000 := HNA.out.2.2.2
 obtain ⟨d, hd⟩ : ∃ x, isR X.L p1 [100, 101, 115, 99] = x := ⟨_, rfl⟩
 obtain ⟨a, ha⟩ : ∃ x, isR X.L p1 [97, 115, 99] = x := ⟨_, rfl⟩
 have HI1 := Lib.hid (fun (w' : World) hb => HIS.out w' hb ⟨#[100, 101, 115, 99]⟩ _ d rfl hd)
 have HI2 := Lib.hid (fun (w' : World) hb => HIS.out w' hb ⟨#[97, 115, 99]⟩ _ a rfl ha)
 have HW1 : Hid (d = true ∨ a = true → p1.err = 0 ∧ p1.at' + 1 < X.L.length) := Lib.hid (by
  rintro (h | h)
  ·exact HWA.out _ (hd.trans h)
  ·exact HWA.out _ (ha.trans h))
 dsimp only at HOR
 rw [hd, ha] at HOR
 clear hd ha HIS HWA
 obtain ⟨i1, q1, e1⟩ := p1
 dsimp only at hq1
 subst hq1
 unfold onR at HOR HON
 unfold StV at *
 obtain ⟨⟨ad, nd, cd, ai, ni, ci, an, nn, cn, av, nv, cv⟩, s, ta, tc, L⟩ := X
 obtain ⟨af, nf, cf, ac, nc, cc, ao, no, co⟩ := m
 obtain ⟨i, ⟨g, fq, cq, oq, lm⟩, er⟩ := p
 (try dsimp only at *)
 obtain ⟨W0, hW0⟩ : ∃ W0, ((w.alloc (.cells #[.slice ad nd cd, .slice ai ni ci, .slice an nn cn, .slice av nv cv, .slice ta L.length tc, .int .i64 (i : Int), .int .u32 g, .slice af nf cf, .slice ac nc cc, .slice ao no co, .int .i64 lm, .int .i64 (er : Int)] 122)).alloc (.cells #[.slice none 0 0, .slice none 0 0, .slice none 0 0, .slice none 0 0, .slice none 0 0, .int .i64 0, .int .u32 0, .slice none 0 0, .slice none 0 0, .slice none 0 0, .int .i64 0, .int .i64 0] 122)) = W0 := ⟨_, rfl⟩
 have HB0 : Hid (Below w.heap.size w W0) := Lib.hid (by
  rw [← hW0]
  exact (((Below.refl _ _).alloc (Nat.le_refl _) _).alloc (by simp) _))
 have HZ0 : Hid (W0.heap.size = w.heap.size + 2) := Lib.hid (by rw [← hW0]; simp)
 have HK0 : Hid (Blk W0 (w.heap.size) 122 #[.slice ad nd cd, .slice ai ni ci, .slice an nn cn, .slice av nv cv, .slice ta L.length tc, .int .i64 (i : Int), .int .u32 g, .slice af nf cf, .slice ac nc cc, .slice ao no co, .int .i64 lm, .int .i64 (er : Int)]) := Lib.hid (by
  rw [← hW0]
  have h := Blk.new w 122 #[.slice ad nd cd, .slice ai ni ci, .slice an nn cn, .slice av nv cv, .slice ta L.length tc, .int .i64 (i : Int), .int .u32 g, .slice af nf cf, .slice ac nc cc, .slice ao no co, .int .i64 lm, .int .i64 (er : Int)]
  exact h.alloc _)
 have HK1 : Hid (Blk W0 (w.heap.size + 1) 122 #[.slice none 0 0, .slice none 0 0, .slice none 0 0, .slice none 0 0, .slice none 0 0, .int .i64 0, .int .u32 0, .slice none 0 0, .slice none 0 0, .slice none 0 0, .int .i64 0, .int .i64 0]) := Lib.hid (by
  rw [← hW0]
  have h := Blk.new (w.alloc (.cells #[.slice ad nd cd, .slice ai ni ci, .slice an nn cn, .slice av nv cv, .slice ta L.length tc, .int .i64 (i : Int), .int .u32 g, .slice af nf cf, .slice ac nc cc, .slice ao no co, .int .i64 lm, .int .i64 (er : Int)] 122)) 122 #[.slice none 0 0, .slice none 0 0, .slice none 0 0, .slice none 0 0, .slice none 0 0, .int .i64 0, .int .u32 0, .slice none 0 0, .slice none 0 0, .slice none 0 0, .int .i64 0, .int .i64 0]
  rw [World.size_alloc] at h
  exact h)
 have HNO : Hid (oq.length = no) := Lib.hid HST.out.q.2.2.2.2.1
 have hno : no ≤ 1001 := by have h1 := (HST.out.len H0.out).2.1; have h2 := HST.out.at'; have h3 := HNO.out; dsimp only at *; omega
 have n2 : -9223372036854775808 ≤ n - 1 := by omega
 have n3 : n - 1 ≤ 9223372036854775807 := by omega
 (try unfold StV)
 (try dsimp only)
 go_enter Tryz.func106, Tryz.ntmps106
 go_upto_region 1 with fail
 clear hW0
 generalize hS : w.heap.size = S at *
 have HSW := Lib.hid hS
 clear hS
 have c0 := HK0.out.c 0
 have c1 := HK0.out.c 1
 have c2 := HK0.out.c 2
 have c3 := HK0.out.c 3
 have c4 := HK0.out.c 4
 have c5 := HK0.out.c 5
 have c6 := HK0.out.c 6
 have c7 := HK0.out.c 7
 have c8 := HK0.out.c 8
 have c9 := HK0.out.c 9
 have c10 := HK0.out.c 10
 have c11 := HK0.out.c 11
 have fzc : ∀ o, W0.frozen? ⟨S, o, none⟩ = false := fun o => HK0.out.frozen o
 go_wp2_with fail
 refine (HNU.out _ HB0.out).mono ?_; rintro e w1 ⟨rfl, hb1⟩
 have HB1 := Lib.hid (HB0.out.trans (hb1.mono (by have := HZ0.out; omega)))
 have HKA := Lib.hid (HK0.out.below hb1 HK0.out.lt)
 have HKB := Lib.hid (HK1.out.below hb1 HK1.out.lt)
 clear hb1
 clear c0 c1 c2 c3 c4 c5 c6 c7 c8 c9 c10 c11 fzc
 have c0 := HKA.out.c 0
 have c1 := HKA.out.c 1
 have c2 := HKA.out.c 2
 have c3 := HKA.out.c 3
 have c4 := HKA.out.c 4
 have c5 := HKA.out.c 5
 have c6 := HKA.out.c 6
 have c7 := HKA.out.c 7
 have c8 := HKA.out.c 8
 have c9 := HKA.out.c 9
 have c10 := HKA.out.c 10
 have c11 := HKA.out.c 11
 have fzc : ∀ o, w1.frozen? ⟨S, o, none⟩ = false := fun o => HKA.out.frozen o
 go_upto_region 2 with fail
 clear c0 c1 c2 c3 c4 c5 c6 c7 c8 c9 c10 c11 fzc
 have HKA2 := Lib.hid (blk_st12 HKA.out (.slice ad nd cd) (.slice ai ni ci) (.slice an nn cn) (.slice av nv cv) (.slice ta L.length tc) (.int .i64 (i1 : Int)) (.int .u32 g) (.slice af nf cf) (.slice ac nc cc) (.slice ao no co) (.int .i64 lm) (.int .i64 (e1 : Int)))
 have HKB2 := Lib.hid (blk_far12 HKB.out (b := S) (by omega) (.slice ad nd cd) (.slice ai ni ci) (.slice an nn cn) (.slice av nv cv) (.slice ta L.length tc) (.int .i64 (i1 : Int)) (.int .u32 g) (.slice af nf cf) (.slice ac nc cc) (.slice ao no co) (.int .i64 lm) (.int .i64 (e1 : Int)))
 have HB2 := Lib.hid (below_st12 HB1.out (b := S) (by have := HSW.out; omega) (.slice ad nd cd) (.slice ai ni ci) (.slice an nn cn) (.slice av nv cv) (.slice ta L.length tc) (.int .i64 (i1 : Int)) (.int .u32 g) (.slice af nf cf) (.slice ac nc cc) (.slice ao no co) (.int .i64 lm) (.int .i64 (e1 : Int)))
 generalize ((((((((((((w1.setCell ⟨S, 0, none⟩ (.slice ad nd cd)).setCell ⟨S, 1, none⟩ (.slice ai ni ci)).setCell ⟨S, 2, none⟩ (.slice an nn cn)).setCell ⟨S, 3, none⟩ (.slice av nv cv)).setCell ⟨S, 4, none⟩ (.slice ta L.length tc)).setCell ⟨S, 5, none⟩ (.int .i64 (i1 : Int))).setCell ⟨S, 6, none⟩ (.int .u32 g)).setCell ⟨S, 7, none⟩ (.slice af nf cf)).setCell ⟨S, 8, none⟩ (.slice ac nc cc)).setCell ⟨S, 9, none⟩ (.slice ao no co)).setCell ⟨S, 10, none⟩ (.int .i64 lm)).setCell ⟨S, 11, none⟩ (.int .i64 (e1 : Int))) = w2 at *
 have c0 := HKA2.out.c 0
 have c1 := HKA2.out.c 1
 have c2 := HKA2.out.c 2
 have c3 := HKA2.out.c 3
 have c4 := HKA2.out.c 4
 have c5 := HKA2.out.c 5
 have c6 := HKA2.out.c 6
 have c7 := HKA2.out.c 7
 have c8 := HKA2.out.c 8
 have c9 := HKA2.out.c 9
 have c10 := HKA2.out.c 10
 have c11 := HKA2.out.c 11
 go_wp2_with fail
 refine (HI1.out _ HB2.out).mono ?_; rintro e w3 ⟨rfl, hb3⟩
 have HB3 := Lib.hid ((HB2.out.trans (hb3.mono (by have := HB2.out.size; have := HKA2.out.lt; have := HSW.out; omega))).alloc (by have := hb3.size; have := HKA2.out.lt; have := HSW.out; omega) (.cells #[.int .i64 (n - 1), .bool d] 64))
 have HKA3 := Lib.hid ((HKA2.out.below hb3 HKA2.out.lt).alloc (.cells #[.int .i64 (n - 1), .bool d] 64))
 have HKB3 := Lib.hid ((HKB2.out.below hb3 HKB2.out.lt).alloc (.cells #[.int .i64 (n - 1), .bool d] 64))
 have HTL := Lib.hid (HKB2.out.below hb3 HKB2.out.lt).lt
 have HKT3 := Lib.hid (Blk.new w3 64 #[.int .i64 (n - 1), .bool d])
 clear hb3
 clear c0 c1 c2 c3 c4 c5 c6 c7 c8 c9 c10 c11
 go_upto_region 3 with fail
 generalize w3.alloc (.cells #[.int .i64 (n - 1), .bool d] 64) = w4 at *
 have HTS : Hid (S + 1 < w3.heap.size) := Lib.hid HTL.out
 generalize w3.heap.size = T at *
 go_cut [20] (fun v wx => v = .bool (d || a) ∧ Blk wx S 122 #[.slice ad nd cd, .slice ai ni ci, .slice an nn cn, .slice av nv cv, .slice ta L.length tc, .int .i64 (i1 : Int), .int .u32 g, .slice af nf cf, .slice ac nc cc, .slice ao no co, .int .i64 lm, .int .i64 (e1 : Int)] ∧ Blk wx (S + 1) 122 #[.slice none 0 0, .slice none 0 0, .slice none 0 0, .slice none 0 0, .slice none 0 0, .int .i64 0, .int .u32 0, .slice none 0 0, .slice none 0 0, .slice none 0 0, .int .i64 0, .int .i64 0] ∧ Blk wx T 64 #[.int .i64 (n - 1), .bool d] ∧ Below S w wx)
 case first =>
  have c0 := HKA3.out.c 0
  have c1 := HKA3.out.c 1
  have c2 := HKA3.out.c 2
  have c3 := HKA3.out.c 3
  have c4 := HKA3.out.c 4
  have c5 := HKA3.out.c 5
  have c6 := HKA3.out.c 6
  have c7 := HKA3.out.c 7
  have c8 := HKA3.out.c 8
  have c9 := HKA3.out.c 9
  have c10 := HKA3.out.c 10
  have c11 := HKA3.out.c 11
  go_wp2_with fail
  refine (HI1.out _ HB3.out).mono ?_; rintro e w5 ⟨rfl, hb5⟩
  have HKA5 := Lib.hid (HKA3.out.below hb5 HKA3.out.lt)
  have HKB5 := Lib.hid (HKB3.out.below hb5 HKB3.out.lt)
  have HKT5 := Lib.hid (HKT3.out.below hb5 HKT3.out.lt)
  have HB5 := Lib.hid (HB3.out.trans (hb5.mono (by have := HKA3.out.lt; omega)))
  clear hb5
  clear c0 c1 c2 c3 c4 c5 c6 c7 c8 c9 c10 c11
  rcases d with _ | _
  ·have c0 := HKA5.out.c 0
   have c1 := HKA5.out.c 1
   have c2 := HKA5.out.c 2
   have c3 := HKA5.out.c 3
   have c4 := HKA5.out.c 4
   have c5 := HKA5.out.c 5
   have c6 := HKA5.out.c 6
   have c7 := HKA5.out.c 7
   have c8 := HKA5.out.c 8
   have c9 := HKA5.out.c 9
   have c10 := HKA5.out.c 10
   have c11 := HKA5.out.c 11
   go_wp2_with fail
   refine (HI2.out _ HB5.out).mono ?_; rintro e w6 ⟨rfl, hb6⟩
   have HKA6 := Lib.hid (HKA5.out.below hb6 HKA5.out.lt)
   have HKB6 := Lib.hid (HKB5.out.below hb6 HKB5.out.lt)
   have HKT6 := Lib.hid (HKT5.out.below hb6 HKT5.out.lt)
   have HB6 := Lib.hid (HB5.out.trans (hb6.mono (by have := HKA5.out.lt; omega)))
   clear hb6
   clear c0 c1 c2 c3 c4 c5 c6 c7 c8 c9 c10 c11
   go_wp2_with fail
   go_meet
   exact ⟨by cases a <;> rfl, HKA6.out, HKB6.out, HKT6.out, HB6.out⟩
  ·go_wp2_with fail
   go_meet
   exact ⟨rfl, HKA5.out, HKB5.out, HKT5.out, HB5.out⟩
 case rest =>
  obtain ⟨rfl, hka, hkb, hkt, hb⟩ := hcut
  have HKA4 := Lib.hid hka
  have HKB4 := Lib.hid hkb
  have HKT4 := Lib.hid hkt
  have HB4 := Lib.hid hb
  clear hka hkb hkt hb HKA3 HKB3 HKT3 HB3
  obtain ⟨v, hv⟩ : ∃ v, (d || a) = v := ⟨_, rfl⟩
  rw [hv] at HOR ⊢
  have HV := Lib.hid hv
  clear hv
  go_upto_if 20 with fail
  go_cut [] (fun wx => ∃ i2 : Nat, i2 = (if v then i1 + 1 else i1) ∧ Blk wx S 122 #[.slice ad nd cd, .slice ai ni ci, .slice an nn cn, .slice av nv cv, .slice ta L.length tc, .int .i64 (i2 : Int), .int .u32 g, .slice af nf cf, .slice ac nc cc, .slice ao no co, .int .i64 lm, .int .i64 (e1 : Int)] ∧ Blk wx (S + 1) 122 #[.slice none 0 0, .slice none 0 0, .slice none 0 0, .slice none 0 0, .slice none 0 0, .int .i64 0, .int .u32 0, .slice none 0 0, .slice none 0 0, .slice none 0 0, .int .i64 0, .int .i64 0] ∧ Blk wx T 64 #[.int .i64 (n - 1), .bool d] ∧ Below S w wx)
  case first =>
   rcases v with _ | _
   ·go_wp2_with fail
    go_meet
    exact ⟨_, rfl, HKA4.out, HKB4.out, HKT4.out, HB4.out⟩
   ·have c0 := HKA4.out.c 0
    have c1 := HKA4.out.c 1
    have c2 := HKA4.out.c 2
    have c3 := HKA4.out.c 3
    have c4 := HKA4.out.c 4
    have c5 := HKA4.out.c 5
    have c6 := HKA4.out.c 6
    have c7 := HKA4.out.c 7
    have c8 := HKA4.out.c 8
    have c9 := HKA4.out.c 9
    have c10 := HKA4.out.c 10
    have c11 := HKA4.out.c 11
    go_wp2_with fail
    refine (HON.out _).mono ?_; rintro e w5 ⟨rfl, hb5⟩
    have HKA5 := Lib.hid (HKA4.out.below hb5 HKA4.out.lt)
    have HKB5 := Lib.hid (HKB4.out.below hb5 HKB4.out.lt)
    have HKT5 := Lib.hid (HKT4.out.below hb5 HKT4.out.lt)
    have HB5 := Lib.hid (HB4.out.trans (hb5.mono (by have := HKA4.out.lt; omega)))
    clear hb5
    clear c0 c1 c2 c3 c4 c5 c6 c7 c8 c9 c10 c11
    dsimp only
    have c0 := HKA5.out.c 0
    have c1 := HKA5.out.c 1
    have c2 := HKA5.out.c 2
    have c3 := HKA5.out.c 3
    have c4 := HKA5.out.c 4
    have c5 := HKA5.out.c 5
    have c6 := HKA5.out.c 6
    have c7 := HKA5.out.c 7
    have c8 := HKA5.out.c 8
    have c9 := HKA5.out.c 9
    have c10 := HKA5.out.c 10
    have c11 := HKA5.out.c 11
    have fzc : ∀ o, w5.frozen? ⟨S, o, none⟩ = false := fun o => HKA5.out.frozen o
    go_wp2_with fail
    clear c0 c1 c2 c3 c4 c5 c6 c7 c8 c9 c10 c11 fzc
    have HKA6 := Lib.hid (blk_st12 HKA5.out (.slice ad nd cd) (.slice ai ni ci) (.slice an nn cn) (.slice av nv cv) (.slice ta L.length tc) (.int .i64 ((i1 : Int) + 1)) (.int .u32 g) (.slice af nf cf) (.slice ac nc cc) (.slice ao no co) (.int .i64 lm) (.int .i64 (e1 : Int)))
    have HKB6 := Lib.hid (blk_far12 HKB5.out (b := S) (by have := HTS.out; omega) (.slice ad nd cd) (.slice ai ni ci) (.slice an nn cn) (.slice av nv cv) (.slice ta L.length tc) (.int .i64 ((i1 : Int) + 1)) (.int .u32 g) (.slice af nf cf) (.slice ac nc cc) (.slice ao no co) (.int .i64 lm) (.int .i64 (e1 : Int)))
    have HKT6 := Lib.hid (blk_far12 HKT5.out (b := S) (by have := HTS.out; omega) (.slice ad nd cd) (.slice ai ni ci) (.slice an nn cn) (.slice av nv cv) (.slice ta L.length tc) (.int .i64 ((i1 : Int) + 1)) (.int .u32 g) (.slice af nf cf) (.slice ac nc cc) (.slice ao no co) (.int .i64 lm) (.int .i64 (e1 : Int)))
    have HB6 := Lib.hid (below_st12 HB5.out (b := S) (by have := HSW.out; omega) (.slice ad nd cd) (.slice ai ni ci) (.slice an nn cn) (.slice av nv cv) (.slice ta L.length tc) (.int .i64 ((i1 : Int) + 1)) (.int .u32 g) (.slice af nf cf) (.slice ac nc cc) (.slice ao no co) (.int .i64 lm) (.int .i64 (e1 : Int)))
    generalize ((((((((((((w5.setCell ⟨S, 0, none⟩ (.slice ad nd cd)).setCell ⟨S, 1, none⟩ (.slice ai ni ci)).setCell ⟨S, 2, none⟩ (.slice an nn cn)).setCell ⟨S, 3, none⟩ (.slice av nv cv)).setCell ⟨S, 4, none⟩ (.slice ta L.length tc)).setCell ⟨S, 5, none⟩ (.int .i64 ((i1 : Int) + 1))).setCell ⟨S, 6, none⟩ (.int .u32 g)).setCell ⟨S, 7, none⟩ (.slice af nf cf)).setCell ⟨S, 8, none⟩ (.slice ac nc cc)).setCell ⟨S, 9, none⟩ (.slice ao no co)).setCell ⟨S, 10, none⟩ (.int .i64 lm)).setCell ⟨S, 11, none⟩ (.int .i64 (e1 : Int))) = w6 at *
    go_meet
    exact ⟨i1 + 1, rfl, HKA6.out, HKB6.out, HKT6.out, HB6.out⟩
  case rest =>
   obtain ⟨i2, hi2, hka, hkb, hkt, hb⟩ := hcut
   obtain ⟨w5, rfl⟩ : ∃ x, x = wc := ⟨_, rfl⟩
   have HI2' := Lib.hid hi2
   have HKS := Lib.hid hka
   have HKB5 := Lib.hid hkb
   have HKT := Lib.hid hkt
   have HB5 := Lib.hid hb
   have HOLD : Hid (∀ w', Below w5.heap.size w5 w' → RowG 2 w' ao no co (ordCells oq)) := Lib.hid (fun w' hbb => HST.out.q.2.2.2.1.below (HB5.out.trans (hbb.mono (by have := HKS.out.lt; omega))) (Nat.le_of_eq HSW.out))
   have HONE := Lib.hid (ordCells_one oq)
   clear hi2 hka hkb hkt hb HKA4 HKB4 HKT4 HB4
   go_upto_region 5 with fail
   go_cut [] (fun wx => ∃ ra rc, Blk wx S 122 #[.slice ad nd cd, .slice ai ni ci, .slice an nn cn, .slice av nv cv, .slice ta L.length tc, .int .i64 (i2 : Int), .int .u32 g, .slice af nf cf, .slice ac nc cc, .slice ra (no + 1) rc, .int .i64 lm, .int .i64 (e1 : Int)] ∧ Blk wx (S + 1) 122 #[.slice none 0 0, .slice none 0 0, .slice none 0 0, .slice none 0 0, .slice none 0 0, .int .i64 0, .int .u32 0, .slice none 0 0, .slice none 0 0, .slice none 0 0, .int .i64 0, .int .i64 0] ∧ wx.ownsRow (S + 2) 64 2 (.slice ra (no + 1) rc) (no + 1) (ordCells oq ++ [.int .i64 (n - 1), .bool d]) ∧ Below S w wx)
   case first =>
    have HS0 := Lib.hid (HKS.out).drew
    have HE0 := Lib.hid (HKT.out).drew
    have HOR0 : Hid (∀ w', Below w5.drew.heap.size w5.drew w' → RowG 2 w' ao no co (ordCells oq)) := Lib.hid (fun w' hb => HOLD.out w' (((Below.refl _ _).drew).trans hb))
    have hBS : S < w5.drew.heap.size := HS0.out.lt
    have hBE : T < w5.drew.heap.size := HE0.out.lt
    refine wp_regionN (fun w' => Blk w' S 122 #[.slice ad nd cd, .slice ai ni ci, .slice an nn cn, .slice av nv cv, .slice ta L.length tc, .int .i64 (i2 : Int), .int .u32 g, .slice af nf cf, .slice ac nc cc, .slice ao no co, .int .i64 lm, .int .i64 (e1 : Int)] ∧ Blk w' T 64 #[.int .i64 (n - 1), .bool d]) [10] (by kernel_rfl) (by exact ⟨HS0.out, HE0.out⟩) (fun hHeld => ?_)
    refine wpAnyN_t 1 ⟨some 24, _, _, _, _, _⟩ ?_ rfl ?_ ?_
    rotate_left 1
    ·(intro w hSw; obtain ⟨u0, u1, u2, u3, u4, u5, u6, u7, u8, u9, u10, u11⟩ := blk12 hSw.1; have v0 : w.cell? ⟨T, 0, none⟩ = some (.int .i64 (n - 1)) := hSw.2.cell 0; have v1 : w.cell? ⟨T, 1, none⟩ = some (.bool d) := hSw.2.cell 1; go_simp; try with_reducible rfl)
    try simp only [Act.put, putA, putB, putC]
    refine wpAnyN_t 2 ⟨some 25, _, _, _, _, _⟩ ?_ rfl ?_ ?_
    rotate_left 1
    ·(intro w hSw; obtain ⟨u0, u1, u2, u3, u4, u5, u6, u7, u8, u9, u10, u11⟩ := blk12 hSw.1; have v0 : w.cell? ⟨T, 0, none⟩ = some (.int .i64 (n - 1)) := hSw.2.cell 0; have v1 : w.cell? ⟨T, 1, none⟩ = some (.bool d) := hSw.2.cell 1; go_simp; try with_reducible rfl)
    try simp only [Act.put, putA, putB, putC]
    refine wpAnyN_t 3 ⟨some 26, _, _, _, _, _⟩ ?_ rfl ?_ ?_
    rotate_left 1
    ·(intro w hSw; obtain ⟨u0, u1, u2, u3, u4, u5, u6, u7, u8, u9, u10, u11⟩ := blk12 hSw.1; have v0 : w.cell? ⟨T, 0, none⟩ = some (.int .i64 (n - 1)) := hSw.2.cell 0; have v1 : w.cell? ⟨T, 1, none⟩ = some (.bool d) := hSw.2.cell 1; go_simp; try with_reducible rfl)
    try simp only [Act.put, putA, putB, putC]
    refine wpAnyN_t 5 ⟨some 28, _, _, _, _, _⟩ ?_ rfl ?_ ?_
    rotate_left 1
    ·(intro w hSw; obtain ⟨u0, u1, u2, u3, u4, u5, u6, u7, u8, u9, u10, u11⟩ := blk12 hSw.1; have v0 : w.cell? ⟨T, 0, none⟩ = some (.int .i64 (n - 1)) := hSw.2.cell 0; have v1 : w.cell? ⟨T, 1, none⟩ = some (.bool d) := hSw.2.cell 1; go_simp; try with_reducible rfl)
    try simp only [Act.put, putA, putB, putC]
    have HB0R := Lib.hid (Below.refl w5.drew.heap.size w5.drew)
    refine wpAnyN_both (i := 0) (j := 6) (o := ⟨some 23, _, _, _, _, _⟩) (p := ⟨some 29, _, _, _, _, _⟩) (by kernel_rfl) rfl rfl (fun K hK => ?_) (fun K hK => ?_)
    ·go_simp
     have HO0 : Hid ((w5.drew.alloc (.cells #[] 64)).ownsRow w5.drew.heap.size 64 2 (.slice (some ⟨w5.heap.size, 0, none⟩) 0 0) 0 []) := Lib.hid (by have h := own_none w5.drew 64 _ HB0R.out.size; exact h)
     have HB_0 := Lib.hid (HB0R.out.alloc HB0R.out.size (.cells #[] 64))
     refine hK.out _ _ (by exact ⟨HS0.out.below HB_0.out hBS, HE0.out.below HB_0.out hBE⟩) ?_
     clear hK K hHeld
     intro hHeld
     try simp only [Act.put, putA, putB, putC]
     refine wpAnyN_both (i := 4) (j := 6) (o := ⟨some 27, _, _, _, _, _⟩) (p := ⟨some 29, _, _, _, _, _⟩) (by kernel_rfl) rfl rfl (fun K hK => ?_) (fun K hK => ?_)
     ·refine step_append_rowG (z := .agg #[.int .i64 0, .bool false]) (sz := 2) (bytes := 16) info_sort rfl (by decide) Tryz.underlying30 rfl _ _ (by rfl) _ w5.drew.heap.size _ 0 [] ao no co (ordCells oq) (by rfl) (by rfl) HO0.out (HOR0.out _ HB_0.out) HONE.out (by omega) (by unfold maxLen; omega) HB_0.out.size ?_
      intro v1 x1 h2 h3 h4
      rw [Nat.zero_add, List.nil_append] at h2
      have HO1 := Lib.hid h2
      have HB_1 := Lib.hid (h4 _ HB_0.out)
      clear h2 h3 h4
      refine hK.out _ _ (by exact ⟨HS0.out.below HB_1.out hBS, HE0.out.below HB_1.out hBE⟩) ?_
      clear hK K hHeld
      intro hHeld
      try simp only [Act.put, putA, putB, putC]
      refine wpAnyN_one (i := 6) (o := ⟨some 29, _, _, _, _, _⟩) (by kernel_rfl) rfl (fun K hK => ?_)
      go_simp
      have HL2 : Hid (RowG 2 (x1.alloc (.cells #[.int .i64 (n - 1), .bool d] 64)) (some ⟨x1.heap.size, 0, none⟩) 1 1 [.int .i64 (n - 1), .bool d]) := Lib.hid (by have h := row_elem x1 64 (.int .i64 (n - 1)) (.bool d); exact h)
      have HB_2 := Lib.hid (HB_1.out.alloc HB_1.out.size (.cells #[.int .i64 (n - 1), .bool d] 64))
      have HO2 := Lib.hid (World.ownsRow.alloc HO1.out (.cells #[.int .i64 (n - 1), .bool d] 64))
      refine hK.out _ _ (by exact ⟨HS0.out.below HB_2.out hBS, HE0.out.below HB_2.out hBE⟩) ?_
      clear hK K hHeld
      intro hHeld
      try simp only [Act.put, putA, putB, putC]
      refine wpAnyN_one (i := 7) (o := ⟨some 30, _, _, _, _, _⟩) (by kernel_rfl) rfl (fun K hK => ?_)
      refine step_append_rowG (z := .agg #[.int .i64 0, .bool false]) (sz := 2) (bytes := 16) info_sort rfl (by decide) Tryz.underlying30 rfl _ _ (by rfl) _ w5.drew.heap.size _ no (ordCells oq) (some ⟨x1.heap.size, 0, none⟩) 1 1 [.int .i64 (n - 1), .bool d] (by rfl) (by rfl) HO2.out HL2.out (by intro u hu; simp at hu; rcases hu with rfl | rfl <;> rfl) (by omega) (by unfold maxLen; omega) HB_2.out.size ?_
      intro v3 x3 h2 h3 h4
      obtain ⟨ra, rc, rfl⟩ := own_form h2
      have HRF := Lib.hid h2
      have HB_3 := Lib.hid (h4 _ HB_2.out)
      clear h2 h3 h4
      refine hK.out _ _ (by exact ⟨HS0.out.below HB_3.out hBS, HE0.out.below HB_3.out hBE⟩) ?_
      clear hK K hHeld
      intro hHeld
      try simp only [Act.put, putA, putB, putC]
      refine wpAnyN_t 8 ⟨some 31, _, _, _, _, _⟩ ?_ rfl ?_ ?_
      rotate_left 1
      ·(intro w hSw; obtain ⟨u0, u1, u2, u3, u4, u5, u6, u7, u8, u9, u10, u11⟩ := blk12 hSw.1; have v0 : w.cell? ⟨T, 0, none⟩ = some (.int .i64 (n - 1)) := hSw.2.cell 0; have v1 : w.cell? ⟨T, 1, none⟩ = some (.bool d) := hSw.2.cell 1; go_simp; try with_reducible rfl)
      try simp only [Act.put, putA, putB, putC]
      refine wpAnyN_t 9 ⟨some 32, _, _, _, _, _⟩ ?_ rfl ?_ ?_
      rotate_left 1
      ·(intro w hSw; obtain ⟨u0, u1, u2, u3, u4, u5, u6, u7, u8, u9, u10, u11⟩ := blk12 hSw.1; have v0 : w.cell? ⟨T, 0, none⟩ = some (.int .i64 (n - 1)) := hSw.2.cell 0; have v1 : w.cell? ⟨T, 1, none⟩ = some (.bool d) := hSw.2.cell 1; go_simp; try with_reducible rfl)
      try simp only [Act.put, putA, putB, putC]
      refine wpAnyN_late (i := 10) (o := ⟨none, _, _, _, _, _⟩) (by kernel_rfl) (by kernel_rfl) rfl (fun K hK => ?_)
      obtain ⟨u0, u1, u2, u3, u4, u5, u6, u7, u8, u9, u10, u11⟩ := blk12 hHeld.1
      have uf : ∀ o, x3.frozen? ⟨S, o, none⟩ = false := fun o => hHeld.1.frozen o
      go_simp
      refine hK.out _ _ ?_
      clear hK K u0 u1 u2 u3 u4 u5 u6 u7 u8 u9 u10 u11 uf
      try simp only [Act.put, putA, putB, putC]
      refine wpAnyN_end (by kernel_rfl) ?_
      have HSF := Lib.hid (hHeld.1.set_ 9 (.slice ra (no + 1) rc))
      have HBE0 := Lib.hid (((Below.refl _ _).drew).trans HB_3.out)
      clear hHeld
      have HSB := Lib.hid ((HKB5.out.below HBE0.out HKB5.out.lt).far (p := ⟨S, 9, none⟩) (by show S + 1 ≠ S; omega) (.slice ra (no + 1) rc))
      have HBZ := Lib.hid (below_set (HB5.out.trans (HBE0.out.mono (show S ≤ w5.drew.heap.size by have := HKS.out.lt; show S ≤ w5.heap.size; omega))) (p := ⟨S, 9, none⟩) (Nat.le_refl S) (.slice ra (no + 1) rc))
      go_wp2_with fail
      go_meet
      exact ⟨ra, rc, HSF.out, HSB.out, own_base (own_set HRF.out hBS 9 _) (by have := HKB5.out.lt; show S + 2 ≤ w5.heap.size; omega), HBZ.out⟩
     ·go_simp
      have HL1 : Hid (RowG 2 ((w5.drew.alloc (.cells #[] 64)).alloc (.cells #[.int .i64 (n - 1), .bool d] 64)) (some ⟨w5.heap.size + 1, 0, none⟩) 1 1 [.int .i64 (n - 1), .bool d]) := Lib.hid (by have h := row_elem (w5.drew.alloc (.cells #[] 64)) 64 (.int .i64 (n - 1)) (.bool d); rw [World.size_alloc] at h; exact h)
      have HB_1 := Lib.hid (HB_0.out.alloc HB_0.out.size (.cells #[.int .i64 (n - 1), .bool d] 64))
      have HO1 := Lib.hid (World.ownsRow.alloc HO0.out (.cells #[.int .i64 (n - 1), .bool d] 64))
      have HNE : Hid (w5.heap.size + 1 ≠ w5.heap.size) := Lib.hid (by simp)
      refine hK.out _ _ (by exact ⟨HS0.out.below HB_1.out hBS, HE0.out.below HB_1.out hBE⟩) ?_
      clear hK K hHeld
      intro hHeld
      try simp only [Act.put, putA, putB, putC]
      refine wpAnyN_one (i := 4) (o := ⟨some 27, _, _, _, _, _⟩) (by kernel_rfl) rfl (fun K hK => ?_)
      refine step_append_rowG (z := .agg #[.int .i64 0, .bool false]) (sz := 2) (bytes := 16) info_sort rfl (by decide) Tryz.underlying30 rfl _ _ (by rfl) _ w5.drew.heap.size _ 0 [] ao no co (ordCells oq) (by rfl) (by rfl) HO1.out (HOR0.out _ HB_1.out) HONE.out (by omega) (by unfold maxLen; omega) HB_1.out.size ?_
      intro v2 x2 h2 h3 h4
      rw [Nat.zero_add, List.nil_append] at h2
      have HO2 := Lib.hid h2
      have HB_2 := Lib.hid (h4 _ HB_1.out)
      have HL2 := Lib.hid (HL1.out.grown h3 (.inr (fun x hx => by cases hx; intro hy; simp [Value.ownBlock] at hy)))
      clear h2 h3 h4
      refine hK.out _ _ (by exact ⟨HS0.out.below HB_2.out hBS, HE0.out.below HB_2.out hBE⟩) ?_
      clear hK K hHeld
      intro hHeld
      try simp only [Act.put, putA, putB, putC]
      refine wpAnyN_one (i := 7) (o := ⟨some 30, _, _, _, _, _⟩) (by kernel_rfl) rfl (fun K hK => ?_)
      refine step_append_rowG (z := .agg #[.int .i64 0, .bool false]) (sz := 2) (bytes := 16) info_sort rfl (by decide) Tryz.underlying30 rfl _ _ (by rfl) _ w5.drew.heap.size _ no (ordCells oq) (some ⟨w5.heap.size + 1, 0, none⟩) 1 1 [.int .i64 (n - 1), .bool d] (by rfl) (by rfl) HO2.out HL2.out (by intro u hu; simp at hu; rcases hu with rfl | rfl <;> rfl) (by omega) (by unfold maxLen; omega) HB_2.out.size ?_
      intro v3 x3 h2 h3 h4
      obtain ⟨ra, rc, rfl⟩ := own_form h2
      have HRF := Lib.hid h2
      have HB_3 := Lib.hid (h4 _ HB_2.out)
      clear h2 h3 h4
      refine hK.out _ _ (by exact ⟨HS0.out.below HB_3.out hBS, HE0.out.below HB_3.out hBE⟩) ?_
      clear hK K hHeld
      intro hHeld
      try simp only [Act.put, putA, putB, putC]
      refine wpAnyN_t 8 ⟨some 31, _, _, _, _, _⟩ ?_ rfl ?_ ?_
      rotate_left 1
      ·(intro w hSw; obtain ⟨u0, u1, u2, u3, u4, u5, u6, u7, u8, u9, u10, u11⟩ := blk12 hSw.1; have v0 : w.cell? ⟨T, 0, none⟩ = some (.int .i64 (n - 1)) := hSw.2.cell 0; have v1 : w.cell? ⟨T, 1, none⟩ = some (.bool d) := hSw.2.cell 1; go_simp; try with_reducible rfl)
      try simp only [Act.put, putA, putB, putC]
      refine wpAnyN_t 9 ⟨some 32, _, _, _, _, _⟩ ?_ rfl ?_ ?_
      rotate_left 1
      ·(intro w hSw; obtain ⟨u0, u1, u2, u3, u4, u5, u6, u7, u8, u9, u10, u11⟩ := blk12 hSw.1; have v0 : w.cell? ⟨T, 0, none⟩ = some (.int .i64 (n - 1)) := hSw.2.cell 0; have v1 : w.cell? ⟨T, 1, none⟩ = some (.bool d) := hSw.2.cell 1; go_simp; try with_reducible rfl)
      try simp only [Act.put, putA, putB, putC]
      refine wpAnyN_late (i := 10) (o := ⟨none, _, _, _, _, _⟩) (by kernel_rfl) (by kernel_rfl) rfl (fun K hK => ?_)
      obtain ⟨u0, u1, u2, u3, u4, u5, u6, u7, u8, u9, u10, u11⟩ := blk12 hHeld.1
      have uf : ∀ o, x3.frozen? ⟨S, o, none⟩ = false := fun o => hHeld.1.frozen o
      go_simp
      refine hK.out _ _ ?_
      clear hK K u0 u1 u2 u3 u4 u5 u6 u7 u8 u9 u10 u11 uf
      try simp only [Act.put, putA, putB, putC]
      refine wpAnyN_end (by kernel_rfl) ?_
      have HSF := Lib.hid (hHeld.1.set_ 9 (.slice ra (no + 1) rc))
      have HBE0 := Lib.hid (((Below.refl _ _).drew).trans HB_3.out)
      clear hHeld
      have HSB := Lib.hid ((HKB5.out.below HBE0.out HKB5.out.lt).far (p := ⟨S, 9, none⟩) (by show S + 1 ≠ S; omega) (.slice ra (no + 1) rc))
      have HBZ := Lib.hid (below_set (HB5.out.trans (HBE0.out.mono (show S ≤ w5.drew.heap.size by have := HKS.out.lt; show S ≤ w5.heap.size; omega))) (p := ⟨S, 9, none⟩) (Nat.le_refl S) (.slice ra (no + 1) rc))
      go_wp2_with fail
      go_meet
      exact ⟨ra, rc, HSF.out, HSB.out, own_base (own_set HRF.out hBS 9 _) (by have := HKB5.out.lt; show S + 2 ≤ w5.heap.size; omega), HBZ.out⟩
    ·go_simp
     have HL0 : Hid (RowG 2 (w5.drew.alloc (.cells #[.int .i64 (n - 1), .bool d] 64)) (some ⟨w5.heap.size, 0, none⟩) 1 1 [.int .i64 (n - 1), .bool d]) := Lib.hid (by have h := row_elem w5.drew 64 (.int .i64 (n - 1)) (.bool d); exact h)
     have HB_0 := Lib.hid (HB0R.out.alloc HB0R.out.size (.cells #[.int .i64 (n - 1), .bool d] 64))
     refine hK.out _ _ (by exact ⟨HS0.out.below HB_0.out hBS, HE0.out.below HB_0.out hBE⟩) ?_
     clear hK K hHeld
     intro hHeld
     try simp only [Act.put, putA, putB, putC]
     refine wpAnyN_one (i := 0) (o := ⟨some 23, _, _, _, _, _⟩) (by kernel_rfl) rfl (fun K hK => ?_)
     go_simp
     have HO1 : Hid (((w5.drew.alloc (.cells #[.int .i64 (n - 1), .bool d] 64)).alloc (.cells #[] 64)).ownsRow w5.drew.heap.size 64 2 (.slice (some ⟨w5.heap.size + 1, 0, none⟩) 0 0) 0 []) := Lib.hid (by have h := own_none (w5.drew.alloc (.cells #[.int .i64 (n - 1), .bool d] 64)) 64 _ HB_0.out.size; rw [World.size_alloc] at h; exact h)
     have HB_1 := Lib.hid (HB_0.out.alloc HB_0.out.size (.cells #[] 64))
     have HL1 := Lib.hid (HL0.out.below ((Below.refl _ _).alloc (Nat.le_refl _) (.cells #[] 64)) (Nat.le_refl _))
     have HNE : Hid (w5.heap.size ≠ w5.heap.size + 1) := Lib.hid (by simp)
     refine hK.out _ _ (by exact ⟨HS0.out.below HB_1.out hBS, HE0.out.below HB_1.out hBE⟩) ?_
     clear hK K hHeld
     intro hHeld
     try simp only [Act.put, putA, putB, putC]
     refine wpAnyN_one (i := 4) (o := ⟨some 27, _, _, _, _, _⟩) (by kernel_rfl) rfl (fun K hK => ?_)
     refine step_append_rowG (z := .agg #[.int .i64 0, .bool false]) (sz := 2) (bytes := 16) info_sort rfl (by decide) Tryz.underlying30 rfl _ _ (by rfl) _ w5.drew.heap.size _ 0 [] ao no co (ordCells oq) (by rfl) (by rfl) HO1.out (HOR0.out _ HB_1.out) HONE.out (by omega) (by unfold maxLen; omega) HB_1.out.size ?_
     intro v2 x2 h2 h3 h4
     rw [Nat.zero_add, List.nil_append] at h2
     have HO2 := Lib.hid h2
     have HB_2 := Lib.hid (h4 _ HB_1.out)
     have HL2 := Lib.hid (HL1.out.grown h3 (.inr (fun x hx => by cases hx; intro hy; simp [Value.ownBlock] at hy)))
     clear h2 h3 h4
     refine hK.out _ _ (by exact ⟨HS0.out.below HB_2.out hBS, HE0.out.below HB_2.out hBE⟩) ?_
     clear hK K hHeld
     intro hHeld
     try simp only [Act.put, putA, putB, putC]
     refine wpAnyN_one (i := 7) (o := ⟨some 30, _, _, _, _, _⟩) (by kernel_rfl) rfl (fun K hK => ?_)
     refine step_append_rowG (z := .agg #[.int .i64 0, .bool false]) (sz := 2) (bytes := 16) info_sort rfl (by decide) Tryz.underlying30 rfl _ _ (by rfl) _ w5.drew.heap.size _ no (ordCells oq) (some ⟨w5.heap.size, 0, none⟩) 1 1 [.int .i64 (n - 1), .bool d] (by rfl) (by rfl) HO2.out HL2.out (by intro u hu; simp at hu; rcases hu with rfl | rfl <;> rfl) (by omega) (by unfold maxLen; omega) HB_2.out.size ?_
     intro v3 x3 h2 h3 h4
     obtain ⟨ra, rc, rfl⟩ := own_form h2
     have HRF := Lib.hid h2
     have HB_3 := Lib.hid (h4 _ HB_2.out)
     clear h2 h3 h4
     refine hK.out _ _ (by exact ⟨HS0.out.below HB_3.out hBS, HE0.out.below HB_3.out hBE⟩) ?_
     clear hK K hHeld
     intro hHeld
     try simp only [Act.put, putA, putB, putC]
     refine wpAnyN_t 8 ⟨some 31, _, _, _, _, _⟩ ?_ rfl ?_ ?_
     rotate_left 1
     ·(intro w hSw; obtain ⟨u0, u1, u2, u3, u4, u5, u6, u7, u8, u9, u10, u11⟩ := blk12 hSw.1; have v0 : w.cell? ⟨T, 0, none⟩ = some (.int .i64 (n - 1)) := hSw.2.cell 0; have v1 : w.cell? ⟨T, 1, none⟩ = some (.bool d) := hSw.2.cell 1; go_simp; try with_reducible rfl)
     try simp only [Act.put, putA, putB, putC]
     refine wpAnyN_t 9 ⟨some 32, _, _, _, _, _⟩ ?_ rfl ?_ ?_
     rotate_left 1
     ·(intro w hSw; obtain ⟨u0, u1, u2, u3, u4, u5, u6, u7, u8, u9, u10, u11⟩ := blk12 hSw.1; have v0 : w.cell? ⟨T, 0, none⟩ = some (.int .i64 (n - 1)) := hSw.2.cell 0; have v1 : w.cell? ⟨T, 1, none⟩ = some (.bool d) := hSw.2.cell 1; go_simp; try with_reducible rfl)
     try simp only [Act.put, putA, putB, putC]
     refine wpAnyN_late (i := 10) (o := ⟨none, _, _, _, _, _⟩) (by kernel_rfl) (by kernel_rfl) rfl (fun K hK => ?_)
     obtain ⟨u0, u1, u2, u3, u4, u5, u6, u7, u8, u9, u10, u11⟩ := blk12 hHeld.1
     have uf : ∀ o, x3.frozen? ⟨S, o, none⟩ = false := fun o => hHeld.1.frozen o
     go_simp
     refine hK.out _ _ ?_
     clear hK K u0 u1 u2 u3 u4 u5 u6 u7 u8 u9 u10 u11 uf
     try simp only [Act.put, putA, putB, putC]
     refine wpAnyN_end (by kernel_rfl) ?_
     have HSF := Lib.hid (hHeld.1.set_ 9 (.slice ra (no + 1) rc))
     have HBE0 := Lib.hid (((Below.refl _ _).drew).trans HB_3.out)
     clear hHeld
     have HSB := Lib.hid ((HKB5.out.below HBE0.out HKB5.out.lt).far (p := ⟨S, 9, none⟩) (by show S + 1 ≠ S; omega) (.slice ra (no + 1) rc))
     have HBZ := Lib.hid (below_set (HB5.out.trans (HBE0.out.mono (show S ≤ w5.drew.heap.size by have := HKS.out.lt; show S ≤ w5.heap.size; omega))) (p := ⟨S, 9, none⟩) (Nat.le_refl S) (.slice ra (no + 1) rc))
     go_wp2_with fail
     go_meet
     exact ⟨ra, rc, HSF.out, HSB.out, own_base (own_set HRF.out hBS 9 _) (by have := HKB5.out.lt; show S + 2 ≤ w5.heap.size; omega), HBZ.out⟩
   case rest =>
    obtain ⟨ra, rc, hka, hkb, hrg, hb⟩ := hcut
    have HKA7 := Lib.hid hka
    have HKB7 := Lib.hid hkb
    have HRG := Lib.hid hrg
    have HB7 := Lib.hid hb
    obtain ⟨w7, rfl⟩ : ∃ x, x = wc := ⟨_, rfl⟩
    clear hka hkb hrg hb
    have c0 := HKA7.out.c 0
    have c1 := HKA7.out.c 1
    have c2 := HKA7.out.c 2
    have c3 := HKA7.out.c 3
    have c4 := HKA7.out.c 4
    have c5 := HKA7.out.c 5
    have c6 := HKA7.out.c 6
    have c7 := HKA7.out.c 7
    have c8 := HKA7.out.c 8
    have c9 := HKA7.out.c 9
    have c10 := HKA7.out.c 10
    have c11 := HKA7.out.c 11
    have d0 := HKB7.out.c 0
    have d1 := HKB7.out.c 1
    have d2 := HKB7.out.c 2
    have d3 := HKB7.out.c 3
    have d4 := HKB7.out.c 4
    have d5 := HKB7.out.c 5
    have d6 := HKB7.out.c 6
    have d7 := HKB7.out.c 7
    have d8 := HKB7.out.c 8
    have d9 := HKB7.out.c 9
    have d10 := HKB7.out.c 10
    have d11 := HKB7.out.c 11
    have fzd : ∀ o, w7.frozen? ⟨S + 1, o, none⟩ = false := fun o => HKB7.out.frozen o
    go_wp2_with fail
    have HRGF := Lib.hid (own_set (own_set (own_set (own_set (own_set (own_set (own_set (own_set (own_set (own_set (own_set (own_set HRG.out (R := S + 1) (by omega) 0 (.slice ad nd cd)) (R := S + 1) (by omega) 1 (.slice ai ni ci)) (R := S + 1) (by omega) 2 (.slice an nn cn)) (R := S + 1) (by omega) 3 (.slice av nv cv)) (R := S + 1) (by omega) 4 (.slice ta L.length tc)) (R := S + 1) (by omega) 5 (.int .i64 (i2 : Int))) (R := S + 1) (by omega) 6 (.int .u32 g)) (R := S + 1) (by omega) 7 (.slice af nf cf)) (R := S + 1) (by omega) 8 (.slice ac nc cc)) (R := S + 1) (by omega) 9 (.slice ra (no + 1) rc)) (R := S + 1) (by omega) 10 (.int .i64 lm)) (R := S + 1) (by omega) 11 (.int .i64 (e1 : Int)))
    have HKF := Lib.hid (blk_st12 (HKB7.out) (.slice ad nd cd) (.slice ai ni ci) (.slice an nn cn) (.slice av nv cv) (.slice ta L.length tc) (.int .i64 (i2 : Int)) (.int .u32 g) (.slice af nf cf) (.slice ac nc cc) (.slice ra (no + 1) rc) (.int .i64 lm) (.int .i64 (e1 : Int)))
    have HBF := Lib.hid (below_st12 (HB7.out) (b := S + 1) (by have := HSW.out; omega) (.slice ad nd cd) (.slice ai ni ci) (.slice an nn cn) (.slice av nv cv) (.slice ta L.length tc) (.int .i64 (i2 : Int)) (.int .u32 g) (.slice af nf cf) (.slice ac nc cc) (.slice ra (no + 1) rc) (.int .i64 lm) (.int .i64 (e1 : Int)))
    generalize ((((((((((((w7.setCell ⟨S + 1, 0, none⟩ (.slice ad nd cd)).setCell ⟨S + 1, 1, none⟩ (.slice ai ni ci)).setCell ⟨S + 1, 2, none⟩ (.slice an nn cn)).setCell ⟨S + 1, 3, none⟩ (.slice av nv cv)).setCell ⟨S + 1, 4, none⟩ (.slice ta L.length tc)).setCell ⟨S + 1, 5, none⟩ (.int .i64 (i2 : Int))).setCell ⟨S + 1, 6, none⟩ (.int .u32 g)).setCell ⟨S + 1, 7, none⟩ (.slice af nf cf)).setCell ⟨S + 1, 8, none⟩ (.slice ac nc cc)).setCell ⟨S + 1, 9, none⟩ (.slice ra (no + 1) rc)).setCell ⟨S + 1, 10, none⟩ (.int .i64 lm)).setCell ⟨S + 1, 11, none⟩ (.int .i64 (e1 : Int))) = Wf at *
    have z0 := HKF.out.c 0
    have z1 := HKF.out.c 1
    have z2 := HKF.out.c 2
    have z3 := HKF.out.c 3
    have z4 := HKF.out.c 4
    have z5 := HKF.out.c 5
    have z6 := HKF.out.c 6
    have z7 := HKF.out.c 7
    have z8 := HKF.out.c 8
    have z9 := HKF.out.c 9
    have z10 := HKF.out.c 10
    have z11 := HKF.out.c 11
    refine bodyPost_ret (v := .agg #[.slice ad nd cd, .slice ai ni ci, .slice an nn cn, .slice av nv cv, .slice ta L.length tc, .int .i64 (i2 : Int), .int .u32 g, .slice af nf cf, .slice ac nc cc, .slice ra (no + 1) rc, .int .i64 lm, .int .i64 (e1 : Int)]) (by simp [results, Tryz.results106, go_sem, z0, z1, z2, z3, z4, z5, z6, z7, z8, z9, z10, z11]) rfl ?_
    have HRR : Hid (r = ⟨i2, ⟨g, fq, cq, oq ++ [(n - 1, d)], lm⟩, e1⟩) := Lib.hid (by rw [HOR.out, HI2'.out]; cases v <;> rfl)
    rw [HRR.out]
    refine ⟨⟨af, nf, cf, ac, nc, cc, ra, no + 1, rc⟩, fl, rfl, fun wx hag => ?_, by rw [HSW.out]; exact HBF.out⟩
    have h := HSG.out wx (hag.old (by rw [HSW.out]; exact HBF.out))
    refine ⟨ord_qry h.q (x := (n - 1, d)) ⟨n2, n3⟩ (by rw [ordCells_push]; exact own_rowg (own_agr hag HRGF.out (by have := HSW.out; omega))), h.fs, h.grp, fun he => ?_, ?_⟩
    ·obtain ⟨k1, k2⟩ := HNA.out.2.2.1 he
     obtain ⟨k3, k4, k5⟩ := h.len k1
     have k6 : i1 ≤ i2 := by rw [HI2'.out]; cases v <;> simp
     dsimp only at *
     rw [List.length_append]
     exact ⟨by omega, by show oq.length + 1 ≤ i2; omega, by omega⟩
    ·show i2 < L.length
     rw [HI2'.out]
     rcases v with _ | _
     ·exact HNA.out.1
     ·exact (HW1.out (by have := HV.out; revert this; cases d <;> cases a <;> simp)).2
end Go.Proofs.YtaofjnidniekjaaGreatDoor
/- The reference's reading (package bushelref36): col. Conditions: those stated. -/
namespace Go.Proofs.YtaofjnidniekjaaGreatDoor
open Go.RowKit

theorem own_none1 (w : World) (e : TypeId) (N : Nat) (h : N ≤ w.heap.size) : (w.alloc (.cells #[] e)).ownsRow N e 1 (.slice (some ⟨w.heap.size, 0, none⟩) 0 0) 0 [] :=
 ⟨rfl, .inr ⟨w.heap.size, 0, #[], rfl, h, heap_alloc_new w _, Nat.le_refl _, Nat.zero_le _, rfl, rfl⟩⟩
theorem col_qry {w : World} {af ac ao ra : Option Addr} {nf cf nc cc no co rc : Nat} {q : QP} {fl : List Flt} (h : QryAt w ⟨af, nf, cf, ac, nc, cc, ao, no, co⟩ (q.at' fl)) {x : Int × Int} (hx : I64 x.1 ∧ I64 x.2) (hr : RowG 2 w ra (nc + 1) rc (colCells (q.cols ++ [x]))) : QryAt w ⟨af, nf, cf, ra, nc + 1, rc, ao, no, co⟩ (({ q with cols := q.cols ++ [x] } : QP).at' fl) :=
 ⟨h.1, hr, by have := h.2.2.1; show (q.cols ++ [x]).length = nc + 1; rw [List.length_append]; exact congrArg (· + 1) this, h.2.2.2.1, h.2.2.2.2.1, h.2.2.2.2.2.1, h.2.2.2.2.2.2.1, fun c hc => by
  rcases List.mem_append.1 hc with hc | hc
  ·exact h.2.2.2.2.2.2.2.1 c hc
  ·rw [List.mem_singleton.1 hc]; exact hx, h.2.2.2.2.2.2.2.2⟩

set_option maxRecDepth 100000 in
set_option maxHeartbeats 4000000 in
theorem vcol_any (X : RX) (m : QryL) (fl : List Flt) (p : PState) (G : Nat → Prop) (w : World) (hX : X.At w) (hpG : StG G X m fl p w) :
  Calls Tryz.prog 103 #[StV X m p] w (RStO X (colR (measN X.s) X.L p) G w) := by
 have hp := hpG.here
 have HSG := Lib.hid hpG
 clear hpG
 have hmany := hX.good.many
 have HG := Lib.hid hX.good
 have HCH := Lib.hid hX.chk
 have HIS := Lib.hid (fun (w' : World) (hb : Below w.heap.size w w') (u : ByteArray) (b : Bool) (hb' : isR X.L p u.data.toList = b) => vis_any X m p w' (hX.below hb (Nat.le_refl _)) hp.at' u b hb')
 have HON := Lib.hid (fun (w' : World) => von_any X m p w' (by have := hp.at'; omega))
 have HFA := Lib.hid (fun (w' : World) => vfail_any X m p w' 6)
 have HWA := Lib.hid (fun (hn : (onR p).at' < X.L.length) (w' : World) (hb : Below w.heap.size w w') => vwant_any X m (onR p) w' (hX.below hb (Nat.le_refl _)) hn ⟨#[40]⟩ [40] rfl)
 have HWN := Lib.hid (fun (hn : (onR p).at' < X.L.length) => want_at hX.good (t := [40]) hn)
 have HPL := Lib.hid (fun (p1 : PState) (hn : p1.at' < X.L.length) (w' : World) (ya : Option Addr) (yn yc : Nat) (hb : Below w.heap.size w w') (hy : RowS w' ya yn yc (measN X.s)) => vplace_any X m p1 w' (hX.below hb (Nat.le_refl _)) hn ya yn yc _ hy)
 have HPN := Lib.hid (fun (p1 : PState) (hn : p1.at' < X.L.length) => place_at hX.good (measN X.s) hn)
 have HWB := Lib.hid (fun (p1 : PState) (hn : p1.at' < X.L.length) (w' : World) (hb : Below w.heap.size w w') => vwant_any X m p1 w' (hX.below hb (Nat.le_refl _)) hn ⟨#[41]⟩ [41] rfl)
 have HWM := Lib.hid (fun (p1 : PState) (hn : p1.at' < X.L.length) => want_at hX.good (t := [41]) hn)
 have HIR := Lib.hid (fun (w' : World) (hb : Below w.heap.size w w') => (hX.sch.2.2.1.below hb (Nat.le_refl _)).g)
 have HNR := Lib.hid (fun (w' : World) (hb : Below w.heap.size w w') => (hX.sch.2.2.2.1.below hb (Nat.le_refl _)).g)
 have HML := Lib.hid (meas_few hX.chk)
 have hni : X.l.ni ≤ 3 := by have h1 := (chk_dims hX.chk).2.2.1; have h2 : X.s.ints.length = X.l.ni := hX.sch.2.2.1.1; omega
 have hnn : X.l.nn ≤ 2 := by have h1 := (chk_dims hX.chk).2.2.2; have h2 : X.s.nums.length = X.l.nn := hX.sch.2.2.2.1.1; omega
 have HST := Lib.hid hp
 obtain ⟨r, hr⟩ : ∃ x, colR (measN X.s) X.L p = x := ⟨_, rfl⟩
 rw [hr]
 have HCR := Lib.hid hr
 clear hr hX hp
 unfold RSt RStN at *
 unfold onR at HON HWA HWN
 unfold StV at *
 obtain ⟨⟨ad, nd, cd, ai, ni, ci, an, nn, cn, av, nv, cv⟩, s, ta, tc, L⟩ := X
 obtain ⟨af, nf, cf, ac, nc, cc, ao, no, co⟩ := m
 obtain ⟨i, ⟨g, fq, cq, oq, lm⟩, er⟩ := p
 (try dsimp only at *)
 obtain ⟨W0, hW0⟩ : ∃ W0, ((w.alloc (.cells #[.slice ad nd cd, .slice ai ni ci, .slice an nn cn, .slice av nv cv, .slice ta L.length tc, .int .i64 (i : Int), .int .u32 g, .slice af nf cf, .slice ac nc cc, .slice ao no co, .int .i64 lm, .int .i64 (er : Int)] 122)).alloc (.cells #[.slice none 0 0, .slice none 0 0, .slice none 0 0, .slice none 0 0, .slice none 0 0, .int .i64 0, .int .u32 0, .slice none 0 0, .slice none 0 0, .slice none 0 0, .int .i64 0, .int .i64 0] 122)) = W0 := ⟨_, rfl⟩
 have HB0 : Hid (Below w.heap.size w W0) := Lib.hid (by
  rw [← hW0]
  exact (((Below.refl _ _).alloc (Nat.le_refl _) _).alloc (by simp) _))
 have HZ0 : Hid (W0.heap.size = w.heap.size + 2) := Lib.hid (by rw [← hW0]; simp)
 have HK0 : Hid (Blk W0 (w.heap.size) 122 #[.slice ad nd cd, .slice ai ni ci, .slice an nn cn, .slice av nv cv, .slice ta L.length tc, .int .i64 (i : Int), .int .u32 g, .slice af nf cf, .slice ac nc cc, .slice ao no co, .int .i64 lm, .int .i64 (er : Int)]) := Lib.hid (by
  rw [← hW0]
  have h := Blk.new w 122 #[.slice ad nd cd, .slice ai ni ci, .slice an nn cn, .slice av nv cv, .slice ta L.length tc, .int .i64 (i : Int), .int .u32 g, .slice af nf cf, .slice ac nc cc, .slice ao no co, .int .i64 lm, .int .i64 (er : Int)]
  exact h.alloc _)
 have HK1 : Hid (Blk W0 (w.heap.size + 1) 122 #[.slice none 0 0, .slice none 0 0, .slice none 0 0, .slice none 0 0, .slice none 0 0, .int .i64 0, .int .u32 0, .slice none 0 0, .slice none 0 0, .slice none 0 0, .int .i64 0, .int .i64 0]) := Lib.hid (by
  rw [← hW0]
  have h := Blk.new (w.alloc (.cells #[.slice ad nd cd, .slice ai ni ci, .slice an nn cn, .slice av nv cv, .slice ta L.length tc, .int .i64 (i : Int), .int .u32 g, .slice af nf cf, .slice ac nc cc, .slice ao no co, .int .i64 lm, .int .i64 (er : Int)] 122)) 122 #[.slice none 0 0, .slice none 0 0, .slice none 0 0, .slice none 0 0, .slice none 0 0, .int .i64 0, .int .u32 0, .slice none 0 0, .slice none 0 0, .slice none 0 0, .int .i64 0, .int .i64 0]
  rw [World.size_alloc] at h
  exact h)
 (try unfold StV)
 (try dsimp only)
 go_enter Tryz.func103, Tryz.ntmps103
 go_upto_region 1 with fail
 clear hW0
 generalize hS : w.heap.size = S at *
 have HSW := Lib.hid hS
 clear hS
 go_wp2_with fail
 have HKA0 := Lib.hid (HK0.out.alloc (.cells #[.string ⟨#[99, 111, 117, 110, 116]⟩, .string ⟨#[115, 117, 109]⟩, .string ⟨#[109, 105, 110]⟩, .string ⟨#[109, 97, 120]⟩, .string ⟨#[109, 101, 97, 110]⟩, .string ⟨#[100, 101, 118]⟩, .string ⟨#[115, 104, 97, 114, 101]⟩] 9))
 have HKB0 := Lib.hid (HK1.out.alloc (.cells #[.string ⟨#[99, 111, 117, 110, 116]⟩, .string ⟨#[115, 117, 109]⟩, .string ⟨#[109, 105, 110]⟩, .string ⟨#[109, 97, 120]⟩, .string ⟨#[109, 101, 97, 110]⟩, .string ⟨#[100, 101, 118]⟩, .string ⟨#[115, 104, 97, 114, 101]⟩] 9))
 have HKL0 := Lib.hid (Blk.new W0 9 #[.string ⟨#[99, 111, 117, 110, 116]⟩, .string ⟨#[115, 117, 109]⟩, .string ⟨#[109, 105, 110]⟩, .string ⟨#[109, 97, 120]⟩, .string ⟨#[109, 101, 97, 110]⟩, .string ⟨#[100, 101, 118]⟩, .string ⟨#[115, 104, 97, 114, 101]⟩])
 have HBL0 := Lib.hid (HB0.out.alloc (by have := HZ0.out; omega) (.cells #[.string ⟨#[99, 111, 117, 110, 116]⟩, .string ⟨#[115, 117, 109]⟩, .string ⟨#[109, 105, 110]⟩, .string ⟨#[109, 97, 120]⟩, .string ⟨#[109, 101, 97, 110]⟩, .string ⟨#[100, 101, 118]⟩, .string ⟨#[115, 104, 97, 114, 101]⟩] 9))
 generalize W0.alloc (.cells #[.string ⟨#[99, 111, 117, 110, 116]⟩, .string ⟨#[115, 117, 109]⟩, .string ⟨#[109, 105, 110]⟩, .string ⟨#[109, 97, 120]⟩, .string ⟨#[109, 101, 97, 110]⟩, .string ⟨#[100, 101, 118]⟩, .string ⟨#[115, 104, 97, 114, 101]⟩] 9) = w0 at *
 have HLS : Hid (S + 1 < W0.heap.size) := Lib.hid (by have := HZ0.out; omega)
 generalize W0.heap.size = SL at *
 go_loopg [4] 7 (fun q ku wr => ∃ (k : Nat), ku = .int .i64 k ∧ k + q = 7 ∧ (er = 0 → kindAt L i (aggW.drop k) k = kindAt L i aggW 0) ∧ Blk wr S 122 #[.slice ad nd cd, .slice ai ni ci, .slice an nn cn, .slice av nv cv, .slice ta L.length tc, .int .i64 (i : Int), .int .u32 g, .slice af nf cf, .slice ac nc cc, .slice ao no co, .int .i64 lm, .int .i64 (er : Int)] ∧ Blk wr (S + 1) 122 #[.slice none 0 0, .slice none 0 0, .slice none 0 0, .slice none 0 0, .slice none 0 0, .int .i64 0, .int .u32 0, .slice none 0 0, .slice none 0 0, .slice none 0 0, .int .i64 0, .int .i64 0] ∧ Blk wr SL 9 #[.string ⟨#[99, 111, 117, 110, 116]⟩, .string ⟨#[115, 117, 109]⟩, .string ⟨#[109, 105, 110]⟩, .string ⟨#[109, 97, 120]⟩, .string ⟨#[109, 101, 97, 110]⟩, .string ⟨#[100, 101, 118]⟩, .string ⟨#[115, 104, 97, 114, 101]⟩] ∧ Below S w wr)
 case atStart => exact ⟨0, rfl, rfl, fun _ => rfl, HKA0.out, HKB0.out, HKL0.out, HBL0.out⟩
 case round =>
  obtain ⟨k, rfl, hq, hka, hk0, hk1, hkl, hb⟩ := hrel
  have HQ := Lib.hid hq
  have HKA := Lib.hid hka
  have HKS := Lib.hid hk0
  have HKB := Lib.hid hk1
  have HKL := Lib.hid hkl
  have HB := Lib.hid hb
  clear hq hka hk0 hk1 hkl hb HKA0 HKB0 HKL0 HBL0
  by_cases hlt : k < 7
  ·obtain ⟨u, hu, hd⟩ := kind_drop hlt
   have c0 : wr.cell? ⟨SL, k, none⟩ = some (.string u) := by rw [Blk.cell HKL.out]; exact hu
   have HDR := Lib.hid hd
   obtain ⟨b, hb⟩ : ∃ b, isR L ⟨i, ⟨g, fq, cq, oq, lm⟩, er⟩ u.data.toList = b := ⟨_, rfl⟩
   have HBW := Lib.hid hb
   have HII := Lib.hid (HIS.out wr.drew (HB.out.drew) u b hb)
   have hg1 : 1 ≤ gk := by have := HQ.out; omega
   have i0 : (0 : Int) ≤ (k : Int) ∧ (k : Int) < 7 := by omega
   clear hu hd hb
   have d0 := HKS.out.c 0
   have d1 := HKS.out.c 1
   have d2 := HKS.out.c 2
   have d3 := HKS.out.c 3
   have d4 := HKS.out.c 4
   have d5 := HKS.out.c 5
   have d6 := HKS.out.c 6
   have d7 := HKS.out.c 7
   have d8 := HKS.out.c 8
   have d9 := HKS.out.c 9
   have d10 := HKS.out.c 10
   have d11 := HKS.out.c 11
   go_upto_region 5 with fail
   go_still_tail 5, (by kernel_rfl)
   change wpList _ _ _ _ _ wr.drew
   clear d0 d1 d2 d3 d4 d5 d6 d7 d8 d9 d10 d11
   clear c0 i0
   go_wp2_with fail
   refine HII.out.mono ?_; rintro e w1 ⟨rfl, hb1⟩
   have HB1 := Lib.hid (HB.out.drew.trans (hb1.mono (by have := HKS.out.lt; show S ≤ wr.heap.size; omega)))
   have HKS1 := Lib.hid (HKS.out.drew.below hb1 HKS.out.lt)
   have HKB1 := Lib.hid (HKB.out.drew.below hb1 HKB.out.lt)
   have HKL1 := Lib.hid (HKL.out.drew.below hb1 HKL.out.lt)
   clear hb1 HII
   rcases b with _ | _
   ·have HKN : Hid (er = 0 → kindAt L i (aggW.drop (k + 1)) (k + 1) = kindAt L i aggW 0) := Lib.hid (fun he => by
     rw [← HKA.out he, HDR.out]
     have hw : wordAt L i u.data.toList = false := by
      have h := HBW.out
      unfold isR at h
      subst he
      exact h
     show _ = if wordAt L i u.data.toList then _ else _
     rw [hw]; rfl)
    go_wp2_with fail
    go_roundg (gk - 1)
    case measure => omega
    case rel => exact ⟨k + 1, by go_num, by have := HQ.out; omega, HKN.out, HKS1.out, HKB1.out, HKL1.out, HB1.out⟩
   ·have hwa := word_at HG.out HBW.out
    have HER : Hid (er = 0) := Lib.hid hwa.1
    have HI1 : Hid (i + 1 < L.length) := Lib.hid hwa.2
    have HKK : Hid (kindAt L i aggW 0 = some k) := Lib.hid (by
     rw [← HKA.out hwa.1, HDR.out]
     have hw : wordAt L i u.data.toList = true := by
      have h := HBW.out
      unfold isR at h
      simp only [Bool.and_eq_true] at h
      exact h.2
     show (if wordAt L i u.data.toList then _ else _) = _
     rw [hw]; rfl)
    clear hwa
    go_upto_region 7 with fail
    have HKS2 := Lib.hid (HKS1.out.alloc (.cells #[.int .i64 (k : Int), .int .i64 0] 56))
    have HKB2 := Lib.hid (HKB1.out.alloc (.cells #[.int .i64 (k : Int), .int .i64 0] 56))
    have HKT2 := Lib.hid (Blk.new w1 56 #[.int .i64 (k : Int), .int .i64 0])
    have HB2 := Lib.hid (HB1.out.alloc (by have := HKS1.out.lt; omega) (.cells #[.int .i64 (k : Int), .int .i64 0] 56))
    have HTS3 : Hid (S + 1 < w1.heap.size) := Lib.hid HKB1.out.lt
    have HTS2 : Hid (w1.heap.size ≠ S) := Lib.hid (by have := HTS3.out; omega)
    generalize w1.alloc (.cells #[.int .i64 (k : Int), .int .i64 0] 56) = w2 at *
    generalize w1.heap.size = T at *
    have d0 := HKS2.out.c 0
    have d1 := HKS2.out.c 1
    have d2 := HKS2.out.c 2
    have d3 := HKS2.out.c 3
    have d4 := HKS2.out.c 4
    have d5 := HKS2.out.c 5
    have d6 := HKS2.out.c 6
    have d7 := HKS2.out.c 7
    have d8 := HKS2.out.c 8
    have d9 := HKS2.out.c 9
    have d10 := HKS2.out.c 10
    have d11 := HKS2.out.c 11
    have fzd : ∀ o, w2.frozen? ⟨S, o, none⟩ = false := fun o => HKS2.out.frozen o
    go_wp2_with fail
    refine (HON.out _).mono ?_; rintro e w3 ⟨rfl, hb3⟩
    have HB3 := Lib.hid (HB2.out.trans (hb3.mono (by have := HKS2.out.lt; omega)))
    have HKS3 := Lib.hid (HKS2.out.below hb3 HKS2.out.lt)
    have HKB3 := Lib.hid (HKB2.out.below hb3 HKB2.out.lt)
    have HKT3 := Lib.hid (HKT2.out.below hb3 HKT2.out.lt)
    dsimp only
    clear hb3
    clear d0 d1 d2 d3 d4 d5 d6 d7 d8 d9 d10 d11 fzd
    have d0 := HKS3.out.c 0
    have d1 := HKS3.out.c 1
    have d2 := HKS3.out.c 2
    have d3 := HKS3.out.c 3
    have d4 := HKS3.out.c 4
    have d5 := HKS3.out.c 5
    have d6 := HKS3.out.c 6
    have d7 := HKS3.out.c 7
    have d8 := HKS3.out.c 8
    have d9 := HKS3.out.c 9
    have d10 := HKS3.out.c 10
    have d11 := HKS3.out.c 11
    have fzd : ∀ o, w3.frozen? ⟨S, o, none⟩ = false := fun o => HKS3.out.frozen o
    go_upto_region 8 with fail
    clear d0 d1 d2 d3 d4 d5 d6 d7 d8 d9 d10 d11 fzd
    have HKS4 := Lib.hid (blk_st12 HKS3.out (.slice ad nd cd) (.slice ai ni ci) (.slice an nn cn) (.slice av nv cv) (.slice ta L.length tc) (.int .i64 ((i : Int) + 1)) (.int .u32 g) (.slice af nf cf) (.slice ac nc cc) (.slice ao no co) (.int .i64 lm) (.int .i64 (er : Int)))
    have HKB4 := Lib.hid (blk_far12 HKB3.out (b := S) (by first | omega | exact HTS2.out) (.slice ad nd cd) (.slice ai ni ci) (.slice an nn cn) (.slice av nv cv) (.slice ta L.length tc) (.int .i64 ((i : Int) + 1)) (.int .u32 g) (.slice af nf cf) (.slice ac nc cc) (.slice ao no co) (.int .i64 lm) (.int .i64 (er : Int)))
    have HKT4 := Lib.hid (blk_far12 HKT3.out (b := S) (by first | omega | exact HTS2.out) (.slice ad nd cd) (.slice ai ni ci) (.slice an nn cn) (.slice av nv cv) (.slice ta L.length tc) (.int .i64 ((i : Int) + 1)) (.int .u32 g) (.slice af nf cf) (.slice ac nc cc) (.slice ao no co) (.int .i64 lm) (.int .i64 (er : Int)))
    have HB4 := Lib.hid (below_st12 HB3.out (b := S) (by have := HSW.out; omega) (.slice ad nd cd) (.slice ai ni ci) (.slice an nn cn) (.slice av nv cv) (.slice ta L.length tc) (.int .i64 ((i : Int) + 1)) (.int .u32 g) (.slice af nf cf) (.slice ac nc cc) (.slice ao no co) (.int .i64 lm) (.int .i64 (er : Int)))
    generalize ((((((((((((w3.setCell ⟨S, 0, none⟩ (.slice ad nd cd)).setCell ⟨S, 1, none⟩ (.slice ai ni ci)).setCell ⟨S, 2, none⟩ (.slice an nn cn)).setCell ⟨S, 3, none⟩ (.slice av nv cv)).setCell ⟨S, 4, none⟩ (.slice ta L.length tc)).setCell ⟨S, 5, none⟩ (.int .i64 ((i : Int) + 1))).setCell ⟨S, 6, none⟩ (.int .u32 g)).setCell ⟨S, 7, none⟩ (.slice af nf cf)).setCell ⟨S, 8, none⟩ (.slice ac nc cc)).setCell ⟨S, 9, none⟩ (.slice ao no co)).setCell ⟨S, 10, none⟩ (.int .i64 lm)).setCell ⟨S, 11, none⟩ (.int .i64 (er : Int))) = w4 at *
    go_upto_if 25 with fail
    go_cut [] (fun wx => ∃ i3 e3 mm : Nat, r = ⟨i3, ⟨g, fq, cq ++ [((k : Int), (mm : Int))], oq, lm⟩, e3⟩ ∧ i3 < L.length ∧ (e3 = 0 → i < i3) ∧ mm ≤ 1000 ∧ Blk wx S 122 #[.slice ad nd cd, .slice ai ni ci, .slice an nn cn, .slice av nv cv, .slice ta L.length tc, .int .i64 (i3 : Int), .int .u32 g, .slice af nf cf, .slice ac nc cc, .slice ao no co, .int .i64 lm, .int .i64 (e3 : Int)] ∧ Blk wx (S + 1) 122 #[.slice none 0 0, .slice none 0 0, .slice none 0 0, .slice none 0 0, .slice none 0 0, .int .i64 0, .int .u32 0, .slice none 0 0, .slice none 0 0, .slice none 0 0, .int .i64 0, .int .i64 0] ∧ Blk wx T 56 #[.int .i64 (k : Int), .int .i64 (mm : Int)] ∧ Below S w wx)
    case first =>
     by_cases hk0 : k = 0
     ·have HCX : Hid (r = ⟨i + 1, ⟨g, fq, cq ++ [((k : Int), ((0 : Nat) : Int))], oq, lm⟩, er⟩) := Lib.hid (by
       rw [← HCR.out]
       unfold colR
       dsimp only
       rw [if_pos HER.out, HKK.out, hk0]
       rfl)
      have t1 : decide (0 < k) = false := by rw [hk0]; rfl
      have t2 : k ≤ 0 := by omega
      clear hk0
      go_wp2_with fail
      go_meet
      exact ⟨i + 1, er, 0, HCX.out, HI1.out, fun _ => Nat.lt_succ_self i, Nat.zero_le _, HKS4.out, HKB4.out, HKT4.out, HB4.out⟩
     ·have t1 : decide (0 < k) = true := decide_eq_true (by omega)
      have t2 : 0 < k := by omega
      obtain ⟨p1, hp1⟩ : ∃ x, wantR L ⟨i + 1, ⟨g, fq, cq, oq, lm⟩, er⟩ [40] = x := ⟨_, rfl⟩
      have HW1 := Lib.hid (HWN.out HI1.out)
      have HWA1 := Lib.hid (HWA.out HI1.out)
      rw [hp1] at HW1 HWA1
      have HP1 := Lib.hid hp1
      clear hp1
      have hq1 := HW1.out.2.1
      obtain ⟨i2, q2, e2⟩ := p1
      dsimp only at hq1
      subst hq1
      obtain ⟨⟨p2, mm⟩, hp2⟩ : ∃ x, placeR (measN s) L ⟨i2, ⟨g, fq, cq, oq, lm⟩, e2⟩ = x := ⟨_, rfl⟩
      have HN2 := Lib.hid (HPN.out ⟨i2, ⟨g, fq, cq, oq, lm⟩, e2⟩ HW1.out.1)
      have HPL2 := Lib.hid (HPL.out ⟨i2, ⟨g, fq, cq, oq, lm⟩, e2⟩ HW1.out.1)
      rw [hp2] at HN2 HPL2
      have HP2 := Lib.hid hp2
      clear hp2
      have hq2 := HN2.out.2.1
      obtain ⟨i3, q3, e3⟩ := p2
      dsimp only at hq2
      subst hq2
      obtain ⟨p3, hp3⟩ : ∃ x, wantR L ⟨i3, ⟨g, fq, cq, oq, lm⟩, e3⟩ [41] = x := ⟨_, rfl⟩
      have HW3 := Lib.hid (HWM.out ⟨i3, ⟨g, fq, cq, oq, lm⟩, e3⟩ HN2.out.1)
      have HWB3 := Lib.hid (HWB.out ⟨i3, ⟨g, fq, cq, oq, lm⟩, e3⟩ HN2.out.1)
      rw [hp3] at HW3 HWB3
      have HP3 := Lib.hid hp3
      clear hp3
      have hq3 := HW3.out.2.1
      obtain ⟨i4, q4, e4⟩ := p3
      dsimp only at hq3
      subst hq3
      dsimp only at *
      have HCX : Hid (r = ⟨i4, ⟨g, fq, cq ++ [((k : Int), (mm : Int))], oq, lm⟩, e4⟩) := Lib.hid (by
       rw [← HCR.out]
       obtain ⟨k2, rfl⟩ : ∃ k2, k = k2 + 1 := ⟨k - 1, by omega⟩
       unfold colR
       dsimp only
       rw [if_pos HER.out, HKK.out]
       dsimp only [onR]
       rw [HP1.out, HP2.out]
       dsimp only
       rw [HP3.out])
      clear hk0
      go_upto_region 9 with fail
      obtain ⟨w5, rfl⟩ : ∃ x, x = w4 := ⟨_, rfl⟩
      have HKS := HKS4
      have HKB5 := HKB4
      have HKT := HKT4
      have HB5 := HB4
      go_cut [] (fun wx => Blk wx S 122 #[.slice ad nd cd, .slice ai ni ci, .slice an nn cn, .slice av nv cv, .slice ta L.length tc, .int .i64 (i3 : Int), .int .u32 g, .slice af nf cf, .slice ac nc cc, .slice ao no co, .int .i64 lm, .int .i64 (e3 : Int)] ∧ Blk wx (S + 1) 122 #[.slice none 0 0, .slice none 0 0, .slice none 0 0, .slice none 0 0, .slice none 0 0, .int .i64 0, .int .u32 0, .slice none 0 0, .slice none 0 0, .slice none 0 0, .int .i64 0, .int .i64 0] ∧ Blk wx T 56 #[.int .i64 (k : Int), .int .i64 (mm : Int)] ∧ Below S w wx)
      case first =>
       have HS0 := Lib.hid (HKS.out).drew
       have HB0R := Lib.hid (Below.refl w5.drew.heap.size w5.drew)
       have hBS : S < w5.drew.heap.size := HS0.out.lt
       refine wp_regionN (fun w' => Blk w' S 122 #[.slice ad nd cd, .slice ai ni ci, .slice an nn cn, .slice av nv cv, .slice ta L.length tc, .int .i64 ((i : Int) + 1), .int .u32 g, .slice af nf cf, .slice ac nc cc, .slice ao no co, .int .i64 lm, .int .i64 (er : Int)]) [13, 14, 15, 16, 17] (by kernel_rfl) (by exact HS0.out) (fun hHeld => ?_)
       refine wpAnyN_t 0 ⟨some 27, _, _, _, _, _⟩ ?_ rfl ?_ ?_
       rotate_left 1
       ·(intro w hSw; obtain ⟨u0, u1, u2, u3, u4, u5, u6, u7, u8, u9, u10, u11⟩ := blk12 hSw; go_simp; try with_reducible rfl)
       try simp only [Act.put, putA, putB, putC]
       refine wpAnyN_t 3 ⟨some 30, _, _, _, _, _⟩ ?_ rfl ?_ ?_
       rotate_left 1
       ·(intro w hSw; obtain ⟨u0, u1, u2, u3, u4, u5, u6, u7, u8, u9, u10, u11⟩ := blk12 hSw; go_simp; try with_reducible rfl)
       try simp only [Act.put, putA, putB, putC]
       refine wpAnyN_t 4 ⟨some 31, _, _, _, _, _⟩ ?_ rfl ?_ ?_
       rotate_left 1
       ·(intro w hSw; obtain ⟨u0, u1, u2, u3, u4, u5, u6, u7, u8, u9, u10, u11⟩ := blk12 hSw; go_simp; try with_reducible rfl)
       try simp only [Act.put, putA, putB, putC]
       refine wpAnyN_t 5 ⟨some 32, _, _, _, _, _⟩ ?_ rfl ?_ ?_
       rotate_left 1
       ·(intro w hSw; obtain ⟨u0, u1, u2, u3, u4, u5, u6, u7, u8, u9, u10, u11⟩ := blk12 hSw; go_simp; try with_reducible rfl)
       try simp only [Act.put, putA, putB, putC]
       refine wpAnyN_t 7 ⟨some 34, _, _, _, _, _⟩ ?_ rfl ?_ ?_
       rotate_left 1
       ·(intro w hSw; obtain ⟨u0, u1, u2, u3, u4, u5, u6, u7, u8, u9, u10, u11⟩ := blk12 hSw; go_simp; try with_reducible rfl)
       try simp only [Act.put, putA, putB, putC]
       refine wpAnyN_t 8 ⟨some 35, _, _, _, _, _⟩ ?_ rfl ?_ ?_
       rotate_left 1
       ·(intro w hSw; obtain ⟨u0, u1, u2, u3, u4, u5, u6, u7, u8, u9, u10, u11⟩ := blk12 hSw; go_simp; try with_reducible rfl)
       try simp only [Act.put, putA, putB, putC]
       refine wpAnyN_t 9 ⟨some 36, _, _, _, _, _⟩ ?_ rfl ?_ ?_
       rotate_left 1
       ·(intro w hSw; obtain ⟨u0, u1, u2, u3, u4, u5, u6, u7, u8, u9, u10, u11⟩ := blk12 hSw; go_simp; try with_reducible rfl)
       try simp only [Act.put, putA, putB, putC]
       refine wpAnyN_both (i := 1) (j := 2) (o := ⟨some 28, _, _, _, _, _⟩) (p := ⟨some 29, _, _, _, _, _⟩) (by kernel_rfl) rfl rfl (fun K hK => ?_) (fun K hK => ?_)
       ·go_simp
        refine (HWA1.out _ (HB5.out.drew.trans (HB0R.out.mono (by have := HKS.out.lt; show S ≤ w5.heap.size; omega)))).mono ?_; rintro e x0 ⟨rfl, hbx⟩
        have HB_0 := Lib.hid (HB0R.out.trans (hbx.mono HB0R.out.size))
        clear hbx
        refine hK.out _ _ (by exact HS0.out.below HB_0.out hBS) ?_
        clear hK K hHeld
        intro hHeld
        try simp only [Act.put, putA, putB, putC]
        refine wpAnyN_one (i := 2) (o := ⟨some 29, _, _, _, _, _⟩) (by kernel_rfl) rfl (fun K hK => ?_)
        go_simp
        have HO1 := Lib.hid (own_none1 x0 9 _ HB_0.out.size)
        have HB_1 := Lib.hid (HB_0.out.alloc HB_0.out.size (.cells #[] 9))
        refine hK.out _ _ (by exact HS0.out.below HB_1.out hBS) ?_
        clear hK K hHeld
        intro hHeld
        try simp only [Act.put, putA, putB, putC]
        refine wpAnyN_one (i := 6) (o := ⟨some 33, _, _, _, _, _⟩) (by kernel_rfl) rfl (fun K hK => ?_)
        refine step_append_rowG (z := .string ByteArray.empty) (sz := 1) (bytes := 16) info_string rfl (by decide) Tryz.underlying23 rfl _ _ (by rfl) _ w5.drew.heap.size _ 0 [] ai ni ci (s.ints.map Value.string) (by rfl) (by rfl) HO1.out (HIR.out _ (HB5.out.drew.trans (HB_1.out.mono (by have := HKS.out.lt; show S ≤ w5.heap.size; omega)))) str_cells (by omega) (by unfold maxLen; omega) HB_1.out.size ?_
        intro v2 x2 h2 h3 h4
        rw [Nat.zero_add, List.nil_append] at h2
        have HO2 := Lib.hid h2
        have HB_2 := Lib.hid (h4 _ HB_1.out)
        clear h2 h3 h4
        refine hK.out _ _ (by exact HS0.out.below HB_2.out hBS) ?_
        clear hK K hHeld
        intro hHeld
        try simp only [Act.put, putA, putB, putC]
        refine wpAnyN_one (i := 10) (o := ⟨some 37, _, _, _, _, _⟩) (by kernel_rfl) rfl (fun K hK => ?_)
        refine step_append_rowG (z := .string ByteArray.empty) (sz := 1) (bytes := 16) info_string rfl (by decide) Tryz.underlying23 rfl _ _ (by rfl) _ w5.drew.heap.size v2 ni (s.ints.map Value.string) an nn cn (s.nums.map Value.string) (by rfl) (by rfl) HO2.out (HNR.out _ (HB5.out.drew.trans (HB_2.out.mono (by have := HKS.out.lt; show S ≤ w5.heap.size; omega)))) str_cells (by omega) (by unfold maxLen; omega) HB_2.out.size ?_
        intro v3 x3 h2 h3 h4
        obtain ⟨ra, rc, rfl⟩ := own_form h2
        have HO3 := Lib.hid h2
        have HB_3 := Lib.hid (h4 _ HB_2.out)
        clear h2 h3 h4
        refine hK.out _ _ (by exact HS0.out.below HB_3.out hBS) ?_
        clear hK K hHeld
        intro hHeld
        try simp only [Act.put, putA, putB, putC]
        refine wpAnyN_one (i := 11) (o := ⟨some 38, _, _, _, _, _⟩) (by kernel_rfl) rfl (fun K hK => ?_)
        go_simp
        refine (HPL2.out x3 ra (ni + nn) rc (HB5.out.drew.trans (HB_3.out.mono (by have := HKS.out.lt; show S ≤ w5.heap.size; omega))) (RowS.of_g (by unfold measN; rw [List.map_append]; exact own_rowg HO3.out))).mono ?_; rintro e x4 ⟨rfl, hbx⟩
        have HB_4 := Lib.hid (HB_3.out.trans (hbx.mono HB_3.out.size))
        clear hbx
        refine hK.out _ _ (by exact HS0.out.below HB_4.out hBS) ?_
        clear hK K hHeld
        intro hHeld
        try simp only [Act.put, putA, putB, putC]
        refine wpAnyN_t 12 ⟨some 26, _, _, _, _, _⟩ ?_ rfl ?_ ?_
        rotate_left 1
        ·(intro w hSw; obtain ⟨u0, u1, u2, u3, u4, u5, u6, u7, u8, u9, u10, u11⟩ := blk12 hSw; go_simp; try with_reducible rfl)
        try simp only [Act.put, putA, putB, putC]
        refine wpAnyN_free (i := 13) (oi := ⟨some 39, _, _, _, _, _⟩) (v := ?_) rfl (by kernel_rfl) (by kernel_rfl) (by kernel_rfl) (by kernel_rfl) (by kernel_rfl) (fun _ _ _ h => h) (Or.inl ⟨by rfl, ?_⟩) ?_
        rotate_left 1
        ·(intro w hSw; clear hSw; go_simp; try with_reducible rfl)
        try simp only [Act.put, putA, putB, putC]
        refine wpAnyN_free (i := 14) (oi := ⟨some 40, _, _, _, _, _⟩) (v := ?_) rfl (by kernel_rfl) (by kernel_rfl) (by kernel_rfl) (by kernel_rfl) (by kernel_rfl) (fun _ _ _ h => h) (Or.inl ⟨by rfl, ?_⟩) ?_
        rotate_left 1
        ·(intro w hSw; clear hSw; go_simp; try with_reducible rfl)
        try simp only [Act.put, putA, putB, putC]
        clear hHeld
        have HKS9 := Lib.hid (HS0.out.below HB_4.out hBS)
        have HKB9 := Lib.hid ((HKB5.out.drew).below HB_4.out (by have := HKB5.out.lt; show S + 1 < w5.heap.size; omega))
        have HKT9 := Lib.hid ((HKT.out.drew).below HB_4.out (by have := HKT.out.lt; show T < w5.heap.size; omega))
        have HB9 := Lib.hid (HB5.out.drew.trans (HB_4.out.mono (by have := HKS.out.lt; show S ≤ w5.heap.size; omega)))
        have c0 := HKS9.out.c 0
        have c1 := HKS9.out.c 1
        have c2 := HKS9.out.c 2
        have c3 := HKS9.out.c 3
        have c4 := HKS9.out.c 4
        have c5 := HKS9.out.c 5
        have c6 := HKS9.out.c 6
        have c7 := HKS9.out.c 7
        have c8 := HKS9.out.c 8
        have c9 := HKS9.out.c 9
        have c10 := HKS9.out.c 10
        have c11 := HKS9.out.c 11
        have fzc : ∀ o, x4.frozen? ⟨S, o, none⟩ = false := fun o => HKS9.out.frozen o
        have q1 := HKT9.out.c 1
        have qf : ∀ o, x4.frozen? ⟨T, o, none⟩ = false := fun o => HKT9.out.frozen o
        have hST : ¬ T = S := HTS2.out
        have hTS : ¬ S = T := fun h => HTS2.out h.symm
        refine wpAnyN_late (i := 15) (o := ⟨none, _, _, _, _, _⟩) (by kernel_rfl) (by kernel_rfl) rfl (fun K hK => ?_)
        go_simp
        refine hK.out _ _ ?_
        clear hK K
        try simp only [Act.put, putA, putB, putC]
        refine wpAnyN_free (i := 16) (oi := ⟨some 41, _, _, _, _, _⟩) (v := ?_) rfl (by kernel_rfl) (by kernel_rfl) (by kernel_rfl) (by kernel_rfl) (by kernel_rfl) (fun _ _ _ h => h) (Or.inl ⟨by rfl, ?_⟩) ?_
        rotate_left 1
        ·(intro w hSw; clear hSw; go_simp; try with_reducible rfl)
        try simp only [Act.put, putA, putB, putC]
        clear c0 c1 c2 c3 c4 c5 c6 c7 c8 c9 c10 c11 fzc
        have HKSY := Lib.hid (blk_st12 HKS9.out (.slice ad nd cd) (.slice ai ni ci) (.slice an nn cn) (.slice av nv cv) (.slice ta L.length tc) (.int .i64 (i3 : Int)) (.int .u32 g) (.slice af nf cf) (.slice ac nc cc) (.slice ao no co) (.int .i64 lm) (.int .i64 (e3 : Int)))
        have HKBY := Lib.hid (blk_far12 HKB9.out (b := S) (by first | omega | exact HTS2.out) (.slice ad nd cd) (.slice ai ni ci) (.slice an nn cn) (.slice av nv cv) (.slice ta L.length tc) (.int .i64 (i3 : Int)) (.int .u32 g) (.slice af nf cf) (.slice ac nc cc) (.slice ao no co) (.int .i64 lm) (.int .i64 (e3 : Int)))
        have HKTY := Lib.hid (blk_far12 HKT9.out (b := S) (by first | omega | exact HTS2.out) (.slice ad nd cd) (.slice ai ni ci) (.slice an nn cn) (.slice av nv cv) (.slice ta L.length tc) (.int .i64 (i3 : Int)) (.int .u32 g) (.slice af nf cf) (.slice ac nc cc) (.slice ao no co) (.int .i64 lm) (.int .i64 (e3 : Int)))
        have HBY := Lib.hid (below_st12 HB9.out (b := S) (by have := HSW.out; omega) (.slice ad nd cd) (.slice ai ni ci) (.slice an nn cn) (.slice av nv cv) (.slice ta L.length tc) (.int .i64 (i3 : Int)) (.int .u32 g) (.slice af nf cf) (.slice ac nc cc) (.slice ao no co) (.int .i64 lm) (.int .i64 (e3 : Int)))
        generalize ((((((((((((x4.setCell ⟨S, 0, none⟩ (.slice ad nd cd)).setCell ⟨S, 1, none⟩ (.slice ai ni ci)).setCell ⟨S, 2, none⟩ (.slice an nn cn)).setCell ⟨S, 3, none⟩ (.slice av nv cv)).setCell ⟨S, 4, none⟩ (.slice ta L.length tc)).setCell ⟨S, 5, none⟩ (.int .i64 (i3 : Int))).setCell ⟨S, 6, none⟩ (.int .u32 g)).setCell ⟨S, 7, none⟩ (.slice af nf cf)).setCell ⟨S, 8, none⟩ (.slice ac nc cc)).setCell ⟨S, 9, none⟩ (.slice ao no co)).setCell ⟨S, 10, none⟩ (.int .i64 lm)).setCell ⟨S, 11, none⟩ (.int .i64 (e3 : Int))) = y at *
        have r1 := HKTY.out.c 1
        have rf : ∀ o, y.frozen? ⟨T, o, none⟩ = false := fun o => HKTY.out.frozen o
        clear q1 qf
        refine wpAnyN_late (i := 17) (o := ⟨none, _, _, _, _, _⟩) (by kernel_rfl) (by kernel_rfl) rfl (fun K hK => ?_)
        go_simp
        refine hK.out _ _ ?_
        clear hK K
        try simp only [Act.put, putA, putB, putC]
        refine wpAnyN_end (by kernel_rfl) ?_
        have HKZ := Lib.hid (HKSY.out.far (p := ⟨T, 1, none⟩) (by exact fun h => HTS2.out h.symm) (.int .i64 (mm : Int)))
        have HKZB := Lib.hid (HKBY.out.far (p := ⟨T, 1, none⟩) (by have := HTS3.out; show S + 1 ≠ T; omega) (.int .i64 (mm : Int)))
        have HKZT := Lib.hid (HKTY.out.set_ 1 (.int .i64 (mm : Int)))
        have HBZ := Lib.hid (below_set HBY.out (p := ⟨T, 1, none⟩) (by have := HTS3.out; show S ≤ T; omega) (.int .i64 (mm : Int)))
        clear r1 rf
        go_wp2_with fail
        go_meet
        exact ⟨HKZ.out, HKZB.out, HKZT.out, HBZ.out⟩
       ·go_simp
        have HO0 := Lib.hid (own_none1 w5.drew 9 _ HB0R.out.size)
        have HB_0 := Lib.hid (HB0R.out.alloc HB0R.out.size (.cells #[] 9))
        refine hK.out _ _ (by exact HS0.out.below HB_0.out hBS) ?_
        clear hK K hHeld
        intro hHeld
        try simp only [Act.put, putA, putB, putC]
        refine wpAnyN_one (i := 1) (o := ⟨some 28, _, _, _, _, _⟩) (by kernel_rfl) rfl (fun K hK => ?_)
        go_simp
        refine (HWA1.out _ (HB5.out.drew.trans (HB_0.out.mono (by have := HKS.out.lt; show S ≤ w5.heap.size; omega)))).mono ?_; rintro e x1 ⟨rfl, hbx⟩
        have HB_1 := Lib.hid (HB_0.out.trans (hbx.mono HB_0.out.size))
        have HO1 := Lib.hid (own_below HO0.out hbx (Nat.le_refl _))
        clear hbx
        refine hK.out _ _ (by exact HS0.out.below HB_1.out hBS) ?_
        clear hK K hHeld
        intro hHeld
        try simp only [Act.put, putA, putB, putC]
        refine wpAnyN_one (i := 6) (o := ⟨some 33, _, _, _, _, _⟩) (by kernel_rfl) rfl (fun K hK => ?_)
        refine step_append_rowG (z := .string ByteArray.empty) (sz := 1) (bytes := 16) info_string rfl (by decide) Tryz.underlying23 rfl _ _ (by rfl) _ w5.drew.heap.size _ 0 [] ai ni ci (s.ints.map Value.string) (by rfl) (by rfl) HO1.out (HIR.out _ (HB5.out.drew.trans (HB_1.out.mono (by have := HKS.out.lt; show S ≤ w5.heap.size; omega)))) str_cells (by omega) (by unfold maxLen; omega) HB_1.out.size ?_
        intro v2 x2 h2 h3 h4
        rw [Nat.zero_add, List.nil_append] at h2
        have HO2 := Lib.hid h2
        have HB_2 := Lib.hid (h4 _ HB_1.out)
        clear h2 h3 h4
        refine hK.out _ _ (by exact HS0.out.below HB_2.out hBS) ?_
        clear hK K hHeld
        intro hHeld
        try simp only [Act.put, putA, putB, putC]
        refine wpAnyN_one (i := 10) (o := ⟨some 37, _, _, _, _, _⟩) (by kernel_rfl) rfl (fun K hK => ?_)
        refine step_append_rowG (z := .string ByteArray.empty) (sz := 1) (bytes := 16) info_string rfl (by decide) Tryz.underlying23 rfl _ _ (by rfl) _ w5.drew.heap.size v2 ni (s.ints.map Value.string) an nn cn (s.nums.map Value.string) (by rfl) (by rfl) HO2.out (HNR.out _ (HB5.out.drew.trans (HB_2.out.mono (by have := HKS.out.lt; show S ≤ w5.heap.size; omega)))) str_cells (by omega) (by unfold maxLen; omega) HB_2.out.size ?_
        intro v3 x3 h2 h3 h4
        obtain ⟨ra, rc, rfl⟩ := own_form h2
        have HO3 := Lib.hid h2
        have HB_3 := Lib.hid (h4 _ HB_2.out)
        clear h2 h3 h4
        refine hK.out _ _ (by exact HS0.out.below HB_3.out hBS) ?_
        clear hK K hHeld
        intro hHeld
        try simp only [Act.put, putA, putB, putC]
        refine wpAnyN_one (i := 11) (o := ⟨some 38, _, _, _, _, _⟩) (by kernel_rfl) rfl (fun K hK => ?_)
        go_simp
        refine (HPL2.out x3 ra (ni + nn) rc (HB5.out.drew.trans (HB_3.out.mono (by have := HKS.out.lt; show S ≤ w5.heap.size; omega))) (RowS.of_g (by unfold measN; rw [List.map_append]; exact own_rowg HO3.out))).mono ?_; rintro e x4 ⟨rfl, hbx⟩
        have HB_4 := Lib.hid (HB_3.out.trans (hbx.mono HB_3.out.size))
        clear hbx
        refine hK.out _ _ (by exact HS0.out.below HB_4.out hBS) ?_
        clear hK K hHeld
        intro hHeld
        try simp only [Act.put, putA, putB, putC]
        refine wpAnyN_t 12 ⟨some 26, _, _, _, _, _⟩ ?_ rfl ?_ ?_
        rotate_left 1
        ·(intro w hSw; obtain ⟨u0, u1, u2, u3, u4, u5, u6, u7, u8, u9, u10, u11⟩ := blk12 hSw; go_simp; try with_reducible rfl)
        try simp only [Act.put, putA, putB, putC]
        refine wpAnyN_free (i := 13) (oi := ⟨some 39, _, _, _, _, _⟩) (v := ?_) rfl (by kernel_rfl) (by kernel_rfl) (by kernel_rfl) (by kernel_rfl) (by kernel_rfl) (fun _ _ _ h => h) (Or.inl ⟨by rfl, ?_⟩) ?_
        rotate_left 1
        ·(intro w hSw; clear hSw; go_simp; try with_reducible rfl)
        try simp only [Act.put, putA, putB, putC]
        refine wpAnyN_free (i := 14) (oi := ⟨some 40, _, _, _, _, _⟩) (v := ?_) rfl (by kernel_rfl) (by kernel_rfl) (by kernel_rfl) (by kernel_rfl) (by kernel_rfl) (fun _ _ _ h => h) (Or.inl ⟨by rfl, ?_⟩) ?_
        rotate_left 1
        ·(intro w hSw; clear hSw; go_simp; try with_reducible rfl)
        try simp only [Act.put, putA, putB, putC]
        clear hHeld
        have HKS9 := Lib.hid (HS0.out.below HB_4.out hBS)
        have HKB9 := Lib.hid ((HKB5.out.drew).below HB_4.out (by have := HKB5.out.lt; show S + 1 < w5.heap.size; omega))
        have HKT9 := Lib.hid ((HKT.out.drew).below HB_4.out (by have := HKT.out.lt; show T < w5.heap.size; omega))
        have HB9 := Lib.hid (HB5.out.drew.trans (HB_4.out.mono (by have := HKS.out.lt; show S ≤ w5.heap.size; omega)))
        have c0 := HKS9.out.c 0
        have c1 := HKS9.out.c 1
        have c2 := HKS9.out.c 2
        have c3 := HKS9.out.c 3
        have c4 := HKS9.out.c 4
        have c5 := HKS9.out.c 5
        have c6 := HKS9.out.c 6
        have c7 := HKS9.out.c 7
        have c8 := HKS9.out.c 8
        have c9 := HKS9.out.c 9
        have c10 := HKS9.out.c 10
        have c11 := HKS9.out.c 11
        have fzc : ∀ o, x4.frozen? ⟨S, o, none⟩ = false := fun o => HKS9.out.frozen o
        have q1 := HKT9.out.c 1
        have qf : ∀ o, x4.frozen? ⟨T, o, none⟩ = false := fun o => HKT9.out.frozen o
        have hST : ¬ T = S := HTS2.out
        have hTS : ¬ S = T := fun h => HTS2.out h.symm
        refine wpAnyN_late (i := 15) (o := ⟨none, _, _, _, _, _⟩) (by kernel_rfl) (by kernel_rfl) rfl (fun K hK => ?_)
        go_simp
        refine hK.out _ _ ?_
        clear hK K
        try simp only [Act.put, putA, putB, putC]
        refine wpAnyN_free (i := 16) (oi := ⟨some 41, _, _, _, _, _⟩) (v := ?_) rfl (by kernel_rfl) (by kernel_rfl) (by kernel_rfl) (by kernel_rfl) (by kernel_rfl) (fun _ _ _ h => h) (Or.inl ⟨by rfl, ?_⟩) ?_
        rotate_left 1
        ·(intro w hSw; clear hSw; go_simp; try with_reducible rfl)
        try simp only [Act.put, putA, putB, putC]
        clear c0 c1 c2 c3 c4 c5 c6 c7 c8 c9 c10 c11 fzc
        have HKSY := Lib.hid (blk_st12 HKS9.out (.slice ad nd cd) (.slice ai ni ci) (.slice an nn cn) (.slice av nv cv) (.slice ta L.length tc) (.int .i64 (i3 : Int)) (.int .u32 g) (.slice af nf cf) (.slice ac nc cc) (.slice ao no co) (.int .i64 lm) (.int .i64 (e3 : Int)))
        have HKBY := Lib.hid (blk_far12 HKB9.out (b := S) (by first | omega | exact HTS2.out) (.slice ad nd cd) (.slice ai ni ci) (.slice an nn cn) (.slice av nv cv) (.slice ta L.length tc) (.int .i64 (i3 : Int)) (.int .u32 g) (.slice af nf cf) (.slice ac nc cc) (.slice ao no co) (.int .i64 lm) (.int .i64 (e3 : Int)))
        have HKTY := Lib.hid (blk_far12 HKT9.out (b := S) (by first | omega | exact HTS2.out) (.slice ad nd cd) (.slice ai ni ci) (.slice an nn cn) (.slice av nv cv) (.slice ta L.length tc) (.int .i64 (i3 : Int)) (.int .u32 g) (.slice af nf cf) (.slice ac nc cc) (.slice ao no co) (.int .i64 lm) (.int .i64 (e3 : Int)))
        have HBY := Lib.hid (below_st12 HB9.out (b := S) (by have := HSW.out; omega) (.slice ad nd cd) (.slice ai ni ci) (.slice an nn cn) (.slice av nv cv) (.slice ta L.length tc) (.int .i64 (i3 : Int)) (.int .u32 g) (.slice af nf cf) (.slice ac nc cc) (.slice ao no co) (.int .i64 lm) (.int .i64 (e3 : Int)))
        generalize ((((((((((((x4.setCell ⟨S, 0, none⟩ (.slice ad nd cd)).setCell ⟨S, 1, none⟩ (.slice ai ni ci)).setCell ⟨S, 2, none⟩ (.slice an nn cn)).setCell ⟨S, 3, none⟩ (.slice av nv cv)).setCell ⟨S, 4, none⟩ (.slice ta L.length tc)).setCell ⟨S, 5, none⟩ (.int .i64 (i3 : Int))).setCell ⟨S, 6, none⟩ (.int .u32 g)).setCell ⟨S, 7, none⟩ (.slice af nf cf)).setCell ⟨S, 8, none⟩ (.slice ac nc cc)).setCell ⟨S, 9, none⟩ (.slice ao no co)).setCell ⟨S, 10, none⟩ (.int .i64 lm)).setCell ⟨S, 11, none⟩ (.int .i64 (e3 : Int))) = y at *
        have r1 := HKTY.out.c 1
        have rf : ∀ o, y.frozen? ⟨T, o, none⟩ = false := fun o => HKTY.out.frozen o
        clear q1 qf
        refine wpAnyN_late (i := 17) (o := ⟨none, _, _, _, _, _⟩) (by kernel_rfl) (by kernel_rfl) rfl (fun K hK => ?_)
        go_simp
        refine hK.out _ _ ?_
        clear hK K
        try simp only [Act.put, putA, putB, putC]
        refine wpAnyN_end (by kernel_rfl) ?_
        have HKZ := Lib.hid (HKSY.out.far (p := ⟨T, 1, none⟩) (by exact fun h => HTS2.out h.symm) (.int .i64 (mm : Int)))
        have HKZB := Lib.hid (HKBY.out.far (p := ⟨T, 1, none⟩) (by have := HTS3.out; show S + 1 ≠ T; omega) (.int .i64 (mm : Int)))
        have HKZT := Lib.hid (HKTY.out.set_ 1 (.int .i64 (mm : Int)))
        have HBZ := Lib.hid (below_set HBY.out (p := ⟨T, 1, none⟩) (by have := HTS3.out; show S ≤ T; omega) (.int .i64 (mm : Int)))
        clear r1 rf
        go_wp2_with fail
        go_meet
        exact ⟨HKZ.out, HKZB.out, HKZT.out, HBZ.out⟩
      case rest =>
       obtain ⟨hka, hkb, hkt, hb⟩ := hcut
       obtain ⟨w6, rfl⟩ : ∃ x, x = wc := ⟨_, rfl⟩
       have HKS6 := Lib.hid hka
       have HKB6 := Lib.hid hkb
       have HKT6 := Lib.hid hkt
       have HB6 := Lib.hid hb
       clear hka hkb hkt hb
       have d0 := HKS6.out.c 0
       have d1 := HKS6.out.c 1
       have d2 := HKS6.out.c 2
       have d3 := HKS6.out.c 3
       have d4 := HKS6.out.c 4
       have d5 := HKS6.out.c 5
       have d6 := HKS6.out.c 6
       have d7 := HKS6.out.c 7
       have d8 := HKS6.out.c 8
       have d9 := HKS6.out.c 9
       have d10 := HKS6.out.c 10
       have d11 := HKS6.out.c 11
       have fzd : ∀ o, w6.frozen? ⟨S, o, none⟩ = false := fun o => HKS6.out.frozen o
       go_wp2_with fail
       refine (HWB3.out _ HB6.out).mono ?_; rintro e w7 ⟨rfl, hb7⟩
       have HB7 := Lib.hid (HB6.out.trans (hb7.mono (by have := HKS6.out.lt; omega)))
       have HKS7 := Lib.hid (HKS6.out.below hb7 HKS6.out.lt)
       have HKB7 := Lib.hid (HKB6.out.below hb7 HKB6.out.lt)
       have HKT7 := Lib.hid (HKT6.out.below hb7 HKT6.out.lt)
       clear hb7
       clear d0 d1 d2 d3 d4 d5 d6 d7 d8 d9 d10 d11 fzd
       have d0 := HKS7.out.c 0
       have d1 := HKS7.out.c 1
       have d2 := HKS7.out.c 2
       have d3 := HKS7.out.c 3
       have d4 := HKS7.out.c 4
       have d5 := HKS7.out.c 5
       have d6 := HKS7.out.c 6
       have d7 := HKS7.out.c 7
       have d8 := HKS7.out.c 8
       have d9 := HKS7.out.c 9
       have d10 := HKS7.out.c 10
       have d11 := HKS7.out.c 11
       have fzd : ∀ o, w7.frozen? ⟨S, o, none⟩ = false := fun o => HKS7.out.frozen o
       go_wp2_with fail
       clear d0 d1 d2 d3 d4 d5 d6 d7 d8 d9 d10 d11 fzd
       have HKS8 := Lib.hid (blk_st12 HKS7.out (.slice ad nd cd) (.slice ai ni ci) (.slice an nn cn) (.slice av nv cv) (.slice ta L.length tc) (.int .i64 (i4 : Int)) (.int .u32 g) (.slice af nf cf) (.slice ac nc cc) (.slice ao no co) (.int .i64 lm) (.int .i64 (e4 : Int)))
       have HKB8 := Lib.hid (blk_far12 HKB7.out (b := S) (by first | omega | exact HTS2.out) (.slice ad nd cd) (.slice ai ni ci) (.slice an nn cn) (.slice av nv cv) (.slice ta L.length tc) (.int .i64 (i4 : Int)) (.int .u32 g) (.slice af nf cf) (.slice ac nc cc) (.slice ao no co) (.int .i64 lm) (.int .i64 (e4 : Int)))
       have HKT8 := Lib.hid (blk_far12 HKT7.out (b := S) (by first | omega | exact HTS2.out) (.slice ad nd cd) (.slice ai ni ci) (.slice an nn cn) (.slice av nv cv) (.slice ta L.length tc) (.int .i64 (i4 : Int)) (.int .u32 g) (.slice af nf cf) (.slice ac nc cc) (.slice ao no co) (.int .i64 lm) (.int .i64 (e4 : Int)))
       have HB8 := Lib.hid (below_st12 HB7.out (b := S) (by have := HSW.out; omega) (.slice ad nd cd) (.slice ai ni ci) (.slice an nn cn) (.slice av nv cv) (.slice ta L.length tc) (.int .i64 (i4 : Int)) (.int .u32 g) (.slice af nf cf) (.slice ac nc cc) (.slice ao no co) (.int .i64 lm) (.int .i64 (e4 : Int)))
       generalize ((((((((((((w7.setCell ⟨S, 0, none⟩ (.slice ad nd cd)).setCell ⟨S, 1, none⟩ (.slice ai ni ci)).setCell ⟨S, 2, none⟩ (.slice an nn cn)).setCell ⟨S, 3, none⟩ (.slice av nv cv)).setCell ⟨S, 4, none⟩ (.slice ta L.length tc)).setCell ⟨S, 5, none⟩ (.int .i64 (i4 : Int))).setCell ⟨S, 6, none⟩ (.int .u32 g)).setCell ⟨S, 7, none⟩ (.slice af nf cf)).setCell ⟨S, 8, none⟩ (.slice ac nc cc)).setCell ⟨S, 9, none⟩ (.slice ao no co)).setCell ⟨S, 10, none⟩ (.int .i64 lm)).setCell ⟨S, 11, none⟩ (.int .i64 (e4 : Int))) = w8 at *
       go_meet
       refine ⟨i4, e4, mm, HCX.out, HW3.out.1, fun he => ?_, ?_, HKS8.out, HKB8.out, HKT8.out, HB8.out⟩
       ·obtain ⟨k1, k2⟩ := HW3.out.2.2 he
        obtain ⟨k3, k4, -⟩ := HN2.out.2.2.1 k1
        obtain ⟨k5, k6⟩ := HW1.out.2.2 k3
        (try dsimp only at *)
        omega
       ·have h1 := HN2.out.2.2.2
        have h2 := HML.out
        (try dsimp only at h1 h2)
        omega
    case rest =>
     obtain ⟨i3, e3, mm, hr, hi3, he3, hmm, hka, hkb, hkt, hb⟩ := hcut
     obtain ⟨w5, rfl⟩ : ∃ x, x = wc := ⟨_, rfl⟩
     have HRR := Lib.hid hr
     have HI3 := Lib.hid hi3
     have HE3 := Lib.hid he3
     have HMM := Lib.hid hmm
     have HKS := Lib.hid hka
     have HKB5 := Lib.hid hkb
     have HKT := Lib.hid hkt
     have HB5 := Lib.hid hb
     have HNC : Hid (cq.length = nc) := Lib.hid HST.out.q.2.2.1
     have hnc : nc ≤ 1001 := by have h1 := (HST.out.len HER.out).1; have h2 := HST.out.at'; have h3 := HNC.out; dsimp only at *; omega
     have HOLD : Hid (∀ w', Below w5.heap.size w5 w' → RowG 2 w' ac nc cc (colCells cq)) := Lib.hid (fun w' hbb => HST.out.q.2.1.below (HB5.out.trans (hbb.mono (by have := HKS.out.lt; omega))) (Nat.le_of_eq HSW.out))
     have HONE := Lib.hid (colCells_one cq)
     clear hr hi3 he3 hmm hka hkb hkt hb
     go_upto_region 11 with fail
     go_cut [] (fun wx => ∃ ra rc, Blk wx S 122 #[.slice ad nd cd, .slice ai ni ci, .slice an nn cn, .slice av nv cv, .slice ta L.length tc, .int .i64 (i3 : Int), .int .u32 g, .slice af nf cf, .slice ra (nc + 1) rc, .slice ao no co, .int .i64 lm, .int .i64 (e3 : Int)] ∧ Blk wx (S + 1) 122 #[.slice none 0 0, .slice none 0 0, .slice none 0 0, .slice none 0 0, .slice none 0 0, .int .i64 0, .int .u32 0, .slice none 0 0, .slice none 0 0, .slice none 0 0, .int .i64 0, .int .i64 0] ∧ wx.ownsRow (S + 2) 56 2 (.slice ra (nc + 1) rc) (nc + 1) (colCells cq ++ [.int .i64 (k : Int), .int .i64 (mm : Int)]) ∧ Below S w wx)
     case first =>
      have HS0 := Lib.hid (HKS.out).drew
      have HE0 := Lib.hid (HKT.out).drew
      have HOR0 : Hid (∀ w', Below w5.drew.heap.size w5.drew w' → RowG 2 w' ac nc cc (colCells cq)) := Lib.hid (fun w' hb => HOLD.out w' (((Below.refl _ _).drew).trans hb))
      have hBS : S < w5.drew.heap.size := HS0.out.lt
      have hBE : T < w5.drew.heap.size := HE0.out.lt
      refine wp_regionN (fun w' => Blk w' S 122 #[.slice ad nd cd, .slice ai ni ci, .slice an nn cn, .slice av nv cv, .slice ta L.length tc, .int .i64 (i3 : Int), .int .u32 g, .slice af nf cf, .slice ac nc cc, .slice ao no co, .int .i64 lm, .int .i64 (e3 : Int)] ∧ Blk w' T 56 #[.int .i64 (k : Int), .int .i64 (mm : Int)]) [10] (by kernel_rfl) (by exact ⟨HS0.out, HE0.out⟩) (fun hHeld => ?_)
      refine wpAnyN_t 1 ⟨some 45, _, _, _, _, _⟩ ?_ rfl ?_ ?_
      rotate_left 1
      ·(intro w hSw; obtain ⟨u0, u1, u2, u3, u4, u5, u6, u7, u8, u9, u10, u11⟩ := blk12 hSw.1; have v0 : w.cell? ⟨T, 0, none⟩ = some (.int .i64 (k : Int)) := hSw.2.cell 0; have v1 : w.cell? ⟨T, 1, none⟩ = some (.int .i64 (mm : Int)) := hSw.2.cell 1; go_simp; try with_reducible rfl)
      try simp only [Act.put, putA, putB, putC]
      refine wpAnyN_t 2 ⟨some 46, _, _, _, _, _⟩ ?_ rfl ?_ ?_
      rotate_left 1
      ·(intro w hSw; obtain ⟨u0, u1, u2, u3, u4, u5, u6, u7, u8, u9, u10, u11⟩ := blk12 hSw.1; have v0 : w.cell? ⟨T, 0, none⟩ = some (.int .i64 (k : Int)) := hSw.2.cell 0; have v1 : w.cell? ⟨T, 1, none⟩ = some (.int .i64 (mm : Int)) := hSw.2.cell 1; go_simp; try with_reducible rfl)
      try simp only [Act.put, putA, putB, putC]
      refine wpAnyN_t 3 ⟨some 47, _, _, _, _, _⟩ ?_ rfl ?_ ?_
      rotate_left 1
      ·(intro w hSw; obtain ⟨u0, u1, u2, u3, u4, u5, u6, u7, u8, u9, u10, u11⟩ := blk12 hSw.1; have v0 : w.cell? ⟨T, 0, none⟩ = some (.int .i64 (k : Int)) := hSw.2.cell 0; have v1 : w.cell? ⟨T, 1, none⟩ = some (.int .i64 (mm : Int)) := hSw.2.cell 1; go_simp; try with_reducible rfl)
      try simp only [Act.put, putA, putB, putC]
      refine wpAnyN_t 5 ⟨some 49, _, _, _, _, _⟩ ?_ rfl ?_ ?_
      rotate_left 1
      ·(intro w hSw; obtain ⟨u0, u1, u2, u3, u4, u5, u6, u7, u8, u9, u10, u11⟩ := blk12 hSw.1; have v0 : w.cell? ⟨T, 0, none⟩ = some (.int .i64 (k : Int)) := hSw.2.cell 0; have v1 : w.cell? ⟨T, 1, none⟩ = some (.int .i64 (mm : Int)) := hSw.2.cell 1; go_simp; try with_reducible rfl)
      try simp only [Act.put, putA, putB, putC]
      have HB0R := Lib.hid (Below.refl w5.drew.heap.size w5.drew)
      refine wpAnyN_both (i := 0) (j := 6) (o := ⟨some 44, _, _, _, _, _⟩) (p := ⟨some 50, _, _, _, _, _⟩) (by kernel_rfl) rfl rfl (fun K hK => ?_) (fun K hK => ?_)
      ·go_simp
       have HO0 : Hid ((w5.drew.alloc (.cells #[] 56)).ownsRow w5.drew.heap.size 56 2 (.slice (some ⟨w5.heap.size, 0, none⟩) 0 0) 0 []) := Lib.hid (by have h := own_none w5.drew 56 _ HB0R.out.size; exact h)
       have HB_0 := Lib.hid (HB0R.out.alloc HB0R.out.size (.cells #[] 56))
       refine hK.out _ _ (by exact ⟨HS0.out.below HB_0.out hBS, HE0.out.below HB_0.out hBE⟩) ?_
       clear hK K hHeld
       intro hHeld
       try simp only [Act.put, putA, putB, putC]
       refine wpAnyN_both (i := 4) (j := 6) (o := ⟨some 48, _, _, _, _, _⟩) (p := ⟨some 50, _, _, _, _, _⟩) (by kernel_rfl) rfl rfl (fun K hK => ?_) (fun K hK => ?_)
       ·refine step_append_rowG (z := .agg #[.int .i64 0, .int .i64 0]) (sz := 2) (bytes := 16) info_col rfl (by decide) Tryz.underlying29 rfl _ _ (by rfl) _ w5.drew.heap.size _ 0 [] ac nc cc (colCells cq) (by rfl) (by rfl) HO0.out (HOR0.out _ HB_0.out) HONE.out (by omega) (by unfold maxLen; omega) HB_0.out.size ?_
        intro v1 x1 h2 h3 h4
        rw [Nat.zero_add, List.nil_append] at h2
        have HO1 := Lib.hid h2
        have HB_1 := Lib.hid (h4 _ HB_0.out)
        clear h2 h3 h4
        refine hK.out _ _ (by exact ⟨HS0.out.below HB_1.out hBS, HE0.out.below HB_1.out hBE⟩) ?_
        clear hK K hHeld
        intro hHeld
        try simp only [Act.put, putA, putB, putC]
        refine wpAnyN_one (i := 6) (o := ⟨some 50, _, _, _, _, _⟩) (by kernel_rfl) rfl (fun K hK => ?_)
        go_simp
        have HL2 : Hid (RowG 2 (x1.alloc (.cells #[.int .i64 (k : Int), .int .i64 (mm : Int)] 56)) (some ⟨x1.heap.size, 0, none⟩) 1 1 [.int .i64 (k : Int), .int .i64 (mm : Int)]) := Lib.hid (by have h := row_elem x1 56 (.int .i64 (k : Int)) (.int .i64 (mm : Int)); exact h)
        have HB_2 := Lib.hid (HB_1.out.alloc HB_1.out.size (.cells #[.int .i64 (k : Int), .int .i64 (mm : Int)] 56))
        have HO2 := Lib.hid (World.ownsRow.alloc HO1.out (.cells #[.int .i64 (k : Int), .int .i64 (mm : Int)] 56))
        refine hK.out _ _ (by exact ⟨HS0.out.below HB_2.out hBS, HE0.out.below HB_2.out hBE⟩) ?_
        clear hK K hHeld
        intro hHeld
        try simp only [Act.put, putA, putB, putC]
        refine wpAnyN_one (i := 7) (o := ⟨some 51, _, _, _, _, _⟩) (by kernel_rfl) rfl (fun K hK => ?_)
        refine step_append_rowG (z := .agg #[.int .i64 0, .int .i64 0]) (sz := 2) (bytes := 16) info_col rfl (by decide) Tryz.underlying29 rfl _ _ (by rfl) _ w5.drew.heap.size _ nc (colCells cq) (some ⟨x1.heap.size, 0, none⟩) 1 1 [.int .i64 (k : Int), .int .i64 (mm : Int)] (by rfl) (by rfl) HO2.out HL2.out (by intro u hu; simp at hu; rcases hu with rfl | rfl <;> rfl) (by omega) (by unfold maxLen; omega) HB_2.out.size ?_
        intro v3 x3 h2 h3 h4
        obtain ⟨ra, rc, rfl⟩ := own_form h2
        have HRF := Lib.hid h2
        have HB_3 := Lib.hid (h4 _ HB_2.out)
        clear h2 h3 h4
        refine hK.out _ _ (by exact ⟨HS0.out.below HB_3.out hBS, HE0.out.below HB_3.out hBE⟩) ?_
        clear hK K hHeld
        intro hHeld
        try simp only [Act.put, putA, putB, putC]
        refine wpAnyN_t 8 ⟨some 52, _, _, _, _, _⟩ ?_ rfl ?_ ?_
        rotate_left 1
        ·(intro w hSw; obtain ⟨u0, u1, u2, u3, u4, u5, u6, u7, u8, u9, u10, u11⟩ := blk12 hSw.1; have v0 : w.cell? ⟨T, 0, none⟩ = some (.int .i64 (k : Int)) := hSw.2.cell 0; have v1 : w.cell? ⟨T, 1, none⟩ = some (.int .i64 (mm : Int)) := hSw.2.cell 1; go_simp; try with_reducible rfl)
        try simp only [Act.put, putA, putB, putC]
        refine wpAnyN_t 9 ⟨some 53, _, _, _, _, _⟩ ?_ rfl ?_ ?_
        rotate_left 1
        ·(intro w hSw; obtain ⟨u0, u1, u2, u3, u4, u5, u6, u7, u8, u9, u10, u11⟩ := blk12 hSw.1; have v0 : w.cell? ⟨T, 0, none⟩ = some (.int .i64 (k : Int)) := hSw.2.cell 0; have v1 : w.cell? ⟨T, 1, none⟩ = some (.int .i64 (mm : Int)) := hSw.2.cell 1; go_simp; try with_reducible rfl)
        try simp only [Act.put, putA, putB, putC]
        refine wpAnyN_late (i := 10) (o := ⟨none, _, _, _, _, _⟩) (by kernel_rfl) (by kernel_rfl) rfl (fun K hK => ?_)
        obtain ⟨u0, u1, u2, u3, u4, u5, u6, u7, u8, u9, u10, u11⟩ := blk12 hHeld.1
        have uf : ∀ o, x3.frozen? ⟨S, o, none⟩ = false := fun o => hHeld.1.frozen o
        go_simp
        refine hK.out _ _ ?_
        clear hK K u0 u1 u2 u3 u4 u5 u6 u7 u8 u9 u10 u11 uf
        try simp only [Act.put, putA, putB, putC]
        refine wpAnyN_end (by kernel_rfl) ?_
        have HSF := Lib.hid (hHeld.1.set_ 8 (.slice ra (nc + 1) rc))
        have HBE0 := Lib.hid (((Below.refl _ _).drew).trans HB_3.out)
        clear hHeld
        have HSB := Lib.hid ((HKB5.out.below HBE0.out HKB5.out.lt).far (p := ⟨S, 8, none⟩) (by show S + 1 ≠ S; omega) (.slice ra (nc + 1) rc))
        have HBZ := Lib.hid (below_set (HB5.out.trans (HBE0.out.mono (show S ≤ w5.drew.heap.size by have := HKS.out.lt; show S ≤ w5.heap.size; omega))) (p := ⟨S, 8, none⟩) (Nat.le_refl S) (.slice ra (nc + 1) rc))
        go_wp2_with fail
        go_meet
        exact ⟨ra, rc, HSF.out, HSB.out, own_base (own_set HRF.out hBS 8 _) (by have := HKB5.out.lt; show S + 2 ≤ w5.heap.size; omega), HBZ.out⟩
       ·go_simp
        have HL1 : Hid (RowG 2 ((w5.drew.alloc (.cells #[] 56)).alloc (.cells #[.int .i64 (k : Int), .int .i64 (mm : Int)] 56)) (some ⟨w5.heap.size + 1, 0, none⟩) 1 1 [.int .i64 (k : Int), .int .i64 (mm : Int)]) := Lib.hid (by have h := row_elem (w5.drew.alloc (.cells #[] 56)) 56 (.int .i64 (k : Int)) (.int .i64 (mm : Int)); rw [World.size_alloc] at h; exact h)
        have HB_1 := Lib.hid (HB_0.out.alloc HB_0.out.size (.cells #[.int .i64 (k : Int), .int .i64 (mm : Int)] 56))
        have HO1 := Lib.hid (World.ownsRow.alloc HO0.out (.cells #[.int .i64 (k : Int), .int .i64 (mm : Int)] 56))
        have HNE : Hid (w5.heap.size + 1 ≠ w5.heap.size) := Lib.hid (by simp)
        refine hK.out _ _ (by exact ⟨HS0.out.below HB_1.out hBS, HE0.out.below HB_1.out hBE⟩) ?_
        clear hK K hHeld
        intro hHeld
        try simp only [Act.put, putA, putB, putC]
        refine wpAnyN_one (i := 4) (o := ⟨some 48, _, _, _, _, _⟩) (by kernel_rfl) rfl (fun K hK => ?_)
        refine step_append_rowG (z := .agg #[.int .i64 0, .int .i64 0]) (sz := 2) (bytes := 16) info_col rfl (by decide) Tryz.underlying29 rfl _ _ (by rfl) _ w5.drew.heap.size _ 0 [] ac nc cc (colCells cq) (by rfl) (by rfl) HO1.out (HOR0.out _ HB_1.out) HONE.out (by omega) (by unfold maxLen; omega) HB_1.out.size ?_
        intro v2 x2 h2 h3 h4
        rw [Nat.zero_add, List.nil_append] at h2
        have HO2 := Lib.hid h2
        have HB_2 := Lib.hid (h4 _ HB_1.out)
        have HL2 := Lib.hid (HL1.out.grown h3 (.inr (fun x hx => by cases hx; intro hy; simp [Value.ownBlock] at hy)))
        clear h2 h3 h4
        refine hK.out _ _ (by exact ⟨HS0.out.below HB_2.out hBS, HE0.out.below HB_2.out hBE⟩) ?_
        clear hK K hHeld
        intro hHeld
        try simp only [Act.put, putA, putB, putC]
        refine wpAnyN_one (i := 7) (o := ⟨some 51, _, _, _, _, _⟩) (by kernel_rfl) rfl (fun K hK => ?_)
        refine step_append_rowG (z := .agg #[.int .i64 0, .int .i64 0]) (sz := 2) (bytes := 16) info_col rfl (by decide) Tryz.underlying29 rfl _ _ (by rfl) _ w5.drew.heap.size _ nc (colCells cq) (some ⟨w5.heap.size + 1, 0, none⟩) 1 1 [.int .i64 (k : Int), .int .i64 (mm : Int)] (by rfl) (by rfl) HO2.out HL2.out (by intro u hu; simp at hu; rcases hu with rfl | rfl <;> rfl) (by omega) (by unfold maxLen; omega) HB_2.out.size ?_
        intro v3 x3 h2 h3 h4
        obtain ⟨ra, rc, rfl⟩ := own_form h2
        have HRF := Lib.hid h2
        have HB_3 := Lib.hid (h4 _ HB_2.out)
        clear h2 h3 h4
        refine hK.out _ _ (by exact ⟨HS0.out.below HB_3.out hBS, HE0.out.below HB_3.out hBE⟩) ?_
        clear hK K hHeld
        intro hHeld
        try simp only [Act.put, putA, putB, putC]
        refine wpAnyN_t 8 ⟨some 52, _, _, _, _, _⟩ ?_ rfl ?_ ?_
        rotate_left 1
        ·(intro w hSw; obtain ⟨u0, u1, u2, u3, u4, u5, u6, u7, u8, u9, u10, u11⟩ := blk12 hSw.1; have v0 : w.cell? ⟨T, 0, none⟩ = some (.int .i64 (k : Int)) := hSw.2.cell 0; have v1 : w.cell? ⟨T, 1, none⟩ = some (.int .i64 (mm : Int)) := hSw.2.cell 1; go_simp; try with_reducible rfl)
        try simp only [Act.put, putA, putB, putC]
        refine wpAnyN_t 9 ⟨some 53, _, _, _, _, _⟩ ?_ rfl ?_ ?_
        rotate_left 1
        ·(intro w hSw; obtain ⟨u0, u1, u2, u3, u4, u5, u6, u7, u8, u9, u10, u11⟩ := blk12 hSw.1; have v0 : w.cell? ⟨T, 0, none⟩ = some (.int .i64 (k : Int)) := hSw.2.cell 0; have v1 : w.cell? ⟨T, 1, none⟩ = some (.int .i64 (mm : Int)) := hSw.2.cell 1; go_simp; try with_reducible rfl)
        try simp only [Act.put, putA, putB, putC]
        refine wpAnyN_late (i := 10) (o := ⟨none, _, _, _, _, _⟩) (by kernel_rfl) (by kernel_rfl) rfl (fun K hK => ?_)
        obtain ⟨u0, u1, u2, u3, u4, u5, u6, u7, u8, u9, u10, u11⟩ := blk12 hHeld.1
        have uf : ∀ o, x3.frozen? ⟨S, o, none⟩ = false := fun o => hHeld.1.frozen o
        go_simp
        refine hK.out _ _ ?_
        clear hK K u0 u1 u2 u3 u4 u5 u6 u7 u8 u9 u10 u11 uf
        try simp only [Act.put, putA, putB, putC]
        refine wpAnyN_end (by kernel_rfl) ?_
        have HSF := Lib.hid (hHeld.1.set_ 8 (.slice ra (nc + 1) rc))
        have HBE0 := Lib.hid (((Below.refl _ _).drew).trans HB_3.out)
        clear hHeld
        have HSB := Lib.hid ((HKB5.out.below HBE0.out HKB5.out.lt).far (p := ⟨S, 8, none⟩) (by show S + 1 ≠ S; omega) (.slice ra (nc + 1) rc))
        have HBZ := Lib.hid (below_set (HB5.out.trans (HBE0.out.mono (show S ≤ w5.drew.heap.size by have := HKS.out.lt; show S ≤ w5.heap.size; omega))) (p := ⟨S, 8, none⟩) (Nat.le_refl S) (.slice ra (nc + 1) rc))
        go_wp2_with fail
        go_meet
        exact ⟨ra, rc, HSF.out, HSB.out, own_base (own_set HRF.out hBS 8 _) (by have := HKB5.out.lt; show S + 2 ≤ w5.heap.size; omega), HBZ.out⟩
      ·go_simp
       have HL0 : Hid (RowG 2 (w5.drew.alloc (.cells #[.int .i64 (k : Int), .int .i64 (mm : Int)] 56)) (some ⟨w5.heap.size, 0, none⟩) 1 1 [.int .i64 (k : Int), .int .i64 (mm : Int)]) := Lib.hid (by have h := row_elem w5.drew 56 (.int .i64 (k : Int)) (.int .i64 (mm : Int)); exact h)
       have HB_0 := Lib.hid (HB0R.out.alloc HB0R.out.size (.cells #[.int .i64 (k : Int), .int .i64 (mm : Int)] 56))
       refine hK.out _ _ (by exact ⟨HS0.out.below HB_0.out hBS, HE0.out.below HB_0.out hBE⟩) ?_
       clear hK K hHeld
       intro hHeld
       try simp only [Act.put, putA, putB, putC]
       refine wpAnyN_one (i := 0) (o := ⟨some 44, _, _, _, _, _⟩) (by kernel_rfl) rfl (fun K hK => ?_)
       go_simp
       have HO1 : Hid (((w5.drew.alloc (.cells #[.int .i64 (k : Int), .int .i64 (mm : Int)] 56)).alloc (.cells #[] 56)).ownsRow w5.drew.heap.size 56 2 (.slice (some ⟨w5.heap.size + 1, 0, none⟩) 0 0) 0 []) := Lib.hid (by have h := own_none (w5.drew.alloc (.cells #[.int .i64 (k : Int), .int .i64 (mm : Int)] 56)) 56 _ HB_0.out.size; rw [World.size_alloc] at h; exact h)
       have HB_1 := Lib.hid (HB_0.out.alloc HB_0.out.size (.cells #[] 56))
       have HL1 := Lib.hid (HL0.out.below ((Below.refl _ _).alloc (Nat.le_refl _) (.cells #[] 56)) (Nat.le_refl _))
       have HNE : Hid (w5.heap.size ≠ w5.heap.size + 1) := Lib.hid (by simp)
       refine hK.out _ _ (by exact ⟨HS0.out.below HB_1.out hBS, HE0.out.below HB_1.out hBE⟩) ?_
       clear hK K hHeld
       intro hHeld
       try simp only [Act.put, putA, putB, putC]
       refine wpAnyN_one (i := 4) (o := ⟨some 48, _, _, _, _, _⟩) (by kernel_rfl) rfl (fun K hK => ?_)
       refine step_append_rowG (z := .agg #[.int .i64 0, .int .i64 0]) (sz := 2) (bytes := 16) info_col rfl (by decide) Tryz.underlying29 rfl _ _ (by rfl) _ w5.drew.heap.size _ 0 [] ac nc cc (colCells cq) (by rfl) (by rfl) HO1.out (HOR0.out _ HB_1.out) HONE.out (by omega) (by unfold maxLen; omega) HB_1.out.size ?_
       intro v2 x2 h2 h3 h4
       rw [Nat.zero_add, List.nil_append] at h2
       have HO2 := Lib.hid h2
       have HB_2 := Lib.hid (h4 _ HB_1.out)
       have HL2 := Lib.hid (HL1.out.grown h3 (.inr (fun x hx => by cases hx; intro hy; simp [Value.ownBlock] at hy)))
       clear h2 h3 h4
       refine hK.out _ _ (by exact ⟨HS0.out.below HB_2.out hBS, HE0.out.below HB_2.out hBE⟩) ?_
       clear hK K hHeld
       intro hHeld
       try simp only [Act.put, putA, putB, putC]
       refine wpAnyN_one (i := 7) (o := ⟨some 51, _, _, _, _, _⟩) (by kernel_rfl) rfl (fun K hK => ?_)
       refine step_append_rowG (z := .agg #[.int .i64 0, .int .i64 0]) (sz := 2) (bytes := 16) info_col rfl (by decide) Tryz.underlying29 rfl _ _ (by rfl) _ w5.drew.heap.size _ nc (colCells cq) (some ⟨w5.heap.size, 0, none⟩) 1 1 [.int .i64 (k : Int), .int .i64 (mm : Int)] (by rfl) (by rfl) HO2.out HL2.out (by intro u hu; simp at hu; rcases hu with rfl | rfl <;> rfl) (by omega) (by unfold maxLen; omega) HB_2.out.size ?_
       intro v3 x3 h2 h3 h4
       obtain ⟨ra, rc, rfl⟩ := own_form h2
       have HRF := Lib.hid h2
       have HB_3 := Lib.hid (h4 _ HB_2.out)
       clear h2 h3 h4
       refine hK.out _ _ (by exact ⟨HS0.out.below HB_3.out hBS, HE0.out.below HB_3.out hBE⟩) ?_
       clear hK K hHeld
       intro hHeld
       try simp only [Act.put, putA, putB, putC]
       refine wpAnyN_t 8 ⟨some 52, _, _, _, _, _⟩ ?_ rfl ?_ ?_
       rotate_left 1
       ·(intro w hSw; obtain ⟨u0, u1, u2, u3, u4, u5, u6, u7, u8, u9, u10, u11⟩ := blk12 hSw.1; have v0 : w.cell? ⟨T, 0, none⟩ = some (.int .i64 (k : Int)) := hSw.2.cell 0; have v1 : w.cell? ⟨T, 1, none⟩ = some (.int .i64 (mm : Int)) := hSw.2.cell 1; go_simp; try with_reducible rfl)
       try simp only [Act.put, putA, putB, putC]
       refine wpAnyN_t 9 ⟨some 53, _, _, _, _, _⟩ ?_ rfl ?_ ?_
       rotate_left 1
       ·(intro w hSw; obtain ⟨u0, u1, u2, u3, u4, u5, u6, u7, u8, u9, u10, u11⟩ := blk12 hSw.1; have v0 : w.cell? ⟨T, 0, none⟩ = some (.int .i64 (k : Int)) := hSw.2.cell 0; have v1 : w.cell? ⟨T, 1, none⟩ = some (.int .i64 (mm : Int)) := hSw.2.cell 1; go_simp; try with_reducible rfl)
       try simp only [Act.put, putA, putB, putC]
       refine wpAnyN_late (i := 10) (o := ⟨none, _, _, _, _, _⟩) (by kernel_rfl) (by kernel_rfl) rfl (fun K hK => ?_)
       obtain ⟨u0, u1, u2, u3, u4, u5, u6, u7, u8, u9, u10, u11⟩ := blk12 hHeld.1
       have uf : ∀ o, x3.frozen? ⟨S, o, none⟩ = false := fun o => hHeld.1.frozen o
       go_simp
       refine hK.out _ _ ?_
       clear hK K u0 u1 u2 u3 u4 u5 u6 u7 u8 u9 u10 u11 uf
       try simp only [Act.put, putA, putB, putC]
       refine wpAnyN_end (by kernel_rfl) ?_
       have HSF := Lib.hid (hHeld.1.set_ 8 (.slice ra (nc + 1) rc))
       have HBE0 := Lib.hid (((Below.refl _ _).drew).trans HB_3.out)
       clear hHeld
       have HSB := Lib.hid ((HKB5.out.below HBE0.out HKB5.out.lt).far (p := ⟨S, 8, none⟩) (by show S + 1 ≠ S; omega) (.slice ra (nc + 1) rc))
       have HBZ := Lib.hid (below_set (HB5.out.trans (HBE0.out.mono (show S ≤ w5.drew.heap.size by have := HKS.out.lt; show S ≤ w5.heap.size; omega))) (p := ⟨S, 8, none⟩) (Nat.le_refl S) (.slice ra (nc + 1) rc))
       go_wp2_with fail
       go_meet
       exact ⟨ra, rc, HSF.out, HSB.out, own_base (own_set HRF.out hBS 8 _) (by have := HKB5.out.lt; show S + 2 ≤ w5.heap.size; omega), HBZ.out⟩
     case rest =>
      obtain ⟨ra, rc, hka, hkb, hrg, hb⟩ := hcut
      have HKA7 := Lib.hid hka
      have HKB7 := Lib.hid hkb
      have HRG := Lib.hid hrg
      have HB7 := Lib.hid hb
      obtain ⟨w7, rfl⟩ : ∃ x, x = wc := ⟨_, rfl⟩
      clear hka hkb hrg hb
      have c0 := HKA7.out.c 0
      have c1 := HKA7.out.c 1
      have c2 := HKA7.out.c 2
      have c3 := HKA7.out.c 3
      have c4 := HKA7.out.c 4
      have c5 := HKA7.out.c 5
      have c6 := HKA7.out.c 6
      have c7 := HKA7.out.c 7
      have c8 := HKA7.out.c 8
      have c9 := HKA7.out.c 9
      have c10 := HKA7.out.c 10
      have c11 := HKA7.out.c 11
      have d0 := HKB7.out.c 0
      have d1 := HKB7.out.c 1
      have d2 := HKB7.out.c 2
      have d3 := HKB7.out.c 3
      have d4 := HKB7.out.c 4
      have d5 := HKB7.out.c 5
      have d6 := HKB7.out.c 6
      have d7 := HKB7.out.c 7
      have d8 := HKB7.out.c 8
      have d9 := HKB7.out.c 9
      have d10 := HKB7.out.c 10
      have d11 := HKB7.out.c 11
      have fzd : ∀ o, w7.frozen? ⟨S + 1, o, none⟩ = false := fun o => HKB7.out.frozen o
      go_wp2_with fail
      have HRGF := Lib.hid (own_set (own_set (own_set (own_set (own_set (own_set (own_set (own_set (own_set (own_set (own_set (own_set HRG.out (R := S + 1) (by omega) 0 (.slice ad nd cd)) (R := S + 1) (by omega) 1 (.slice ai ni ci)) (R := S + 1) (by omega) 2 (.slice an nn cn)) (R := S + 1) (by omega) 3 (.slice av nv cv)) (R := S + 1) (by omega) 4 (.slice ta L.length tc)) (R := S + 1) (by omega) 5 (.int .i64 (i3 : Int))) (R := S + 1) (by omega) 6 (.int .u32 g)) (R := S + 1) (by omega) 7 (.slice af nf cf)) (R := S + 1) (by omega) 8 (.slice ra (nc + 1) rc)) (R := S + 1) (by omega) 9 (.slice ao no co)) (R := S + 1) (by omega) 10 (.int .i64 lm)) (R := S + 1) (by omega) 11 (.int .i64 (e3 : Int)))
      have HKF := Lib.hid (blk_st12 (HKB7.out) (.slice ad nd cd) (.slice ai ni ci) (.slice an nn cn) (.slice av nv cv) (.slice ta L.length tc) (.int .i64 (i3 : Int)) (.int .u32 g) (.slice af nf cf) (.slice ra (nc + 1) rc) (.slice ao no co) (.int .i64 lm) (.int .i64 (e3 : Int)))
      have HBF := Lib.hid (below_st12 (HB7.out) (b := S + 1) (by have := HSW.out; omega) (.slice ad nd cd) (.slice ai ni ci) (.slice an nn cn) (.slice av nv cv) (.slice ta L.length tc) (.int .i64 (i3 : Int)) (.int .u32 g) (.slice af nf cf) (.slice ra (nc + 1) rc) (.slice ao no co) (.int .i64 lm) (.int .i64 (e3 : Int)))
      generalize ((((((((((((w7.setCell ⟨S + 1, 0, none⟩ (.slice ad nd cd)).setCell ⟨S + 1, 1, none⟩ (.slice ai ni ci)).setCell ⟨S + 1, 2, none⟩ (.slice an nn cn)).setCell ⟨S + 1, 3, none⟩ (.slice av nv cv)).setCell ⟨S + 1, 4, none⟩ (.slice ta L.length tc)).setCell ⟨S + 1, 5, none⟩ (.int .i64 (i3 : Int))).setCell ⟨S + 1, 6, none⟩ (.int .u32 g)).setCell ⟨S + 1, 7, none⟩ (.slice af nf cf)).setCell ⟨S + 1, 8, none⟩ (.slice ra (nc + 1) rc)).setCell ⟨S + 1, 9, none⟩ (.slice ao no co)).setCell ⟨S + 1, 10, none⟩ (.int .i64 lm)).setCell ⟨S + 1, 11, none⟩ (.int .i64 (e3 : Int))) = Wf at *
      have z0 := HKF.out.c 0
      have z1 := HKF.out.c 1
      have z2 := HKF.out.c 2
      have z3 := HKF.out.c 3
      have z4 := HKF.out.c 4
      have z5 := HKF.out.c 5
      have z6 := HKF.out.c 6
      have z7 := HKF.out.c 7
      have z8 := HKF.out.c 8
      have z9 := HKF.out.c 9
      have z10 := HKF.out.c 10
      have z11 := HKF.out.c 11
      refine bodyPost_ret (v := .agg #[.slice ad nd cd, .slice ai ni ci, .slice an nn cn, .slice av nv cv, .slice ta L.length tc, .int .i64 (i3 : Int), .int .u32 g, .slice af nf cf, .slice ra (nc + 1) rc, .slice ao no co, .int .i64 lm, .int .i64 (e3 : Int)]) (by simp [results, Tryz.results103, go_sem, z0, z1, z2, z3, z4, z5, z6, z7, z8, z9, z10, z11]) rfl ?_
      rw [HRR.out]
      refine ⟨⟨af, nf, cf, ra, nc + 1, rc, ao, no, co⟩, fl, rfl, fun wx hag => ?_, by rw [HSW.out]; exact HBF.out⟩
      have h := HSG.out wx (hag.old (by rw [HSW.out]; exact HBF.out))
      refine ⟨col_qry h.q (x := ((k : Int), (mm : Int))) ⟨i64_small (by dsimp only; omega) (by dsimp only; omega), i64_small (by dsimp only; omega) (by have := HMM.out; dsimp only; omega)⟩ (by rw [colCells_push]; exact own_rowg (own_agr hag HRGF.out (by have := HSW.out; omega))), h.fs, h.grp, fun he => ?_, HI3.out⟩
      obtain ⟨k3, k4, k5⟩ := h.len HER.out
      have k6 := HE3.out he
      dsimp only at *
      rw [List.length_append]
      exact ⟨by show cq.length + 1 ≤ i3; omega, by omega, by omega⟩
  ·have d0 := HKS.out.c 0
   have d1 := HKS.out.c 1
   have d2 := HKS.out.c 2
   have d3 := HKS.out.c 3
   have d4 := HKS.out.c 4
   have d5 := HKS.out.c 5
   have d6 := HKS.out.c 6
   have d7 := HKS.out.c 7
   have d8 := HKS.out.c 8
   have d9 := HKS.out.c 9
   have d10 := HKS.out.c 10
   have d11 := HKS.out.c 11
   have HKK : Hid (er = 0 → kindAt L i aggW 0 = none) := Lib.hid (fun he => by rw [← HKA.out he, show k = 7 by have := HQ.out; omega]; rfl)
   go_wp2_with fail
   refine (HFA.out _).mono ?_; rintro e w2 ⟨rfl, hb2⟩
   have HB2 := Lib.hid (HB.out.trans (hb2.mono (by have := HKS.out.lt; omega)))
   have HKC := Lib.hid (HKB.out.below hb2 HKB.out.lt)
   clear hb2
   clear d0 d1 d2 d3 d4 d5 d6 d7 d8 d9 d10 d11
   have HCX : Hid (r = failR ⟨i, ⟨g, fq, cq, oq, lm⟩, er⟩ 6) := Lib.hid (by
    rw [← HCR.out]
    unfold colR
    dsimp only
    by_cases he : er = 0
    ·rw [if_pos he, HKK.out he]
    ·rw [if_neg he])
   obtain ⟨p2, hp2⟩ : ∃ x, failR ⟨i, ⟨g, fq, cq, oq, lm⟩, er⟩ 6 = x := ⟨_, rfl⟩
   have HP2 := Lib.hid hp2
   rw [hp2] at HCX ⊢
   clear hp2
   have d0 := HKC.out.c 0
   have d1 := HKC.out.c 1
   have d2 := HKC.out.c 2
   have d3 := HKC.out.c 3
   have d4 := HKC.out.c 4
   have d5 := HKC.out.c 5
   have d6 := HKC.out.c 6
   have d7 := HKC.out.c 7
   have d8 := HKC.out.c 8
   have d9 := HKC.out.c 9
   have d10 := HKC.out.c 10
   have d11 := HKC.out.c 11
   have fzd : ∀ o, w2.frozen? ⟨S + 1, o, none⟩ = false := fun o => HKC.out.frozen o
   go_wp2_with fail
   have HKF := Lib.hid (blk_st12 (HKC.out) (.slice ad nd cd) (.slice ai ni ci) (.slice an nn cn) (.slice av nv cv) (.slice ta L.length tc) (.int .i64 (p2.at' : Int)) (.int .u32 p2.q.group) (.slice af nf cf) (.slice ac nc cc) (.slice ao no co) (.int .i64 p2.q.limit) (.int .i64 (p2.err : Int)))
   have HBF := Lib.hid (below_st12 (HB2.out) (b := S + 1) (by have := HSW.out; omega) (.slice ad nd cd) (.slice ai ni ci) (.slice an nn cn) (.slice av nv cv) (.slice ta L.length tc) (.int .i64 (p2.at' : Int)) (.int .u32 p2.q.group) (.slice af nf cf) (.slice ac nc cc) (.slice ao no co) (.int .i64 p2.q.limit) (.int .i64 (p2.err : Int)))
   generalize ((((((((((((w2.setCell ⟨S + 1, 0, none⟩ (.slice ad nd cd)).setCell ⟨S + 1, 1, none⟩ (.slice ai ni ci)).setCell ⟨S + 1, 2, none⟩ (.slice an nn cn)).setCell ⟨S + 1, 3, none⟩ (.slice av nv cv)).setCell ⟨S + 1, 4, none⟩ (.slice ta L.length tc)).setCell ⟨S + 1, 5, none⟩ (.int .i64 (p2.at' : Int))).setCell ⟨S + 1, 6, none⟩ (.int .u32 p2.q.group)).setCell ⟨S + 1, 7, none⟩ (.slice af nf cf)).setCell ⟨S + 1, 8, none⟩ (.slice ac nc cc)).setCell ⟨S + 1, 9, none⟩ (.slice ao no co)).setCell ⟨S + 1, 10, none⟩ (.int .i64 p2.q.limit)).setCell ⟨S + 1, 11, none⟩ (.int .i64 (p2.err : Int))) = Wf at *
   have z0 := HKF.out.c 0
   have z1 := HKF.out.c 1
   have z2 := HKF.out.c 2
   have z3 := HKF.out.c 3
   have z4 := HKF.out.c 4
   have z5 := HKF.out.c 5
   have z6 := HKF.out.c 6
   have z7 := HKF.out.c 7
   have z8 := HKF.out.c 8
   have z9 := HKF.out.c 9
   have z10 := HKF.out.c 10
   have z11 := HKF.out.c 11
   refine bodyPost_ret (v := .agg #[.slice ad nd cd, .slice ai ni ci, .slice an nn cn, .slice av nv cv, .slice ta L.length tc, .int .i64 (p2.at' : Int), .int .u32 p2.q.group, .slice af nf cf, .slice ac nc cc, .slice ao no co, .int .i64 p2.q.limit, .int .i64 (p2.err : Int)]) (by simp [results, Tryz.results103, go_sem, z0, z1, z2, z3, z4, z5, z6, z7, z8, z9, z10, z11]) rfl ?_
   rw [HCX.out]
   refine ⟨⟨af, nf, cf, ac, nc, cc, ao, no, co⟩, fl, rfl, fun wx hag => ?_, by rw [HSW.out]; exact HBF.out⟩
   have h := HSG.out wx (hag.old (by rw [HSW.out]; exact HBF.out))
   have h9 := fail_at ⟨i, ⟨g, fq, cq, oq, lm⟩, er⟩ 6
   have h10 : (failR ⟨i, ⟨g, fq, cq, oq, lm⟩, er⟩ 6).err ≠ 0 := fail_err (by decide)
   rw [HP2.out] at h9 h10
   exact h.same h9.2 (by rw [h9.1]; exact HST.out.at') (fun he => absurd he h10)
end Go.Proofs.YtaofjnidniekjaaGreatDoor
