/- The reference's reading (package bushelref36): where its states stand (plain); group. Conditions: those stated. -/
import Derived.Test.YtaofjnidniekjaaParRe
import Derived.Test.YtaofjnidniekjaaParU
import Derived.Test.YtaofjnidniekjaaParZb
namespace Go.Proofs.Ytaofjnidniekjaa
open Go.RowKit

theorem word_at {L : List Tok} (h : TokOk L) {p : PState} {t : List UInt8} (hw : isR L p t = true) : p.err = 0 ∧ p.at' + 1 < L.length := by
  unfold isR at hw
  simp only [Bool.and_eq_true, decide_eq_true_eq] at hw
  exact ⟨hw.1, word_next h hw.2⟩
theorem fail_at (p : PState) (e : Nat) : (failR p e).at' = p.at' ∧ (failR p e).q = p.q := by
  unfold failR; split <;> exact ⟨rfl, rfl⟩
theorem fail_err {p : PState} {e : Nat} (he : e ≠ 0) : (failR p e).err ≠ 0 := by
  unfold failR; split
  · exact he
  · rename_i h; exact h
theorem want_at {L : List Tok} (h : TokOk L) {p : PState} {t : List UInt8} (hp : p.at' < L.length) : (wantR L p t).at' < L.length ∧ (wantR L p t).q = p.q ∧ ((wantR L p t).err = 0 → p.err = 0 ∧ (wantR L p t).at' = p.at' + 1) := by
  unfold wantR
  split
  · rename_i hw
    have := word_at h hw
    exact ⟨this.2, rfl, fun _ => ⟨this.1, rfl⟩⟩
  · have := fail_at p 6
    exact ⟨by rw [this.1]; exact hp, this.2, fun he => absurd he (fail_err (by decide))⟩
theorem num_at {L : List Tok} (h : TokOk L) {p : PState} (hp : p.at' < L.length) : (numTR L p).1.at' < L.length ∧ (numTR L p).1.q = p.q ∧ ((numTR L p).1.err = 0 → p.err = 0 ∧ (numTR L p).1.at' = p.at' + 1) ∧ 0 ≤ (numTR L p).2 ∧ (numTR L p).2 ≤ 1000000000000000000 := by
  unfold numTR
  split
  · have := fail_at p 6
    exact ⟨by rw [this.1]; exact hp, this.2, fun he => absurd he (fail_err (by decide)), Int.le_refl 0, show (0 : Int) ≤ _ by decide⟩
  · rename_i hk
    have h0 : p.err = 0 := Classical.byContradiction fun h => hk (.inl h)
    have h3 : (tokAt L p.at').k = 3 := Classical.byContradiction fun h => hk (.inr h)
    exact ⟨h.next hp (by omega), rfl, fun _ => ⟨h0, rfl⟩, h.num _ (tokAt_mem hp).2⟩
theorem place_at {L : List Tok} (h : TokOk L) (names : List ByteArray) {p : PState} (hp : p.at' < L.length) : (placeR names L p).1.at' < L.length ∧ (placeR names L p).1.q = p.q ∧ ((placeR names L p).1.err = 0 → p.err = 0 ∧ (placeR names L p).1.at' = p.at' + 1 ∧ (placeR names L p).2 < names.length) ∧ ((placeR names L p).2 < names.length ∨ (placeR names L p).2 = 0) := by
  unfold placeR
  split
  · have := fail_at p 6
    exact ⟨by rw [this.1]; exact hp, this.2, fun he => absurd he (fail_err (by decide)), .inr rfl⟩
  · rename_i hk
    have h0 : p.err = 0 := Classical.byContradiction fun h => hk (.inl h)
    have h2 : (tokAt L p.at').k = 2 := Classical.byContradiction fun h => hk (.inr h)
    split
    · have := fail_at p 11
      exact ⟨by rw [this.1]; exact hp, this.2, fun he => absurd he (fail_err (by decide)), .inr rfl⟩
    · rename_i hl
      have := place_lt (place_mem.1 (Int.not_lt.1 hl))
      exact ⟨h.next hp (by omega), rfl, fun _ => ⟨h0, rfl, by dsimp only; omega⟩, .inl (by dsimp only; omega)⟩
/-- a state of which a reading may go on -/
structure StOk (X : RX) (m : QryL) (fl : List Flt) (p : PState) (w : World) : Prop where
  q : QryAt w m (p.q.at' fl)
  fs : fl.map (fun f => (f.dim, f.codes)) = p.q.flts
  grp : 0 ≤ p.q.group ∧ p.q.group < 2 ^ X.s.dims.length
  len : p.err = 0 → p.q.cols.length ≤ p.at' ∧ p.q.ord.length ≤ p.at' ∧ p.q.flts.length ≤ p.at'
  at' : p.at' < X.L.length
theorem StOk.below {X : RX} {m : QryL} {fl : List Flt} {p : PState} {w w' : World} {B : Nat} (h : StOk X m fl p w) (hb : Below B w w') (hB : w.heap.size ≤ B) : StOk X m fl p w' := ⟨h.q.below hb hB, h.fs, h.grp, h.len, h.at'⟩
/-- the good blocks are as they were -/
structure AgrG (G : Nat → Prop) (w wx : World) : Prop where
  os : wx.os = w.os
  tape : wx.tape = w.tape
  output : wx.output = w.output
  size : w.heap.size ≤ wx.heap.size
  block : ∀ g, g < w.heap.size → G g → wx.heap[g]? = w.heap[g]?
theorem AgrG.refl (G : Nat → Prop) (w : World) : AgrG G w w := ⟨rfl, rfl, rfl, Nat.le_refl _, fun _ _ _ => rfl⟩
theorem AgrG.old {G : Nat → Prop} {w w' wx : World} (h : AgrG (fun g => G g ∨ w.heap.size ≤ g) w' wx) (hb : Below w.heap.size w w') : AgrG G w wx :=
  ⟨h.os.trans hb.os, h.tape.trans hb.tape, h.output.trans hb.output, Nat.le_trans hb.size h.size, fun g hg hG => (h.block g (Nat.lt_of_lt_of_le hg hb.size) (.inl hG)).trans (hb.block g hg)⟩
theorem own_agr {G : Nat → Prop} {w' wx : World} {N B s n : Nat} {e : TypeId} {v : Value} {cs : List Value} (h : AgrG (fun g => G g ∨ N ≤ g) w' wx) (ho : w'.ownsRow B e s v n cs) (hB : N ≤ B) : wx.ownsRow B e s v n cs := by
  refine ⟨ho.1, ?_⟩
  rcases ho.2 with h2 | ⟨g, cap, cur, hv, hg, hh, r⟩
  · exact .inl h2
  · refine .inr ⟨g, cap, cur, hv, hg, ?_, r⟩
    rw [h.block g (Array.getElem?_eq_some_iff.1 hh).1 (.inr (Nat.le_trans hB hg))]; exact hh
/-- a state of which a reading may go on, as long as the good blocks stay -/
def StG (G : Nat → Prop) (X : RX) (m : QryL) (fl : List Flt) (p : PState) (w : World) : Prop := ∀ wx, AgrG G w wx → StOk X m fl p wx
theorem StG.here {G : Nat → Prop} {X : RX} {m : QryL} {fl : List Flt} {p : PState} {w : World} (h : StG G X m fl p w) : StOk X m fl p w := h w (AgrG.refl G w)
theorem StG.below {G : Nat → Prop} {X : RX} {m : QryL} {fl : List Flt} {p : PState} {w w' : World} (h : StG G X m fl p w) (hb : Below w.heap.size w w') : StG G X m fl p w' := fun wx ha =>
  h wx ⟨ha.os.trans hb.os, ha.tape.trans hb.tape, ha.output.trans hb.output, Nat.le_trans hb.size ha.size, fun g hg hG => (ha.block g (Nat.lt_of_lt_of_le hg hb.size) hG).trans (hb.block g hg)⟩
/-- a call's answer: a state of which a reading may go on -/
def RStO (X : RX) (p : PState) (G : Nat → Prop) (w : World) (e : Ending) (w' : World) : Prop := ∃ m fl, e = .returned (StV X m p) ∧ StG (fun g => G g ∨ w.heap.size ≤ g) X m fl p w' ∧ Below w.heap.size w w'
/-- another state of the same query -/
theorem StOk.same {X : RX} {m : QryL} {fl : List Flt} {p p' : PState} {w : World} (h : StOk X m fl p w) (hq : p'.q = p.q) (ha : p'.at' < X.L.length) (he : p'.err = 0 → p.err = 0 ∧ p.at' ≤ p'.at') : StOk X m fl p' w :=
  ⟨by rw [hq]; exact h.q, by rw [hq]; exact h.fs, by rw [hq]; exact h.grp, fun h0 => by
    obtain ⟨h1, h2⟩ := he h0
    obtain ⟨h3, h4, h5⟩ := h.len h1
    rw [hq]
    exact ⟨by omega, by omega, by omega⟩, ha⟩

theorem group_qry {w : World} {m : QryL} {q : QP} {fl : List Flt} {g : Int} (h : QryAt w m (q.at' fl)) (hg : 0 ≤ g ∧ g ≤ 4294967295) : QryAt w m (({ q with group := g } : QP).at' fl) := ⟨h.1, h.2.1, h.2.2.1, h.2.2.2.1, h.2.2.2.2.1, hg, h.2.2.2.2.2.2⟩
set_option maxRecDepth 100000 in
set_option maxHeartbeats 1000000 in
theorem vgroup_any (X : RX) (m : QryL) (fl : List Flt) (p : PState) (G : Nat → Prop) (w : World) (hX : X.At w) (hpG : StG G X m fl p w) :
    Calls Try.prog 75 #[StV X m p] w (RStO X (groupR (dimN X.s) X.L p) G w) := by
  have hp := hpG.here
  have HSG := Lib.hid hpG
  clear hpG
  have hnd := (chk_dims hX.chk).1
  have HDL : Hid ((dimN X.s).length = X.s.dims.length) := Lib.hid (List.length_map _)
  have hdl := HDL.out
  have HPA := Lib.hid (place_at hX.good (dimN X.s) hp.at')
  have HST := Lib.hid hp
  have HD := Lib.hid (fun (w' : World) (hb : Below w.heap.size w w') => vdim_any X m p w' (hX.below hb (Nat.le_refl _)) hp.at')
  have HFA : Hid (∀ w', Calls Try.prog 35 #[StV X m p, .int .i64 (9 : Int)] w' (RSt X m (failR p 9) w')) := Lib.hid (fun w' => vfail_any X m p w' 9)
  have HGR : Hid (groupR (dimN X.s) X.L p = if (placeR (dimN X.s) X.L p).1.err = 0 ∧ p.q.group / 2 ^ (placeR (dimN X.s) X.L p).2 % 2 = 1 then failR p 9 else if (placeR (dimN X.s) X.L p).1.err = 0 then { (placeR (dimN X.s) X.L p).1 with q := { (placeR (dimN X.s) X.L p).1.q with group := (placeR (dimN X.s) X.L p).1.q.group + 2 ^ (placeR (dimN X.s) X.L p).2 } } else (placeR (dimN X.s) X.L p).1) := Lib.hid rfl
  have hg1 : p.q.group ≤ 4294967295 := hp.q.2.2.2.2.2.1.2
  have hg0 : 0 ≤ p.q.group := hp.grp.1
  obtain ⟨r, hr⟩ : ∃ x, groupR (dimN X.s) X.L p = x := ⟨_, rfl⟩
  rw [hr] at HGR ⊢
  obtain ⟨⟨p1, d⟩, hp1⟩ : ∃ x, placeR (dimN X.s) X.L p = x := ⟨_, rfl⟩
  rw [hp1] at HPA HGR HD
  have hd31 : d ≤ 5 := by have := HPA.out.2.2.2; dsimp only at this; omega
  have HPR := Lib.hid hp1
  clear hp1 hr hX hp
  obtain ⟨p9, hp9⟩ : ∃ x, failR p 9 = x := ⟨_, rfl⟩
  rw [hp9] at HFA HGR
  have HP9 := Lib.hid hp9
  clear hp9
  unfold RSt RStN at *
  have HIN := Lib.hid (fun w => rin_any p.q.group d w (by omega) hg0 hg1)
  have HTW := Lib.hid (fun w => rtwo_any d w (by omega))
  obtain ⟨bi, hbi⟩ : ∃ x, inM p.q.group d = x := ⟨_, rfl⟩
  rw [hbi] at HIN
  have HBI := Lib.hid hbi
  clear hbi
  dsimp only at HPA HGR
  have hq1 : p1.q = p.q := HPA.out.2.1
  obtain ⟨i1, q1, e1⟩ := p1
  dsimp only at hq1
  subst hq1
  unfold StV at *
  obtain ⟨⟨ad, nd, cd, ai, ni, ci, an, nn, cn, av, nv, cv⟩, s, ta, tc, L⟩ := X
  obtain ⟨af, nf, cf, ac, nc, cc, ao, no, co⟩ := m
  obtain ⟨i, ⟨g, fq, cq, oq, lm⟩, er⟩ := p
  (try dsimp only at *)
  obtain ⟨W0, hW0⟩ : ∃ W0, ((w.alloc (.cells #[.slice ad nd cd, .slice ai ni ci, .slice an nn cn, .slice av nv cv, .slice ta L.length tc, .int .i64 (i : Int), .int .u32 g, .slice af nf cf, .slice ac nc cc, .slice ao no co, .int .i64 lm, .int .i64 (er : Int)] 82)).alloc (.cells #[.slice none 0 0, .slice none 0 0, .slice none 0 0, .slice none 0 0, .slice none 0 0, .int .i64 0, .int .u32 0, .slice none 0 0, .slice none 0 0, .slice none 0 0, .int .i64 0, .int .i64 0] 82)) = W0 := ⟨_, rfl⟩
  have HB0 : Hid (Below w.heap.size w W0) := Lib.hid (by
    rw [← hW0]
    exact (((Below.refl _ _).alloc (Nat.le_refl _) _).alloc (by simp) _))
  have HZ0 : Hid (W0.heap.size = w.heap.size + 2) := Lib.hid (by rw [← hW0]; simp)
  have HK0 : Hid (Blk W0 (w.heap.size) 82 #[.slice ad nd cd, .slice ai ni ci, .slice an nn cn, .slice av nv cv, .slice ta L.length tc, .int .i64 (i : Int), .int .u32 g, .slice af nf cf, .slice ac nc cc, .slice ao no co, .int .i64 lm, .int .i64 (er : Int)]) := Lib.hid (by
    rw [← hW0]
    have h := Blk.new w 82 #[.slice ad nd cd, .slice ai ni ci, .slice an nn cn, .slice av nv cv, .slice ta L.length tc, .int .i64 (i : Int), .int .u32 g, .slice af nf cf, .slice ac nc cc, .slice ao no co, .int .i64 lm, .int .i64 (er : Int)]
    exact h.alloc _)
  have HK1 : Hid (Blk W0 (w.heap.size + 1) 82 #[.slice none 0 0, .slice none 0 0, .slice none 0 0, .slice none 0 0, .slice none 0 0, .int .i64 0, .int .u32 0, .slice none 0 0, .slice none 0 0, .slice none 0 0, .int .i64 0, .int .i64 0]) := Lib.hid (by
    rw [← hW0]
    have h := Blk.new (w.alloc (.cells #[.slice ad nd cd, .slice ai ni ci, .slice an nn cn, .slice av nv cv, .slice ta L.length tc, .int .i64 (i : Int), .int .u32 g, .slice af nf cf, .slice ac nc cc, .slice ao no co, .int .i64 lm, .int .i64 (er : Int)] 82)) 82 #[.slice none 0 0, .slice none 0 0, .slice none 0 0, .slice none 0 0, .slice none 0 0, .int .i64 0, .int .u32 0, .slice none 0 0, .slice none 0 0, .slice none 0 0, .int .i64 0, .int .i64 0]
    rw [World.size_alloc] at h
    exact h)
  (try unfold StV)
  (try dsimp only)
  go_enter Try.func75, Try.ntmps75
  go_upto_region 1 with fail
  clear hW0
  generalize hS : w.heap.size = S at *
  have HSW := Lib.hid hS
  clear hS
  have c0 : W0.cell? ⟨S, 0, none⟩ = some (.slice ad nd cd) := HK0.out.cell 0
  have c1 : W0.cell? ⟨S, 1, none⟩ = some (.slice ai ni ci) := HK0.out.cell 1
  have c2 : W0.cell? ⟨S, 2, none⟩ = some (.slice an nn cn) := HK0.out.cell 2
  have c3 : W0.cell? ⟨S, 3, none⟩ = some (.slice av nv cv) := HK0.out.cell 3
  have c4 : W0.cell? ⟨S, 4, none⟩ = some (.slice ta L.length tc) := HK0.out.cell 4
  have c5 : W0.cell? ⟨S, 5, none⟩ = some (.int .i64 (i : Int)) := HK0.out.cell 5
  have c6 : W0.cell? ⟨S, 6, none⟩ = some (.int .u32 g) := HK0.out.cell 6
  have c7 : W0.cell? ⟨S, 7, none⟩ = some (.slice af nf cf) := HK0.out.cell 7
  have c8 : W0.cell? ⟨S, 8, none⟩ = some (.slice ac nc cc) := HK0.out.cell 8
  have c9 : W0.cell? ⟨S, 9, none⟩ = some (.slice ao no co) := HK0.out.cell 9
  have c10 : W0.cell? ⟨S, 10, none⟩ = some (.int .i64 lm) := HK0.out.cell 10
  have c11 : W0.cell? ⟨S, 11, none⟩ = some (.int .i64 (er : Int)) := HK0.out.cell 11
  go_wp2_with fail
  refine (HD.out _ HB0.out).mono ?_; rintro e w1 ⟨rfl, hb1⟩
  have HB1 := Lib.hid (HB0.out.trans (hb1.mono (by have := HZ0.out; omega)))
  have HKA := Lib.hid ((HK0.out.below hb1 HK0.out.lt).alloc (.cells #[.slice ad nd cd, .slice ai ni ci, .slice an nn cn, .slice av nv cv, .slice ta L.length tc, .int .i64 (i1 : Int), .int .u32 g, .slice af nf cf, .slice ac nc cc, .slice ao no co, .int .i64 lm, .int .i64 (e1 : Int)] 82))
  have HKB := Lib.hid ((HK1.out.below hb1 HK1.out.lt).alloc (.cells #[.slice ad nd cd, .slice ai ni ci, .slice an nn cn, .slice av nv cv, .slice ta L.length tc, .int .i64 (i1 : Int), .int .u32 g, .slice af nf cf, .slice ac nc cc, .slice ao no co, .int .i64 lm, .int .i64 (e1 : Int)] 82))
  have HKY := Lib.hid (Blk.new w1 82 #[.slice ad nd cd, .slice ai ni ci, .slice an nn cn, .slice av nv cv, .slice ta L.length tc, .int .i64 (i1 : Int), .int .u32 g, .slice af nf cf, .slice ac nc cc, .slice ao no co, .int .i64 lm, .int .i64 (e1 : Int)])
  have HB2 := Lib.hid (HB1.out.alloc (by have := HB1.out.size; have := HSW.out; omega) (.cells #[.slice ad nd cd, .slice ai ni ci, .slice an nn cn, .slice av nv cv, .slice ta L.length tc, .int .i64 (i1 : Int), .int .u32 g, .slice af nf cf, .slice ac nc cc, .slice ao no co, .int .i64 lm, .int .i64 (e1 : Int)] 82))
  have HSY : Hid (S + 1 < w1.heap.size) := Lib.hid (HK1.out.below hb1 HK1.out.lt).lt
  have hSl : S < w1.heap.size := by have := HSY.out; omega
  clear hb1
  clear c0 c1 c2 c3 c4 c5 c6 c7 c8 c9 c10 c11
  go_upto_region 2 with fail
  generalize w1.alloc (.cells #[.slice ad nd cd, .slice ai ni ci, .slice an nn cn, .slice av nv cv, .slice ta L.length tc, .int .i64 (i1 : Int), .int .u32 g, .slice af nf cf, .slice ac nc cc, .slice ao no co, .int .i64 lm, .int .i64 (e1 : Int)] 82) = w2 at *
  generalize w1.heap.size = Y at *
  have y0 : w2.cell? ⟨Y, 0, none⟩ = some (.slice ad nd cd) := HKY.out.cell 0
  have y1 : w2.cell? ⟨Y, 1, none⟩ = some (.slice ai ni ci) := HKY.out.cell 1
  have y2 : w2.cell? ⟨Y, 2, none⟩ = some (.slice an nn cn) := HKY.out.cell 2
  have y3 : w2.cell? ⟨Y, 3, none⟩ = some (.slice av nv cv) := HKY.out.cell 3
  have y4 : w2.cell? ⟨Y, 4, none⟩ = some (.slice ta L.length tc) := HKY.out.cell 4
  have y5 : w2.cell? ⟨Y, 5, none⟩ = some (.int .i64 (i1 : Int)) := HKY.out.cell 5
  have y6 : w2.cell? ⟨Y, 6, none⟩ = some (.int .u32 g) := HKY.out.cell 6
  have y7 : w2.cell? ⟨Y, 7, none⟩ = some (.slice af nf cf) := HKY.out.cell 7
  have y8 : w2.cell? ⟨Y, 8, none⟩ = some (.slice ac nc cc) := HKY.out.cell 8
  have y9 : w2.cell? ⟨Y, 9, none⟩ = some (.slice ao no co) := HKY.out.cell 9
  have y10 : w2.cell? ⟨Y, 10, none⟩ = some (.int .i64 lm) := HKY.out.cell 10
  have y11 : w2.cell? ⟨Y, 11, none⟩ = some (.int .i64 (e1 : Int)) := HKY.out.cell 11
  have c0 : w2.cell? ⟨S, 0, none⟩ = some (.slice ad nd cd) := HKA.out.cell 0
  have c1 : w2.cell? ⟨S, 1, none⟩ = some (.slice ai ni ci) := HKA.out.cell 1
  have c2 : w2.cell? ⟨S, 2, none⟩ = some (.slice an nn cn) := HKA.out.cell 2
  have c3 : w2.cell? ⟨S, 3, none⟩ = some (.slice av nv cv) := HKA.out.cell 3
  have c4 : w2.cell? ⟨S, 4, none⟩ = some (.slice ta L.length tc) := HKA.out.cell 4
  have c5 : w2.cell? ⟨S, 5, none⟩ = some (.int .i64 (i : Int)) := HKA.out.cell 5
  have c6 : w2.cell? ⟨S, 6, none⟩ = some (.int .u32 g) := HKA.out.cell 6
  have c7 : w2.cell? ⟨S, 7, none⟩ = some (.slice af nf cf) := HKA.out.cell 7
  have c8 : w2.cell? ⟨S, 8, none⟩ = some (.slice ac nc cc) := HKA.out.cell 8
  have c9 : w2.cell? ⟨S, 9, none⟩ = some (.slice ao no co) := HKA.out.cell 9
  have c10 : w2.cell? ⟨S, 10, none⟩ = some (.int .i64 lm) := HKA.out.cell 10
  have c11 : w2.cell? ⟨S, 11, none⟩ = some (.int .i64 (er : Int)) := HKA.out.cell 11
  have HFZ : Hid (∀ o, w2.frozen? ⟨Y, o, none⟩ = false) := Lib.hid (fun o => HKY.out.frozen o)
  by_cases h0 : e1 = 0
  · have t0 : ((e1 : Int) == 0) = true := by rw [h0]; rfl
    have H0 := Lib.hid h0
    clear h0
    go_wp2_with fail
    refine (HIN.out _).mono ?_; rintro e w3 ⟨rfl, rfl⟩
    rcases bi with _ | _
    · have hb2 : ¬ g / 2 ^ d % 2 = 1 := by have h := HBI.out; unfold inM at h; exact of_decide_eq_false h
      have HRR : Hid (r = ⟨i1, ⟨g + 2 ^ d, fq, cq, oq, lm⟩, e1⟩) := Lib.hid (by rw [HGR.out, if_neg (fun h => hb2 h.2), if_pos H0.out])
      have HBO := Lib.hid (grp_or HST.out.grp.1 HST.out.grp.2 hnd (by have := (HPA.out.2.2.1 H0.out).2.2; have := HDL.out; dsimp only at *; omega) hb2)
      have hw : IntKind.u32.wrap (g + 2 ^ d) = g + 2 ^ d := IntWalk.u32_in _ ⟨HBO.out.2.1, by
        have h1 := HBO.out.2.2
        have : s.dims.length = 0 ∨ s.dims.length = 1 ∨ s.dims.length = 2 ∨ s.dims.length = 3 ∨ s.dims.length = 4 ∨ s.dims.length = 5 ∨ s.dims.length = 6 := by omega
        dsimp only at h1
        rcases this with e | e | e | e | e | e | e <;> rw [e] at h1 <;> omega⟩
      have HG32 : Hid (g + 2 ^ d ≤ 4294967295) := Lib.hid (by
        have h1 := HBO.out.2.2
        have : s.dims.length = 0 ∨ s.dims.length = 1 ∨ s.dims.length = 2 ∨ s.dims.length = 3 ∨ s.dims.length = 4 ∨ s.dims.length = 5 ∨ s.dims.length = 6 := by omega
        dsimp only at h1
        rcases this with e | e | e | e | e | e | e <;> rw [e] at h1 <;> omega)
      clear hb2
      go_upto_region 5 with fail
      refine wp_regionN (fun w' => w'.cell? ⟨Y, 6, none⟩ = some (.int .u32 g)) [8] (by kernel_rfl) (by exact (show w2.drew.cell? ⟨Y, 6, none⟩ = some (.int .u32 g) from y6)) (fun hHeld => ?_)
      refine wpAnyN_take (i := 0) (oi := ⟨some 25, _, _, _, _, _⟩) (v := ?_) rfl (by kernel_rfl) (by kernel_rfl) (by kernel_rfl) (by kernel_rfl) (by kernel_rfl) (fun _ _ _ h => h) (Or.inl ⟨by rfl, ?_⟩) (by assumption) ?_
      rotate_left 1
      · (intro w hSw; (try dsimp only at hSw); go_simp; try with_reducible rfl)
      try simp only [Act.put, List.setIfInBounds_toArray, List.set_cons_zero, List.set_cons_succ]
      refine wpAnyN_take (i := 1) (oi := ⟨some 26, _, _, _, _, _⟩) (v := ?_) rfl (by kernel_rfl) (by kernel_rfl) (by kernel_rfl) (by kernel_rfl) (by kernel_rfl) (fun _ _ _ h => h) (Or.inl ⟨by rfl, ?_⟩) (by assumption) ?_
      rotate_left 1
      · (intro w hSw; (try dsimp only at hSw); go_simp; try with_reducible rfl)
      try simp only [Act.put, List.setIfInBounds_toArray, List.set_cons_zero, List.set_cons_succ]
      refine wpAnyN_take (i := 2) (oi := ⟨some 27, _, _, _, _, _⟩) (v := ?_) rfl (by kernel_rfl) (by kernel_rfl) (by kernel_rfl) (by kernel_rfl) (by kernel_rfl) (fun _ _ _ h => h) (Or.inl ⟨by rfl, ?_⟩) (by assumption) ?_
      rotate_left 1
      · (intro w hSw; (try dsimp only at hSw); go_simp; try with_reducible rfl)
      try simp only [Act.put, List.setIfInBounds_toArray, List.set_cons_zero, List.set_cons_succ]
      refine wpAnyN_take (i := 3) (oi := ⟨some 28, _, _, _, _, _⟩) (v := ?_) rfl (by kernel_rfl) (by kernel_rfl) (by kernel_rfl) (by kernel_rfl) (by kernel_rfl) (fun _ _ _ h => h) (Or.inl ⟨by rfl, ?_⟩) (by assumption) ?_
      rotate_left 1
      · (intro w hSw; (try dsimp only at hSw); go_simp; try with_reducible rfl)
      try simp only [Act.put, List.setIfInBounds_toArray, List.set_cons_zero, List.set_cons_succ]
      refine wpAnyN_one (i := 4) (o := ⟨some 29, _, _, _, _, _⟩) (by kernel_rfl) rfl (fun K hK => ?_)
      go_simp
      refine (HTW.out _).mono ?_; rintro e w5 ⟨rfl, rfl⟩
      refine hK.out _ _ (by exact hHeld) ?_
      clear hK K hHeld
      intro hHeld
      try simp only [Act.put, List.setIfInBounds_toArray, List.set_cons_zero, List.set_cons_succ]
      refine wpAnyN_take (i := 5) (oi := ⟨some 30, _, _, _, _, _⟩) (v := ?_) rfl (by kernel_rfl) (by kernel_rfl) (by kernel_rfl) (by kernel_rfl) (by kernel_rfl) (fun _ _ _ h => h) (Or.inl ⟨by rfl, ?_⟩) (by assumption) ?_
      rotate_left 1
      · (intro w hSw; (try dsimp only at hSw); go_simp; try with_reducible rfl)
      try simp only [Act.put, List.setIfInBounds_toArray, List.set_cons_zero, List.set_cons_succ]
      refine wpAnyN_take (i := 6) (oi := ⟨some 31, _, _, _, _, _⟩) (v := ?_) rfl (by kernel_rfl) (by kernel_rfl) (by kernel_rfl) (by kernel_rfl) (by kernel_rfl) (fun _ _ _ h => h) (Or.inl ⟨by rfl, ?_⟩) (by assumption) ?_
      rotate_left 1
      · (intro w hSw; (try dsimp only at hSw); go_simp; try with_reducible rfl)
      try simp only [Act.put, List.setIfInBounds_toArray, List.set_cons_zero, List.set_cons_succ]
      refine wpAnyN_take (i := 7) (oi := ⟨some 32, _, _, _, _, _⟩) (v := ?_) rfl (by kernel_rfl) (by kernel_rfl) (by kernel_rfl) (by kernel_rfl) (by kernel_rfl) (fun _ _ _ h => h) (Or.inl ⟨by rfl, ?_⟩) (by assumption) ?_
      rotate_left 1
      · (intro w hSw; (try dsimp only at hSw); go_simp; try with_reducible rfl)
      try simp only [Act.put, List.setIfInBounds_toArray, List.set_cons_zero, List.set_cons_succ]
      refine wpAnyN_late (i := 8) (o := ⟨none, _, _, _, _, _⟩) (by kernel_rfl) (by kernel_rfl) rfl (fun K hK => ?_)
      have y6 := hHeld
      have fy := HFZ.out
      go_simp
      refine hK.out _ _ ?_
      clear hK K
      try simp only [Act.put, List.setIfInBounds_toArray, List.set_cons_zero, List.set_cons_succ]
      refine wpAnyN_end (by kernel_rfl) ?_
      have HKY5 := Lib.hid (HKY.out.set_ 6 (.int .u32 (g + 2 ^ d))).drew
      have HKB5 := Lib.hid (HKB.out.far (p := ⟨Y, 6, none⟩) (by have := HSY.out; show S + 1 ≠ Y; omega) (.int .u32 (g + 2 ^ d))).drew
      have HB5 := Lib.hid (blk_d (below_set HB2.out (p := ⟨Y, 6, none⟩) (by have := HSY.out; have := HSW.out; show _ ≤ Y; omega) (.int .u32 (g + 2 ^ d))))
      generalize (w2.setCell ⟨Y, 6, none⟩ (.int .u32 (g + 2 ^ d))).drew = w5 at *
      clear y0 y1 y2 y3 y4 y5 y6 y7 y8 y9 y10 y11
      clear c0 c1 c2 c3 c4 c5 c6 c7 c8 c9 c10 c11
      have y0 : w5.cell? ⟨Y, 0, none⟩ = some (.slice ad nd cd) := HKY5.out.cell 0
      have y1 : w5.cell? ⟨Y, 1, none⟩ = some (.slice ai ni ci) := HKY5.out.cell 1
      have y2 : w5.cell? ⟨Y, 2, none⟩ = some (.slice an nn cn) := HKY5.out.cell 2
      have y3 : w5.cell? ⟨Y, 3, none⟩ = some (.slice av nv cv) := HKY5.out.cell 3
      have y4 : w5.cell? ⟨Y, 4, none⟩ = some (.slice ta L.length tc) := HKY5.out.cell 4
      have y5 : w5.cell? ⟨Y, 5, none⟩ = some (.int .i64 (i1 : Int)) := HKY5.out.cell 5
      have y6 : w5.cell? ⟨Y, 6, none⟩ = some (.int .u32 (g + 2 ^ d)) := HKY5.out.cell 6
      have y7 : w5.cell? ⟨Y, 7, none⟩ = some (.slice af nf cf) := HKY5.out.cell 7
      have y8 : w5.cell? ⟨Y, 8, none⟩ = some (.slice ac nc cc) := HKY5.out.cell 8
      have y9 : w5.cell? ⟨Y, 9, none⟩ = some (.slice ao no co) := HKY5.out.cell 9
      have y10 : w5.cell? ⟨Y, 10, none⟩ = some (.int .i64 lm) := HKY5.out.cell 10
      have y11 : w5.cell? ⟨Y, 11, none⟩ = some (.int .i64 (e1 : Int)) := HKY5.out.cell 11
      have d0 : w5.cell? ⟨S + 1, 0, none⟩ = some (.slice none 0 0) := HKB5.out.cell 0
      have d1 : w5.cell? ⟨S + 1, 1, none⟩ = some (.slice none 0 0) := HKB5.out.cell 1
      have d2 : w5.cell? ⟨S + 1, 2, none⟩ = some (.slice none 0 0) := HKB5.out.cell 2
      have d3 : w5.cell? ⟨S + 1, 3, none⟩ = some (.slice none 0 0) := HKB5.out.cell 3
      have d4 : w5.cell? ⟨S + 1, 4, none⟩ = some (.slice none 0 0) := HKB5.out.cell 4
      have d5 : w5.cell? ⟨S + 1, 5, none⟩ = some (.int .i64 0) := HKB5.out.cell 5
      have d6 : w5.cell? ⟨S + 1, 6, none⟩ = some (.int .u32 0) := HKB5.out.cell 6
      have d7 : w5.cell? ⟨S + 1, 7, none⟩ = some (.slice none 0 0) := HKB5.out.cell 7
      have d8 : w5.cell? ⟨S + 1, 8, none⟩ = some (.slice none 0 0) := HKB5.out.cell 8
      have d9 : w5.cell? ⟨S + 1, 9, none⟩ = some (.slice none 0 0) := HKB5.out.cell 9
      have d10 : w5.cell? ⟨S + 1, 10, none⟩ = some (.int .i64 0) := HKB5.out.cell 10
      have d11 : w5.cell? ⟨S + 1, 11, none⟩ = some (.int .i64 0) := HKB5.out.cell 11
      have fzd : ∀ o, w5.frozen? ⟨S + 1, o, none⟩ = false := fun o => HKB5.out.frozen o
      go_wp2_with fail
      have HKF := Lib.hid (blk_st12 (HKB5.out) (.slice ad nd cd) (.slice ai ni ci) (.slice an nn cn) (.slice av nv cv) (.slice ta L.length tc) (.int .i64 (i1 : Int)) (.int .u32 (g + 2 ^ d)) (.slice af nf cf) (.slice ac nc cc) (.slice ao no co) (.int .i64 lm) (.int .i64 (e1 : Int)))
      have HBF := Lib.hid (below_st12 (HB5.out) (b := S + 1) (by have := HSW.out; omega) (.slice ad nd cd) (.slice ai ni ci) (.slice an nn cn) (.slice av nv cv) (.slice ta L.length tc) (.int .i64 (i1 : Int)) (.int .u32 (g + 2 ^ d)) (.slice af nf cf) (.slice ac nc cc) (.slice ao no co) (.int .i64 lm) (.int .i64 (e1 : Int)))
      generalize ((((((((((((w5.setCell ⟨S + 1, 0, none⟩ (.slice ad nd cd)).setCell ⟨S + 1, 1, none⟩ (.slice ai ni ci)).setCell ⟨S + 1, 2, none⟩ (.slice an nn cn)).setCell ⟨S + 1, 3, none⟩ (.slice av nv cv)).setCell ⟨S + 1, 4, none⟩ (.slice ta L.length tc)).setCell ⟨S + 1, 5, none⟩ (.int .i64 (i1 : Int))).setCell ⟨S + 1, 6, none⟩ (.int .u32 (g + 2 ^ d))).setCell ⟨S + 1, 7, none⟩ (.slice af nf cf)).setCell ⟨S + 1, 8, none⟩ (.slice ac nc cc)).setCell ⟨S + 1, 9, none⟩ (.slice ao no co)).setCell ⟨S + 1, 10, none⟩ (.int .i64 lm)).setCell ⟨S + 1, 11, none⟩ (.int .i64 (e1 : Int))) = Wf at *
      have z0 : Wf.cell? ⟨S + 1, 0, none⟩ = some (.slice ad nd cd) := HKF.out.cell 0
      have z1 : Wf.cell? ⟨S + 1, 1, none⟩ = some (.slice ai ni ci) := HKF.out.cell 1
      have z2 : Wf.cell? ⟨S + 1, 2, none⟩ = some (.slice an nn cn) := HKF.out.cell 2
      have z3 : Wf.cell? ⟨S + 1, 3, none⟩ = some (.slice av nv cv) := HKF.out.cell 3
      have z4 : Wf.cell? ⟨S + 1, 4, none⟩ = some (.slice ta L.length tc) := HKF.out.cell 4
      have z5 : Wf.cell? ⟨S + 1, 5, none⟩ = some (.int .i64 (i1 : Int)) := HKF.out.cell 5
      have z6 : Wf.cell? ⟨S + 1, 6, none⟩ = some (.int .u32 (g + 2 ^ d)) := HKF.out.cell 6
      have z7 : Wf.cell? ⟨S + 1, 7, none⟩ = some (.slice af nf cf) := HKF.out.cell 7
      have z8 : Wf.cell? ⟨S + 1, 8, none⟩ = some (.slice ac nc cc) := HKF.out.cell 8
      have z9 : Wf.cell? ⟨S + 1, 9, none⟩ = some (.slice ao no co) := HKF.out.cell 9
      have z10 : Wf.cell? ⟨S + 1, 10, none⟩ = some (.int .i64 lm) := HKF.out.cell 10
      have z11 : Wf.cell? ⟨S + 1, 11, none⟩ = some (.int .i64 (e1 : Int)) := HKF.out.cell 11
      refine bodyPost_ret (v := .agg #[.slice ad nd cd, .slice ai ni ci, .slice an nn cn, .slice av nv cv, .slice ta L.length tc, .int .i64 (i1 : Int), .int .u32 (g + 2 ^ d), .slice af nf cf, .slice ac nc cc, .slice ao no co, .int .i64 lm, .int .i64 (e1 : Int)]) (by simp [results, Try.results75, go_sem, z0, z1, z2, z3, z4, z5, z6, z7, z8, z9, z10, z11]) rfl ?_
      rw [HRR.out]
      refine ⟨⟨af, nf, cf, ac, nc, cc, ao, no, co⟩, fl, rfl, fun wx hag => ?_, by rw [HSW.out]; exact HBF.out⟩
      have h := HSG.out wx (hag.old (by rw [HSW.out]; exact HBF.out))
      exact ⟨group_qry h.q ⟨HBO.out.2.1, HG32.out⟩, h.fs, HBO.out.2, fun he => by obtain ⟨k1, k2, -⟩ := HPA.out.2.2.1 he; obtain ⟨k3, k4, k5⟩ := h.len k1; dsimp only at *; omega, HPA.out.1⟩
    · have hb2 : g / 2 ^ d % 2 = 1 := by have h := HBI.out; unfold inM at h; exact of_decide_eq_true h
      have HRR : Hid (r = p9) := Lib.hid (by rw [HGR.out, if_pos ⟨H0.out, hb2⟩])
      clear hb2
      go_wp2_with fail
      refine (HFA.out _).mono ?_; rintro e w3 ⟨rfl, hb3⟩
      have HB3 := Lib.hid (HB2.out.trans (hb3.mono (by have := HB2.out.size; have := HSW.out; omega)))
      have HKC := Lib.hid (HKB.out.below hb3 HKB.out.lt)
      clear hb3
      clear y0 y1 y2 y3 y4 y5 y6 y7 y8 y9 y10 y11
      clear c0 c1 c2 c3 c4 c5 c6 c7 c8 c9 c10 c11
      have d0 : w3.cell? ⟨S + 1, 0, none⟩ = some (.slice none 0 0) := HKC.out.cell 0
      have d1 : w3.cell? ⟨S + 1, 1, none⟩ = some (.slice none 0 0) := HKC.out.cell 1
      have d2 : w3.cell? ⟨S + 1, 2, none⟩ = some (.slice none 0 0) := HKC.out.cell 2
      have d3 : w3.cell? ⟨S + 1, 3, none⟩ = some (.slice none 0 0) := HKC.out.cell 3
      have d4 : w3.cell? ⟨S + 1, 4, none⟩ = some (.slice none 0 0) := HKC.out.cell 4
      have d5 : w3.cell? ⟨S + 1, 5, none⟩ = some (.int .i64 0) := HKC.out.cell 5
      have d6 : w3.cell? ⟨S + 1, 6, none⟩ = some (.int .u32 0) := HKC.out.cell 6
      have d7 : w3.cell? ⟨S + 1, 7, none⟩ = some (.slice none 0 0) := HKC.out.cell 7
      have d8 : w3.cell? ⟨S + 1, 8, none⟩ = some (.slice none 0 0) := HKC.out.cell 8
      have d9 : w3.cell? ⟨S + 1, 9, none⟩ = some (.slice none 0 0) := HKC.out.cell 9
      have d10 : w3.cell? ⟨S + 1, 10, none⟩ = some (.int .i64 0) := HKC.out.cell 10
      have d11 : w3.cell? ⟨S + 1, 11, none⟩ = some (.int .i64 0) := HKC.out.cell 11
      have fzd : ∀ o, w3.frozen? ⟨S + 1, o, none⟩ = false := fun o => HKC.out.frozen o
      go_wp2_with fail
      have HKF := Lib.hid (blk_st12 (HKC.out) (.slice ad nd cd) (.slice ai ni ci) (.slice an nn cn) (.slice av nv cv) (.slice ta L.length tc) (.int .i64 (p9.at' : Int)) (.int .u32 p9.q.group) (.slice af nf cf) (.slice ac nc cc) (.slice ao no co) (.int .i64 p9.q.limit) (.int .i64 (p9.err : Int)))
      have HBF := Lib.hid (below_st12 (HB3.out) (b := S + 1) (by have := HSW.out; omega) (.slice ad nd cd) (.slice ai ni ci) (.slice an nn cn) (.slice av nv cv) (.slice ta L.length tc) (.int .i64 (p9.at' : Int)) (.int .u32 p9.q.group) (.slice af nf cf) (.slice ac nc cc) (.slice ao no co) (.int .i64 p9.q.limit) (.int .i64 (p9.err : Int)))
      generalize ((((((((((((w3.setCell ⟨S + 1, 0, none⟩ (.slice ad nd cd)).setCell ⟨S + 1, 1, none⟩ (.slice ai ni ci)).setCell ⟨S + 1, 2, none⟩ (.slice an nn cn)).setCell ⟨S + 1, 3, none⟩ (.slice av nv cv)).setCell ⟨S + 1, 4, none⟩ (.slice ta L.length tc)).setCell ⟨S + 1, 5, none⟩ (.int .i64 (p9.at' : Int))).setCell ⟨S + 1, 6, none⟩ (.int .u32 p9.q.group)).setCell ⟨S + 1, 7, none⟩ (.slice af nf cf)).setCell ⟨S + 1, 8, none⟩ (.slice ac nc cc)).setCell ⟨S + 1, 9, none⟩ (.slice ao no co)).setCell ⟨S + 1, 10, none⟩ (.int .i64 p9.q.limit)).setCell ⟨S + 1, 11, none⟩ (.int .i64 (p9.err : Int))) = Wf at *
      have z0 : Wf.cell? ⟨S + 1, 0, none⟩ = some (.slice ad nd cd) := HKF.out.cell 0
      have z1 : Wf.cell? ⟨S + 1, 1, none⟩ = some (.slice ai ni ci) := HKF.out.cell 1
      have z2 : Wf.cell? ⟨S + 1, 2, none⟩ = some (.slice an nn cn) := HKF.out.cell 2
      have z3 : Wf.cell? ⟨S + 1, 3, none⟩ = some (.slice av nv cv) := HKF.out.cell 3
      have z4 : Wf.cell? ⟨S + 1, 4, none⟩ = some (.slice ta L.length tc) := HKF.out.cell 4
      have z5 : Wf.cell? ⟨S + 1, 5, none⟩ = some (.int .i64 (p9.at' : Int)) := HKF.out.cell 5
      have z6 : Wf.cell? ⟨S + 1, 6, none⟩ = some (.int .u32 p9.q.group) := HKF.out.cell 6
      have z7 : Wf.cell? ⟨S + 1, 7, none⟩ = some (.slice af nf cf) := HKF.out.cell 7
      have z8 : Wf.cell? ⟨S + 1, 8, none⟩ = some (.slice ac nc cc) := HKF.out.cell 8
      have z9 : Wf.cell? ⟨S + 1, 9, none⟩ = some (.slice ao no co) := HKF.out.cell 9
      have z10 : Wf.cell? ⟨S + 1, 10, none⟩ = some (.int .i64 p9.q.limit) := HKF.out.cell 10
      have z11 : Wf.cell? ⟨S + 1, 11, none⟩ = some (.int .i64 (p9.err : Int)) := HKF.out.cell 11
      refine bodyPost_ret (v := .agg #[.slice ad nd cd, .slice ai ni ci, .slice an nn cn, .slice av nv cv, .slice ta L.length tc, .int .i64 (p9.at' : Int), .int .u32 p9.q.group, .slice af nf cf, .slice ac nc cc, .slice ao no co, .int .i64 p9.q.limit, .int .i64 (p9.err : Int)]) (by simp [results, Try.results75, go_sem, z0, z1, z2, z3, z4, z5, z6, z7, z8, z9, z10, z11]) rfl ?_
      rw [HRR.out]
      refine ⟨⟨af, nf, cf, ac, nc, cc, ao, no, co⟩, fl, rfl, fun wx hag => ?_, by rw [HSW.out]; exact HBF.out⟩
      have h := HSG.out wx (hag.old (by rw [HSW.out]; exact HBF.out))
      have h9 := fail_at ⟨i, ⟨g, fq, cq, oq, lm⟩, er⟩ 9
      have h10 : (failR ⟨i, ⟨g, fq, cq, oq, lm⟩, er⟩ 9).err ≠ 0 := fail_err (by decide)
      rw [HP9.out] at h9 h10
      exact h.same h9.2 (by rw [h9.1]; exact HST.out.at') (fun he => absurd he h10)
  · have t0 : ((e1 : Int) == 0) = false := by simp; omega
    have HRR : Hid (r = ⟨i1, ⟨g, fq, cq, oq, lm⟩, e1⟩) := Lib.hid (by rw [HGR.out, if_neg (fun h => h0 h.1), if_neg h0])
    have H0 := Lib.hid h0
    clear h0
    clear c0 c1 c2 c3 c4 c5 c6 c7 c8 c9 c10 c11
    have d0 : w2.cell? ⟨S + 1, 0, none⟩ = some (.slice none 0 0) := HKB.out.cell 0
    have d1 : w2.cell? ⟨S + 1, 1, none⟩ = some (.slice none 0 0) := HKB.out.cell 1
    have d2 : w2.cell? ⟨S + 1, 2, none⟩ = some (.slice none 0 0) := HKB.out.cell 2
    have d3 : w2.cell? ⟨S + 1, 3, none⟩ = some (.slice none 0 0) := HKB.out.cell 3
    have d4 : w2.cell? ⟨S + 1, 4, none⟩ = some (.slice none 0 0) := HKB.out.cell 4
    have d5 : w2.cell? ⟨S + 1, 5, none⟩ = some (.int .i64 0) := HKB.out.cell 5
    have d6 : w2.cell? ⟨S + 1, 6, none⟩ = some (.int .u32 0) := HKB.out.cell 6
    have d7 : w2.cell? ⟨S + 1, 7, none⟩ = some (.slice none 0 0) := HKB.out.cell 7
    have d8 : w2.cell? ⟨S + 1, 8, none⟩ = some (.slice none 0 0) := HKB.out.cell 8
    have d9 : w2.cell? ⟨S + 1, 9, none⟩ = some (.slice none 0 0) := HKB.out.cell 9
    have d10 : w2.cell? ⟨S + 1, 10, none⟩ = some (.int .i64 0) := HKB.out.cell 10
    have d11 : w2.cell? ⟨S + 1, 11, none⟩ = some (.int .i64 0) := HKB.out.cell 11
    have fzd : ∀ o, w2.frozen? ⟨S + 1, o, none⟩ = false := fun o => HKB.out.frozen o
    go_wp2_with fail
    have HKF := Lib.hid (blk_st12 (HKB.out) (.slice ad nd cd) (.slice ai ni ci) (.slice an nn cn) (.slice av nv cv) (.slice ta L.length tc) (.int .i64 (i1 : Int)) (.int .u32 g) (.slice af nf cf) (.slice ac nc cc) (.slice ao no co) (.int .i64 lm) (.int .i64 (e1 : Int)))
    have HBF := Lib.hid (below_st12 (HB2.out) (b := S + 1) (by have := HSW.out; omega) (.slice ad nd cd) (.slice ai ni ci) (.slice an nn cn) (.slice av nv cv) (.slice ta L.length tc) (.int .i64 (i1 : Int)) (.int .u32 g) (.slice af nf cf) (.slice ac nc cc) (.slice ao no co) (.int .i64 lm) (.int .i64 (e1 : Int)))
    generalize ((((((((((((w2.setCell ⟨S + 1, 0, none⟩ (.slice ad nd cd)).setCell ⟨S + 1, 1, none⟩ (.slice ai ni ci)).setCell ⟨S + 1, 2, none⟩ (.slice an nn cn)).setCell ⟨S + 1, 3, none⟩ (.slice av nv cv)).setCell ⟨S + 1, 4, none⟩ (.slice ta L.length tc)).setCell ⟨S + 1, 5, none⟩ (.int .i64 (i1 : Int))).setCell ⟨S + 1, 6, none⟩ (.int .u32 g)).setCell ⟨S + 1, 7, none⟩ (.slice af nf cf)).setCell ⟨S + 1, 8, none⟩ (.slice ac nc cc)).setCell ⟨S + 1, 9, none⟩ (.slice ao no co)).setCell ⟨S + 1, 10, none⟩ (.int .i64 lm)).setCell ⟨S + 1, 11, none⟩ (.int .i64 (e1 : Int))) = Wf at *
    have z0 : Wf.cell? ⟨S + 1, 0, none⟩ = some (.slice ad nd cd) := HKF.out.cell 0
    have z1 : Wf.cell? ⟨S + 1, 1, none⟩ = some (.slice ai ni ci) := HKF.out.cell 1
    have z2 : Wf.cell? ⟨S + 1, 2, none⟩ = some (.slice an nn cn) := HKF.out.cell 2
    have z3 : Wf.cell? ⟨S + 1, 3, none⟩ = some (.slice av nv cv) := HKF.out.cell 3
    have z4 : Wf.cell? ⟨S + 1, 4, none⟩ = some (.slice ta L.length tc) := HKF.out.cell 4
    have z5 : Wf.cell? ⟨S + 1, 5, none⟩ = some (.int .i64 (i1 : Int)) := HKF.out.cell 5
    have z6 : Wf.cell? ⟨S + 1, 6, none⟩ = some (.int .u32 g) := HKF.out.cell 6
    have z7 : Wf.cell? ⟨S + 1, 7, none⟩ = some (.slice af nf cf) := HKF.out.cell 7
    have z8 : Wf.cell? ⟨S + 1, 8, none⟩ = some (.slice ac nc cc) := HKF.out.cell 8
    have z9 : Wf.cell? ⟨S + 1, 9, none⟩ = some (.slice ao no co) := HKF.out.cell 9
    have z10 : Wf.cell? ⟨S + 1, 10, none⟩ = some (.int .i64 lm) := HKF.out.cell 10
    have z11 : Wf.cell? ⟨S + 1, 11, none⟩ = some (.int .i64 (e1 : Int)) := HKF.out.cell 11
    refine bodyPost_ret (v := .agg #[.slice ad nd cd, .slice ai ni ci, .slice an nn cn, .slice av nv cv, .slice ta L.length tc, .int .i64 (i1 : Int), .int .u32 g, .slice af nf cf, .slice ac nc cc, .slice ao no co, .int .i64 lm, .int .i64 (e1 : Int)]) (by simp [results, Try.results75, go_sem, z0, z1, z2, z3, z4, z5, z6, z7, z8, z9, z10, z11]) rfl ?_
    rw [HRR.out]
    refine ⟨⟨af, nf, cf, ac, nc, cc, ao, no, co⟩, fl, rfl, fun wx hag => ?_, by rw [HSW.out]; exact HBF.out⟩
    exact (HSG.out wx (hag.old (by rw [HSW.out]; exact HBF.out))).same rfl HPA.out.1 (fun he => absurd he H0.out)
end Go.Proofs.Ytaofjnidniekjaa
