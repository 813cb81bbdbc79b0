/- The query that the reader of package parse builds, in memory; what a column, a name and an order add to it. Conditions: those stated. -/
import Derived.Test.YtaofjnidniekjaaParS
namespace Go.Proofs.Ytaofjnidniekjaa
open Go.RowKit

theorem own_other {w w' : World} {B1 B2 s1 s2 n1 n2 : Nat} {e1 e2 : TypeId} {v1 v2 : Value} {c1 c2 : List Value} (h1 : w.ownsRow B1 e1 s1 v1 n1 c1) (h2 : w.ownsRow B2 e2 s2 v2 n2 c2) (hne : e1 ≠ e2) (hg : w.grownBy w' v2.ownBlock) : w'.ownsRow B1 e1 s1 v1 n1 c1 := by
  refine ⟨h1.1, ?_⟩
  rcases h1.2 with h | ⟨g, cap, cur, hv, hB, hh, r⟩
  · exact .inl h
  refine .inr ⟨g, cap, cur, hv, hB, ?_, r⟩
  rw [hg.block g (Array.getElem?_eq_some_iff.1 hh).1 ?_]
  · exact hh
  intro he
  rcases h2.2 with ⟨h, _⟩ | ⟨g2, cap2, cur2, hv2, _, hh2, _⟩
  · rw [h] at he; cases he
  · rw [hv2] at he
    have : g = g2 := by simpa [Value.ownBlock] using he
    subst this
    rw [hh] at hh2
    injection hh2 with h3
    injection h3 with _ h4 _
    exact hne h4
theorem blk_other {w w' : World} {g B2 s2 n2 : Nat} {t e2 : TypeId} {cs : Array Value} {v2 : Value} {c2 : List Value} (h1 : Blk w g t cs) (h2 : w.ownsRow B2 e2 s2 v2 n2 c2) (hne : t ≠ e2) (hg : w.grownBy w' v2.ownBlock) : Blk w' g t cs := by
  refine h1.grown hg ?_
  intro he
  rcases h2.2 with ⟨h, _⟩ | ⟨g2, cap2, cur2, hv2, _, hh2, _⟩
  · rw [h] at he; cases he
  · rw [hv2] at he
    have : g = g2 := by simpa [Value.ownBlock] using he
    subst this
    unfold Blk at h1
    rw [h1] at hh2
    injection hh2 with h3
    injection h3 with _ h4 _
    exact hne h4
theorem own_set {w : World} {R B s n : Nat} {e : TypeId} {v : Value} {cs : List Value} (h : w.ownsRow B e s v n cs) (hB : R < B) (k : Nat) (u : Value) : (w.setCell ⟨R, k, none⟩ u).ownsRow B e s v n cs := by
  refine ⟨h.1, ?_⟩
  rcases h.2 with h | ⟨g, cap, cur, hv, hg, hh, r⟩
  · exact .inl h
  · refine .inr ⟨g, cap, cur, hv, hg, ?_, r⟩
    rw [Below.heap_setCell _ _ _ _ (by show g ≠ R; omega)]; exact hh
/-- a query's rows, the reader at place i -/
structure QR (C : RC) (i : Nat) (q : QP) (vf vc vo : Value) (fl : List Flt) (w : World) : Prop where
  bl : Below C.R C.w0 w
  rd : Rd C w i (.int .u32 q.group) vf vc vo (.int .i64 q.limit)
  rf : w.ownsRow (C.R + 1) 69 2 vf fl.length (fltCells fl)
  rc : w.ownsRow (C.R + 1) 66 2 vc q.cols.length (colCells q.cols)
  ro : w.ownsRow (C.R + 1) 71 2 vo q.ord.length (ordCells q.ord)
  rk : ∀ f ∈ fl, f.codes.length = f.n ∧ w.ownsRow (C.R + 1) 3 1 (.slice f.a f.n f.c) f.n (f.codes.map (Value.int .i64))
  fs : fl.map (fun f => (f.dim, f.codes)) = q.flts
  len : q.cols.length ≤ i ∧ q.ord.length ≤ i ∧ fl.length ≤ i
  grp : 0 ≤ q.group ∧ q.group < 2 ^ C.s.dims.length
  pc : ∀ c ∈ q.cols, I64 c.1 ∧ I64 c.2
  po : ∀ o ∈ q.ord, I64 o.1
  lim : I64 q.limit
  flt : ∀ f ∈ fl, I64 f.dim ∧ ∀ x ∈ f.codes, I64 x
theorem QR.mv {C : RC} {i j : Nat} {q : QP} {vf vc vo : Value} {fl : List Flt} {w w' : World} (h : QR C i q vf vc vo fl w) (hm : Mv C i j w w') (hij : i ≤ j) : QR C j q vf vc vo fl w' :=
  ⟨hm.kp.below h.bl h.rd.lt, hm.rd _ _ _ _ _ h.rd, hm.kp.own h.rf (Nat.lt_succ_self _), hm.kp.own h.rc (Nat.lt_succ_self _), hm.kp.own h.ro (Nat.lt_succ_self _), fun f hf => ⟨(h.rk f hf).1, hm.kp.own (h.rk f hf).2 (Nat.lt_succ_self _)⟩, h.fs,
    ⟨Nat.le_trans h.len.1 hij, Nat.le_trans h.len.2.1 hij, Nat.le_trans h.len.2.2 hij⟩, h.grp, h.pc, h.po, h.lim, h.flt⟩
theorem QR.drew {C : RC} {i : Nat} {q : QP} {vf vc vo : Value} {fl : List Flt} {w : World} (h : QR C i q vf vc vo fl w) : QR C i q vf vc vo fl w.drew :=
  ⟨blk_d h.bl, h.rd, h.rf, h.rc, h.ro, h.rk, h.fs, h.len, h.grp, h.pc, h.po, h.lim, h.flt⟩
theorem QR.at' {C : RC} {i : Nat} {q : QP} {vf vc vo : Value} {fl : List Flt} {w : World} (h : QR C i q vf vc vo fl w) : RAt C i w := ⟨h.bl, _, _, _, _, _, h.rd⟩
theorem colCells_push : ∀ (l : List (Int × Int)) (x : Int × Int), colCells (l ++ [x]) = colCells l ++ [.int .i64 x.1, .int .i64 x.2]
  | [], _ => rfl
  | y :: l, x => by rw [List.cons_append]; unfold colCells; rw [colCells_push l x]; rfl
theorem ordCells_push : ∀ (l : List (Int × Bool)) (x : Int × Bool), ordCells (l ++ [x]) = ordCells l ++ [.int .i64 x.1, .bool x.2]
  | [], _ => rfl
  | y :: l, x => by rw [List.cons_append]; unfold ordCells; rw [ordCells_push l x]; rfl
theorem fltCells_push : ∀ (l : List Flt) (x : Flt), fltCells (l ++ [x]) = fltCells l ++ [.int .i64 x.dim, .slice x.a x.n x.c]
  | [], _ => rfl
  | y :: l, x => by rw [List.cons_append]; unfold fltCells; rw [fltCells_push l x]; rfl
theorem QR.pushC {C : RC} {j : Nat} {q : QP} {vf vc vo v' : Value} {fl : List Flt} {w w' : World} (h : QR C j q vf vc vo fl w) (x : Int × Int) (hx : I64 x.1 ∧ I64 x.2) (hl : q.cols.length + 1 ≤ j)
    (ho : w'.ownsRow (C.R + 1) 66 2 v' (q.cols.length + 1) (colCells q.cols ++ [.int .i64 x.1, .int .i64 x.2])) (hg : w.grownBy w' vc.ownBlock) (hb : Below C.R C.w0 w') :
    QR C j { q with cols := q.cols ++ [x] } vf v' vo fl (w'.setCell ⟨C.R, 8, none⟩ v') := by
  have hlt := Nat.lt_succ_self C.R
  refine ⟨below_set hb (Nat.le_refl _) _, ?_, own_set (own_other h.rf h.rc (by decide) hg) hlt _ _, ?_, own_set (own_other h.ro h.rc (by decide) hg) hlt _ _, fun f hf => ⟨(h.rk f hf).1, own_set (own_other (h.rk f hf).2 h.rc (by decide) hg) hlt _ _⟩, h.fs, ?_, h.grp, ?_, h.po, h.lim, h.flt⟩
  · exact ((blk_other h.rd h.rc (by decide) hg).set_ 8 v').to rfl
  · have := own_set ho hlt 8 v'
    rw [← colCells_push] at this
    simpa using this
  · refine ⟨by simpa using hl, h.len.2⟩
  · intro c hc
    rcases List.mem_append.1 hc with hc | hc
    · exact h.pc c hc
    · rw [List.mem_singleton.1 hc]; exact hx
theorem QR.pushO {C : RC} {j : Nat} {q : QP} {vf vc vo v' : Value} {fl : List Flt} {w w' : World} (h : QR C j q vf vc vo fl w) (x : Int × Bool) (hx : I64 x.1) (hl : q.ord.length + 1 ≤ j)
    (ho : w'.ownsRow (C.R + 1) 71 2 v' (q.ord.length + 1) (ordCells q.ord ++ [.int .i64 x.1, .bool x.2])) (hg : w.grownBy w' vo.ownBlock) (hb : Below C.R C.w0 w') :
    QR C j { q with ord := q.ord ++ [x] } vf vc v' fl (w'.setCell ⟨C.R, 9, none⟩ v') := by
  have hlt := Nat.lt_succ_self C.R
  refine ⟨below_set hb (Nat.le_refl _) _, ?_, own_set (own_other h.rf h.ro (by decide) hg) hlt _ _, own_set (own_other h.rc h.ro (by decide) hg) hlt _ _, ?_, fun f hf => ⟨(h.rk f hf).1, own_set (own_other (h.rk f hf).2 h.ro (by decide) hg) hlt _ _⟩, h.fs, ?_, h.grp, h.pc, ?_, h.lim, h.flt⟩
  · exact ((blk_other h.rd h.ro (by decide) hg).set_ 9 v').to rfl
  · have := own_set ho hlt 9 v'
    rw [← ordCells_push] at this
    simpa using this
  · refine ⟨h.len.1, by simpa using hl, h.len.2.2⟩
  · intro c hc
    rcases List.mem_append.1 hc with hc | hc
    · exact h.po c hc
    · rw [List.mem_singleton.1 hc]; exact hx
theorem QR.pushF {C : RC} {j : Nat} {q : QP} {vf vc vo v' : Value} {fl : List Flt} {w w' : World} (h : QR C j q vf vc vo fl w) (x : Flt) (hx : I64 x.dim ∧ ∀ y ∈ x.codes, I64 y) (hxc : x.codes.length = x.n) (hxr : w.ownsRow (C.R + 1) 3 1 (.slice x.a x.n x.c) x.n (x.codes.map (Value.int .i64))) (hl : fl.length + 1 ≤ j)
    (ho : w'.ownsRow (C.R + 1) 69 2 v' (fl.length + 1) (fltCells fl ++ [.int .i64 x.dim, .slice x.a x.n x.c])) (hg : w.grownBy w' vf.ownBlock) (hb : Below C.R C.w0 w') :
    QR C j { q with flts := q.flts ++ [(x.dim, x.codes)] } v' vc vo (fl ++ [x]) (w'.setCell ⟨C.R, 7, none⟩ v') := by
  have hlt := Nat.lt_succ_self C.R
  refine ⟨below_set hb (Nat.le_refl _) _, ?_, ?_, own_set (own_other h.rc h.rf (by decide) hg) hlt _ _, own_set (own_other h.ro h.rf (by decide) hg) hlt _ _, fun f hf => ?_, ?_, ?_, h.grp, h.pc, h.po, h.lim, fun f hf => ?_⟩
  · exact ((blk_other h.rd h.rf (by decide) hg).set_ 7 v').to rfl
  · have := own_set ho hlt 7 v'
    rw [← fltCells_push] at this
    simpa using this
  · rcases List.mem_append.1 hf with hf | hf
    · exact ⟨(h.rk f hf).1, own_set (own_other (h.rk f hf).2 h.rf (by decide) hg) hlt _ _⟩
    · rw [List.mem_singleton.1 hf]; exact ⟨hxc, own_set (own_other hxr h.rf (by decide) hg) hlt _ _⟩
  · rw [List.map_append, h.fs]; rfl
  · refine ⟨h.len.1, h.len.2.1, by simpa using hl⟩
  · rcases List.mem_append.1 hf with hf | hf
    · exact h.flt f hf
    · rw [List.mem_singleton.1 hf]; exact hx
/-- the query so far, and the place of the reader in a box -/
def QB (C : RC) (bx : Nat) (i : Nat) (q : QP) (w : World) : Prop := (∃ vf vc vo fl, QR C i q vf vc vo fl w) ∧ Blk w bx 76 #[.pointer (some ⟨C.R, 0, none⟩)] ∧ C.R < bx
theorem QB.mv {C : RC} {bx i j : Nat} {q : QP} {w w' : World} (hij : i ≤ j) (h : QB C bx i q w) (hm : Mv C i j w w') : QB C bx j q w' := by
  obtain ⟨⟨vf, vc, vo, fl, h1⟩, h2, h3⟩ := h
  exact ⟨⟨vf, vc, vo, fl, h1.mv hm hij⟩, hm.kp.blk h2 (by omega), h3⟩
theorem QB.at' {C : RC} {bx i : Nat} {q : QP} {w : World} (h : QB C bx i q w) : RAt C i w := by
  obtain ⟨⟨vf, vc, vo, fl, h1⟩, _⟩ := h
  exact h1.at'
theorem info_col : (Try.prog.info? 66).map (fun i => (i.zero, i.size, i.bytes)) = some (some (.agg #[.int .i64 0, .int .i64 0]), 2, 16) := by kernel_rfl
theorem info_sort : (Try.prog.info? 71).map (fun i => (i.zero, i.size, i.bytes)) = some (some (.agg #[.int .i64 0, .bool false]), 2, 16) := by kernel_rfl
theorem info_flt : (Try.prog.info? 69).map (fun i => (i.zero, i.size, i.bytes)) = some (some (.agg #[.int .i64 0, .slice none 0 0]), 2, 32) := by kernel_rfl
end Go.Proofs.Ytaofjnidniekjaa
