/- The contract of bushelref15's With at lists of at most one cell: printed by gen_dbk.py. Conditions: cells of facts. -/
import Derived.Test.YtehmompbmnejkaaGreatDbJ
import Derived.Test.YtehmompbmnejkaaGreatMRs1
namespace Go.Proofs.YtehmompbmnejkaaGreat
open Go.RowKit Ieee
attribute [local go_sem] run_store_float

def cellC (l : CellL) (c : CellV) : List Value := [.int .u64 c.key, .int .i64 c.count, .slice l.ai l.ni l.ci, .slice l.an l.nn l.cn]
/-- a list of one cell -/
def RowOne (w : World) (a : Option Addr) (cap : Nat) (l : CellL) (c : CellV) : Prop := RowG 4 w a 1 cap (cellC l c) ∧ CellAt w l c
theorem RowOne.below {w w' : World} {a : Option Addr} {cap B : Nat} {l : CellL} {c : CellV} (h : RowOne w a cap l c) (hb : Below B w w') (hB : w.heap.size ≤ B) : RowOne w' a cap l c := ⟨h.1.below hb hB, h.2.below hb hB⟩
/-- the answer: a list of one cell of k facts, or an error -/
def RWith (k : Int) (ni nn : Nat) (w : World) (e : Ending) (w' : World) : Prop := ∃ (a : Option Addr) (n cap : Nat) (er : Int), e = .returned (.tuple #[.slice a n cap, .int .i64 er]) ∧ (er = 0 → n = 1 ∧ ∃ l c, RowOne w' a cap l c ∧ CInv k ni nn c) ∧ Below w.heap.size w w'
theorem own_zero (w : World) (e : TypeId) (sz : Nat) : (w.alloc (.cells #[] e)).ownsRow w.heap.size e sz (.slice (some ⟨w.heap.size, 0, none⟩) 0 0) 0 [] :=
 ⟨by simp, .inr ⟨w.heap.size, 0, #[], rfl, Nat.le_refl _, heap_alloc_new w _, Nat.le_refl _, Nat.zero_le _, by simp, by simp⟩⟩
theorem rowG_none (sz : Nat) (w : World) : RowG sz w none 0 0 [] := ⟨by simp, Nat.le_refl _, Nat.zero_le _, .inl rfl⟩

/-- one element is appended to a slice that has no room -/
theorem step_append_zero {t e : TypeId} {z : Value} {sz bytes : Nat} (hinfo : (Tryz.prog.info? e).map (fun i => (i.zero, i.size, i.bytes)) = some (some z, sz, bytes)) (hzs : z.cells.size = sz) (ht : Tryz.prog.underlying t = some (.slice e))
  {ops : Array Oper} {o : Oper} {a : Act} {K : Act → World → Prop} {Q : Exit → Act → World → Prop} {E : Prop} (hgd : o.guard = none) (s x : Operand)
  (ho : o.op = .call { callee := .builtin .append, args := #[s, x], argTypes := #[t, t] })
  (wr : World) (T : TypeId) (us : Array Value) (b : Addr) (hus : us.size = sz) (hs : a.eval s = .slice (some b) 0 0) (hx : a.eval x = .slice (some ⟨wr.heap.size, 0, none⟩) 1 1) (hlen : bytes ≤ 140737488355328)
  (h : ∀ g cap w', w'.ownsRow wr.heap.size e sz (.slice (some ⟨g, 0, none⟩) 1 cap) 1 us.toList → Below wr.heap.size wr w' → K (a.put o.dst (.slice (some ⟨g, 0, none⟩) 1 cap)) w') :
  if Region.wanted o (yielded ops a.tmps) = true then Oper.wp Tryz.prog o a (wr.alloc (.cells us T)) K Q else E := by
 have hw : Region.wanted o (yielded ops a.tmps) = true := by simp [Region.wanted, hgd]
 rw [if_pos hw]
 obtain ⟨i, hi, hz0, hz1, hz2⟩ := info_parts hinfo
 have hr := run_append_grow (P := Tryz.prog) (w := wr.alloc (.cells us T)) t o.type e i z ht hi hz0 b 0 0 [] (by simp) (by intro j v hj; simp at hj) ⟨wr.heap.size, 0, none⟩ 1 1 us.toList (by rw [Array.length_toList, hus, Nat.one_mul, hz1]) (World.news_of_block (heap_alloc_new wr _)) (by omega) (by omega) (growslice_fits (by omega) (by rw [hz2]; omega))
 have hge := grownCap_ge (wr.alloc (.cells us T)) (0 + 1) 0 e
 have hcm : grownCap (wr.alloc (.cells us T)) (0 + 1) 0 e ≤ maxLen := grownCap_le_maxLen _ _ _ _ (by unfold maxLen; omega)
 have hbl : Below wr.heap.size wr (wr.alloc (.cells us T)) := (Below.refl _ _).alloc (Nat.le_refl _) _
 generalize grownCap (wr.alloc (.cells us T)) (0 + 1) 0 e = C at *
 unfold Oper.wp execOp
 simp only [ho, resolve, invoke, builtin, Sem.run_bind, Sem.run_pure, Result.andThen_ok, List.map_toArray, List.map_cons, List.map_nil, hs, hx, hr]
 refine h _ C _ ⟨by rw [Array.length_toList, hus, Nat.one_mul], .inr ⟨(wr.alloc (.cells us T)).heap.size, C, _, rfl, hbl.size, heap_alloc_new (wr.alloc (.cells us T)).drew _, hge, hcm, ?_, ?_⟩⟩ (hbl.drew.alloc hbl.size _)
 ·simp only [Array.size_append, List.size_toArray, size_zeroCells, hzs, hus, List.length_nil, Nat.zero_add]
  rw [Nat.sub_mul, Nat.one_mul]
  have := Nat.mul_le_mul_right sz hge
  rw [Nat.zero_add, Nat.one_mul] at this
  omega
 ·simp [hus]
theorem rowG_zero {w : World} {b o c : Nat} {p : Prop} [Decidable p] (hb : b < w.heap.size) (hc : c ≤ maxLen) (k : Nat) : RowG 4 w (if p then some ⟨b, o, none⟩ else some ⟨b, o + k, none⟩) 0 c [] := by
 refine ⟨by simp, Nat.zero_le _, hc, .inr ?_⟩
 by_cases hp : p
 ·exact ⟨b, o, by rw [if_pos hp], hb, fun i hi => by omega⟩
 ·exact ⟨b, o + k, by rw [if_neg hp], hb, fun i hi => by omega⟩
theorem RowG.set4 {sz : Nat} {w : World} {a : Option Addr} {n cap X : Nat} {cs : List Value} (h : RowG sz w a n cap cs) (hne : 0 < n → ∀ off, a ≠ some ⟨X, off, none⟩) (z0 z1 z2 z3 : Value) :
  RowG sz ((((w.setCell ⟨X, 0, none⟩ z0).setCell ⟨X, 1, none⟩ z1).setCell ⟨X, 2, none⟩ z2).setCell ⟨X, 3, none⟩ z3) a n cap cs := by
 obtain ⟨h1, h2, h3, h4⟩ := h
 refine ⟨h1, h2, h3, ?_⟩
 rcases h4 with h4 | ⟨b, off, e, hlt, hc⟩
 ·exact .inl h4
 ·refine .inr ⟨b, off, e, by simpa using hlt, fun i hi => ?_⟩
  have hn : 0 < n := by
   rcases Nat.eq_zero_or_pos n with h0 | h0
   ·rw [h0, Nat.zero_mul] at hi; omega
   ·exact h0
  have hb : b ≠ X := fun e2 => hne hn off (by rw [e, e2])
  rw [World.cell?_of_block (w := w) (a := ⟨b, off + i, none⟩) ((Below.heap_setCell _ _ _ b hb).trans ((Below.heap_setCell _ _ _ b hb).trans ((Below.heap_setCell _ _ _ b hb).trans (Below.heap_setCell _ _ _ b hb))))]
  exact hc i hi
theorem rowK_set4 {k : IntKind} {w : World} {b n cap n2 c2 n3 c3 : Nat} {t : TypeId} {k0 k1 : Int} {a p2 p3 : Option Addr} {xs : List Int} (h : RowK k w a n cap xs) (hk : Blk w b t #[.int .u64 k0, .int .i64 k1, .slice p2 n2 c2, .slice p3 n3 c3]) (hn : k = .u32 ∨ k = .u8) (z0 z1 z2 z3 : Value) :
  RowK k ((((w.setCell ⟨b, 0, none⟩ z0).setCell ⟨b, 1, none⟩ z1).setCell ⟨b, 2, none⟩ z2).setCell ⟨b, 3, none⟩ z3) a n cap xs := by
 have e0 : ∀ m, Value.int .u64 k0 ≠ .int k m := fun m e => by rcases hn with rfl | rfl <;> cases e
 have e1 : ∀ m, Value.int .i64 k1 ≠ .int k m := fun m e => by rcases hn with rfl | rfl <;> cases e
 have h0 := h.set (hk.cell 0) e0 z0
 have q0 := (hk.set_ 0 z0).to (cs' := #[z0, .int .i64 k1, .slice p2 n2 c2, .slice p3 n3 c3]) rfl
 have h1 := h0.set (q0.cell 1) e1 z1
 have q1 := (q0.set_ 1 z1).to (cs' := #[z0, z1, .slice p2 n2 c2, .slice p3 n3 c3]) rfl
 have h2 := h1.set (q1.cell 2) (fun m e => by cases e) z2
 have q2 := (q1.set_ 2 z2).to (cs' := #[z0, z1, z2, .slice p3 n3 c3]) rfl
 exact h2.set (q2.cell 3) (fun m e => by cases e) z3
/-- a box of a cell of its own is filled: another cell stays -/
theorem CellAt.store4 {w : World} {l : CellL} {c : CellV} {b n2 c2 n3 c3 : Nat} {t : TypeId} {k0 k1 : Int} {p2 p3 : Option Addr} (h : CellAt w l c) (hk : Blk w b t #[.int .u64 k0, .int .i64 k1, .slice p2 n2 c2, .slice p3 n3 c3]) (z0 z1 z2 z3 : Value) :
  CellAt ((((w.setCell ⟨b, 0, none⟩ z0).setCell ⟨b, 1, none⟩ z1).setCell ⟨b, 2, none⟩ z2).setCell ⟨b, 3, none⟩ z3) l c := by
 obtain ⟨h1, h2, h3, h4, h5, h6, h7, h8⟩ := h
 refine ⟨h1.set4 (fun hn off e => ?_) z0 z1 z2 z3, h2, h3.set4 (fun hn off e => ?_) z0 z1 z2 z3, h4, h5, h6, fun x hx => ⟨rowK_set4 (h7 x hx).1 hk (.inl rfl) z0 z1 z2 z3, (h7 x hx).2⟩, fun x hx => ⟨rowK_set4 (h8 x hx).1 hk (.inr rfl) z0 z1 z2 z3, (h8 x hx).2⟩⟩
 ·obtain ⟨b', o', e', -, hc⟩ := h1.at hn
  rw [e'] at e
  obtain ⟨rfl, rfl⟩ : b' = b ∧ o' = off := by simpa using e
  have q := hc 4 (by omega)
  rw [hk.cell, Array.getElem?_eq_none (by show 4 ≤ o' + 4; omega)] at q
  cases q
 ·obtain ⟨b', o', e', -, hc⟩ := h3.at hn
  rw [e'] at e
  obtain ⟨rfl, rfl⟩ : b' = b ∧ o' = off := by simpa using e
  have q := hc 1 (by omega)
  have g := (relCells_get (ds := c.nums) (i := 0) (by omega)).2.1
  rw [show 0 * 3 + 1 = 1 from rfl] at g
  rw [g, hk.cell] at q
  have h6 : o' + 1 = 1 ∨ o' + 1 = 2 ∨ o' + 1 = 3 ∨ 4 ≤ o' + 1 := by omega
  rcases h6 with h6 | h6 | h6 | h6
  ·rw [h6] at q; cases q
  ·rw [h6] at q; cases q
  ·rw [h6] at q; cases q
  ·rw [Array.getElem?_eq_none (by show 4 ≤ o' + 1; exact h6)] at q; cases q
set_option maxRecDepth 100000 in
set_option maxHeartbeats 8000000 in
theorem with_nil (w : World) (lb : CellL) (b : CellV) (j : Int) (ni nn : Nat) (hb : CellAt w lb b) (ib : CInv j ni nn b) :
  Calls Tryz.prog 15 #[.slice none 0 0, lb.val b] w (RWith j ni nn w) := by
 obtain ⟨qb, ky, ys, vs⟩ := b
 have IB := Lib.hid ib
 obtain ⟨p1, -⟩ := ib
 dsimp only at p1
 subst p1
 obtain ⟨hbx, hbw, hsz⟩ := boxed w 47 #[.int .u64 0, .int .i64 ky, .slice lb.ai lb.ni lb.ci, .slice lb.an lb.nn lb.cn]
 have HBB := Lib.hid (hb.below hbw (Nat.le_refl _))
 have HBW := Lib.hid hbw
 have e0 := hbx 0
 have e1 := hbx 1
 have e2 := hbx 2
 have e3 := hbx 3
 simp only [List.getElem?_toArray, List.getElem?_cons_zero, List.getElem?_cons_succ] at e0 e1 e2 e3
 have HSZ := Lib.hid hsz
 have HSZ1 := Lib.hid (show w.heap.size < (w.alloc (.cells #[.int .u64 0, .int .i64 ky, .slice lb.ai lb.ni lb.ci, .slice lb.an lb.nn lb.cn] 47)).heap.size by rw [hsz]; omega)
 clear hb hbw hbx hsz
 unfold CellL.val
 dsimp only
 go_enter Tryz.func15, Tryz.ntmps15
 go_upto_region 1 with fail
 generalize (w.alloc (.cells #[.int .u64 0, .int .i64 ky, .slice lb.ai lb.ni lb.ci, .slice lb.an lb.nn lb.cn] 47)) = w0 at *
 generalize hS : w.heap.size = S at *
 have HSS := Lib.hid hS
 clear hS
 go_wp2_with fail
 go_loopg [6] 0 (fun gg iu wr => iu = .int .i64 0 ∧ gg = 0 ∧ wr = w0)
 case atStart => exact ⟨rfl, rfl, rfl⟩
 case round =>
 obtain ⟨rfl, rfl, rfl⟩ := hrel
 have HS1 := Lib.hid HSZ1.out
 clear HSZ HSZ1
 go_wp2_with fail
 go_quiet (fail)
 go_upto_region 4 with fail
 have HB0 := Lib.hid (sbelow_dn HBW.out nq)
 have hbq : Below wr.heap.size wr (wr.drewN nq) := sbelow_dn (Below.refl _ _) nq
 have HBX := Lib.hid (HBB.out.below hbq (Nat.le_refl _))
 have HS2 : Hid (S < (wr.drewN nq).heap.size) := Lib.hid (Nat.lt_of_lt_of_le HS1.out hbq.size)
 have d0 : (wr.drewN nq).cell? ⟨S, 0, none⟩ = some (.int .u64 0) := e0
 have d1 : (wr.drewN nq).cell? ⟨S, 1, none⟩ = some (.int .i64 ky) := e1
 have d2 : (wr.drewN nq).cell? ⟨S, 2, none⟩ = some (.slice lb.ai lb.ni lb.ci) := e2
 have d3 : (wr.drewN nq).cell? ⟨S, 3, none⟩ = some (.slice lb.an lb.nn lb.cn) := e3
 clear e0 e1 e2 e3 hbq
 generalize wr.drewN nq = v at *
 go_wp2_with fail
 have HOW := Lib.hid (own_zero v 47 4)
 have hb1 : Below v.heap.size v (v.alloc (.cells #[] 47)) := (Below.refl _ _).alloc (Nat.le_refl _) _
 obtain ⟨O, hO⟩ : ∃ O, v.heap.size = O := ⟨_, rfl⟩
 rw [hO] at HOW hb1 HS2
 try rw [hO]
 have HOS := Lib.hid hO
 have HB1 := Lib.hid hb1
 generalize v.alloc (.cells #[] 47) = v1 at *
 clear hO hb1
 go_quiet (fail)
 go_upto_region 10 with fail
 have HOW2 : Hid ((v1.drewN nq).ownsRow O 47 4 (.slice (some ⟨O, 0, none⟩) 0 0) 0 []) := HOW
 have HB2 : Hid (Below O v (v1.drewN nq)) := Lib.hid (sbelow_dn HB1.out nq)
 have HLD : Hid (S < O) := HS2

 refine wp_regionN (fun w' => Below O v w') [] (by kernel_rfl) (by exact HB2.out.drew) (fun hHeld => ?_)
 have HOW3 : Hid (((v1.drewN nq).drew).ownsRow O 47 4 (.slice (some ⟨O, 0, none⟩) 0 0) 0 []) := HOW2
 generalize (v1.drewN nq).drew = v0 at *
 have HB_0 := Lib.hid hHeld
 have HOv : ∀ x, Below O v x → O ≤ x.heap.size := fun x hx => by have := hx.size; rw [HOS.out] at this; exact this
 refine wpAnyN_u 0 ⟨some 66, _, _, _, _, _⟩ _ rfl ?_
 try simp only [Act.put, putA, putB, putC]
 refine wpAnyN_t 1 ⟨some 67, _, _, _, _, _⟩ ?_ rfl ?_ ?_
 rotate_left 1
 ·(intro w hSw; have e0 : w.cell? ⟨S, 0, none⟩ = some (.int .u64 0) := (by rw [(bcell hSw).1 _ _ HLD.out]; exact d0); have e1 : w.cell? ⟨S, 1, none⟩ = some (.int .i64 ky) := (by rw [(bcell hSw).1 _ _ HLD.out]; exact d1); have e2 : w.cell? ⟨S, 2, none⟩ = some (.slice lb.ai lb.ni lb.ci) := (by rw [(bcell hSw).1 _ _ HLD.out]; exact d2); have e3 : w.cell? ⟨S, 3, none⟩ = some (.slice lb.an lb.nn lb.cn) := (by rw [(bcell hSw).1 _ _ HLD.out]; exact d3); go_simp; try with_reducible rfl)
 try simp only [Act.put, putA, putB, putC]
 refine wpAnyN_u 4 ⟨some 70, _, _, _, _, _⟩ _ rfl ?_
 try simp only [Act.put, putA, putB, putC]
 refine wpAnyN_u 5 ⟨some 71, _, _, _, _, _⟩ _ rfl ?_
 try simp only [Act.put, putA, putB, putC]
 refine wpAnyN_u 6 ⟨some 72, _, _, _, _, _⟩ _ rfl ?_
 try simp only [Act.put, putA, putB, putC]
 refine wpAnyN_one (i := 2) (o := ⟨some 68, _, _, _, _, _⟩) (by kernel_rfl) rfl (fun K hK => ?_)
 go_simp
 have HB_1 := Lib.hid (HB_0.out.alloc (HOv _ HB_0.out) (.cells #[.int .u64 0, .int .i64 ky, .slice lb.ai lb.ni lb.ci, .slice lb.an lb.nn lb.cn] 47))
 refine hK.out _ _ (by exact HB_1.out) ?_
 clear hK K hHeld
 intro hHeld
 try simp only [Act.put, putA, putB, putC]
 refine wpAnyN_one (i := 3) (o := ⟨some 69, _, _, _, _, _⟩) (by kernel_rfl) rfl (fun K hK => ?_)
 refine step_append_off info_cell rfl (by decide) Tryz.underlying31 rfl _ _ (by rfl) v0 47 #[.int .u64 0, .int .i64 ky, .slice lb.ai lb.ni lb.ci, .slice lb.an lb.nn lb.cn] O (.slice (some ⟨O, 0, none⟩) 0 0) 0 [] v0.heap.size rfl rfl (by rfl) (by rfl) HOW3.out (by intro u hu; simp at hu; rcases hu with rfl | rfl | rfl | rfl <;> rfl) (by decide) (by unfold maxLen; decide) (HOv _ HB_0.out) ?_
 intro va x1 h2 h3 h4 h5
 rw [Nat.zero_add, List.nil_append] at h2
 obtain ⟨ra, rc, rfl⟩ := own_form h2
 have HO1 := Lib.hid h2
 have HB_2 := Lib.hid (h4 _ HB_0.out)
 clear h2 h3 h4 h5
 refine hK.out _ _ (by exact HB_2.out) ?_
 clear hK K hHeld
 intro hHeld
 try simp only [Act.put, putA, putB, putC]
 refine wpAnyN_one (i := 7) (o := ⟨some 73, _, _, _, _, _⟩) (by kernel_rfl) rfl (fun K hK => ?_)
 refine step_append_rowG info_cell rfl (by decide) Tryz.underlying31 rfl _ _ (by rfl) x1 O (.slice ra 1 rc) 1 _ none 0 0 [] (by rfl) (by rfl) HO1.out (rowG_none _ _) (by intro u hu; cases hu) (by decide) (by unfold maxLen; decide) (HOv _ HB_2.out) ?_
 intro va x2 h2 h3 h4
 rw [Nat.add_zero, List.append_nil] at h2
 obtain ⟨ra2, rc2, rfl⟩ := own_form h2
 have HRO := Lib.hid (RowG.of_own h2)
 have HB_3 := Lib.hid (h4 _ HB_2.out)
 clear h2 h3 h4
 refine hK.out _ _ (by exact HB_3.out) ?_
 clear hK K hHeld
 intro hHeld
 try simp only [Act.put, putA, putB, putC]
 refine wpAnyN_u 8 ⟨some 4, _, _, _, _, _⟩ _ rfl ?_
 try simp only [Act.put, putA, putB, putC]
 refine wpAnyN_u 9 ⟨some 5, _, _, _, _, _⟩ _ rfl ?_
 try simp only [Act.put, putA, putB, putC]
 refine wpAnyN_end (by kernel_rfl) ?_

 have HPO : Hid (RWith j ni nn w (.returned (.tuple #[.slice ra2 1 rc2, .int .i64 0])) x2) := Lib.hid ⟨ra2, 1, rc2, 0, rfl, fun _ => ⟨rfl, lb, ⟨0, ky, ys, vs⟩, ⟨HRO.out, HBX.out.below HB_3.out (Nat.le_of_eq HOS.out)⟩, IB.out⟩, by rw [HSS.out]; exact HB0.out.trans (HB_3.out.mono (Nat.le_of_lt HLD.out))⟩
 go_wp2_with fail
 exact bodyPost_ret (v := .tuple #[.slice ra2 1 rc2, .int .i64 0]) (by simp [results, Tryz.results15, go_sem]) rfl HPO.out


set_option maxRecDepth 100000 in
set_option maxHeartbeats 16000000 in
theorem with_one (w : World) (aa : Option Addr) (cap : Nat) (la lb : CellL) (a b : CellV) (k j : Int) (ni nn : Nat) (ha : RowOne w aa cap la a) (hb : CellAt w lb b) (ia : CInv k ni nn a) (ib : CInv j ni nn b) (hk : 1 ≤ k ∧ k ≤ 500) (hj : 1 ≤ j ∧ j ≤ 500) (hni : ni ≤ 20) (hnn : nn ≤ 20) :
  Calls Tryz.prog 15 #[.slice aa 1 cap, lb.val b] w (RWith (k + j) ni nn w) := by
 have HJN := Lib.hid (fun w' (h1 : CellAt w' la a) (h2 : CellAt w' lb b) => cjoin_any w' la lb a b k j ni nn h1 h2 ia ib hk hj hni hnn)
 obtain ⟨qb, ky, ys, vs⟩ := b
 obtain ⟨qa, kx, xs, us⟩ := a
 obtain ⟨p1, -⟩ := ib
 obtain ⟨q1, -⟩ := ia
 dsimp only at p1 q1
 subst p1 q1
 unfold CellL.val at HJN
 dsimp only at HJN
 obtain ⟨hbx, hbw, hsz⟩ := boxed w 47 #[.int .u64 0, .int .i64 ky, .slice lb.ai lb.ni lb.ci, .slice lb.an lb.nn lb.cn]
 have HBB := Lib.hid (hb.below hbw (Nat.le_refl _))
 have HAA := Lib.hid (ha.below hbw (Nat.le_refl _))
 have HBW := Lib.hid hbw
 have HK := Lib.hid (Blk.new w 47 #[.int .u64 0, .int .i64 ky, .slice lb.ai lb.ni lb.ci, .slice lb.an lb.nn lb.cn])
 have HSZ1 := Lib.hid (show w.heap.size < (w.alloc (.cells #[.int .u64 0, .int .i64 ky, .slice lb.ai lb.ni lb.ci, .slice lb.an lb.nn lb.cn] 47)).heap.size by rw [hsz]; omega)
 have hcm : cap ≤ 9223372036854775807 ∧ 1 ≤ cap := by have h1 := ha.1.2.1; have h2 := ha.1.2.2.1; unfold maxLen at h2; omega
 clear hb ha hbw hbx hsz hk hj
 unfold CellL.val
 dsimp only
 go_enter Tryz.func15, Tryz.ntmps15
 go_upto_region 1 with fail
 generalize (w.alloc (.cells #[.int .u64 0, .int .i64 ky, .slice lb.ai lb.ni lb.ci, .slice lb.an lb.nn lb.cn] 47)) = w0 at *
 generalize hS : w.heap.size = S at *
 have HSS := Lib.hid hS
 clear hS
 obtain ⟨hcm1, hcm2⟩ := hcm
 obtain ⟨ab, ao, rfl, abl, ac⟩ := HAA.out.1.at (by decide)
 have HAB := Lib.hid abl
 have HAC := Lib.hid ac
 have e0 := HK.out.c 0
 have c0 : w0.cell? ⟨ab, ao, none⟩ = some (.int .u64 0) := ac 0 (by decide)
 clear ac
 go_wp2_with fail
 go_loopg [6] 0 (fun gg iu wr => iu = .int .i64 0 ∧ gg = 0 ∧ wr = w0)
 case atStart => exact ⟨rfl, rfl, rfl⟩
 case round =>
 obtain ⟨rfl, rfl, rfl⟩ := hrel
 go_wp2_with fail
 go_quiet (fail)
 go_upto_region 4 with fail
 have hbq : Below wr.heap.size wr (wr.drewN nq) := sbelow_dn (Below.refl _ _) nq
 have HB0 := Lib.hid (sbelow_dn HBW.out nq)
 have HAX := Lib.hid (HAA.out.below hbq (Nat.le_refl _))
 have HBX := Lib.hid (HBB.out.below hbq (Nat.le_refl _))
 have HKX := Lib.hid (HK.out.below hbq HK.out.lt)
 have HABX : Hid (ab < (wr.drewN nq).heap.size) := Lib.hid (Nat.lt_of_lt_of_le HAB.out hbq.size)
 have HACX : Hid (∀ i, i < 4 → (wr.drewN nq).cell? ⟨ab, ao + i, none⟩ = some ((cellC la ⟨0, kx, xs, us⟩).getD i undef)) := Lib.hid (fun i hi => HAC.out i hi)
 clear e0 c0 hbq HAA HBB HK HAB HAC HSZ1
 generalize wr.drewN nq = v at *
 go_wp2_with fail
 have HOW := Lib.hid (own_zero v 47 4)
 have hb1 : Below v.heap.size v (v.alloc (.cells #[] 47)) := (Below.refl _ _).alloc (Nat.le_refl _) _
 obtain ⟨O, hO⟩ : ∃ O, v.heap.size = O := ⟨_, rfl⟩
 rw [hO] at HOW hb1 HABX
 try rw [hO]
 have HOS := Lib.hid hO
 have HSO : Hid (S < O) := Lib.hid (by have := HKX.out.lt; rw [hO] at this; exact this)
 have HB1 := Lib.hid hb1
 have e0 : (v.alloc (.cells #[] 47)).cell? ⟨S, 0, none⟩ = some (.int .u64 0) := by rw [(bcell hb1).1 _ _ HSO.out]; exact HKX.out.cell 0
 have c0 : (v.alloc (.cells #[] 47)).cell? ⟨ab, ao, none⟩ = some (.int .u64 0) := by rw [(bcell hb1).1 _ _ HABX.out]; exact HACX.out 0 (by decide)
 generalize v.alloc (.cells #[] 47) = v1 at *
 clear hO hb1
 go_quiet (fail)
 go_upto_region 6 with fail
 have HOW2 : Hid ((v1.drewN nq).ownsRow O 47 4 (.slice (some ⟨O, 0, none⟩) 0 0) 0 []) := HOW
 have HB2 : Hid (Below O v (v1.drewN nq)) := Lib.hid (sbelow_dn HB1.out nq)
 clear e0 c0
 generalize v1.drewN nq = v2 at *
 have HOv : ∀ x, Below O v x → O ≤ x.heap.size := fun x hx => by have := hx.size; rw [HOS.out] at this; exact this
 have HS2 : Hid (S < v2.heap.size ∧ ab < v2.heap.size) := Lib.hid (by have := HOv _ HB2.out; have := HSO.out; have := HABX.out; omega)
 have HA2 := Lib.hid (HAX.out.2.below HB2.out (Nat.le_of_eq HOS.out))
 have HBC2 := Lib.hid (HBX.out.below HB2.out (Nat.le_of_eq HOS.out))
 have HK2 := Lib.hid (HKX.out.below HB2.out HSO.out)
 have HAC2 : Hid (∀ i, i < 4 → v2.cell? ⟨ab, ao + i, none⟩ = some ((cellC la ⟨0, kx, xs, us⟩).getD i undef)) := Lib.hid (fun i hi => by rw [(bcell HB2.out).1 _ _ HABX.out]; exact HACX.out i hi)
 have kc0 : v2.cell? ⟨ab, ao, none⟩ = some (.int .u64 0) := HAC2.out 0 (by decide)
 have kc1 : v2.cell? ⟨ab, ao + 1, none⟩ = some (.int .i64 kx) := HAC2.out 1 (by decide)
 have kc2 : v2.cell? ⟨ab, ao + 2, none⟩ = some (.slice la.ai la.ni la.ci) := HAC2.out 2 (by decide)
 have kc3 : v2.cell? ⟨ab, ao + 3, none⟩ = some (.slice la.an la.nn la.cn) := HAC2.out 3 (by decide)
 go_cut [8, 9] (fun p q wx => ∃ (X : Nat) (l : CellL) (c : CellV) (er : Int), p = .pointer (some ⟨X, 0, none⟩) ∧ q = .int .i64 er ∧ Blk wx X 47 #[.int .u64 c.key, .int .i64 c.count, .slice l.ai l.ni l.ci, .slice l.an l.nn l.cn] ∧ (er = 0 → CellAt wx l c ∧ CInv (k + j) ni nn c) ∧ Below v2.heap.size v2 wx ∧ v2.heap.size ≤ X)
 case first =>

  refine wp_regionN (fun w' => Below v2.heap.size v2 w') [] (by kernel_rfl) (by exact (Below.refl _ _).drew) (fun hHeld => ?_)
  generalize v2.drew = x0 at *
  refine wpAnyN_u 0 ⟨some 46, _, _, _, _, _⟩ _ rfl ?_
  try simp only [Act.put, putA, putB, putC]
  refine wpAnyN_u 1 ⟨some 47, _, _, _, _, _⟩ _ rfl ?_
  try simp only [Act.put, putA, putB, putC]
  refine wpAnyN_u 2 ⟨some 48, _, _, _, _, _⟩ _ rfl ?_
  try simp only [Act.put, putA, putB, putC]
  refine wpAnyN_t 3 ⟨some 49, _, _, _, _, _⟩ ?_ rfl ?_ ?_
  rotate_left 1
  ·(intro w hSw; have d0 : w.cell? ⟨ab, ao, none⟩ = some (.int .u64 0) := (by rw [(bcell hSw).1 _ _ HS2.out.2]; exact kc0); have d1 : w.cell? ⟨ab, ao + 1, none⟩ = some (.int .i64 kx) := (by rw [(bcell hSw).1 _ _ HS2.out.2]; exact kc1); have d2 : w.cell? ⟨ab, ao + 2, none⟩ = some (.slice la.ai la.ni la.ci) := (by rw [(bcell hSw).1 _ _ HS2.out.2]; exact kc2); have d3 : w.cell? ⟨ab, ao + 3, none⟩ = some (.slice la.an la.nn la.cn) := (by rw [(bcell hSw).1 _ _ HS2.out.2]; exact kc3); go_simp; try with_reducible rfl)
  try simp only [Act.put, putA, putB, putC]
  refine wpAnyN_t 4 ⟨some 50, _, _, _, _, _⟩ ?_ rfl ?_ ?_
  rotate_left 1
  ·(intro w hSw; have d0 := (HK2.out.below hSw HK2.out.lt).c 0; have d1 := (HK2.out.below hSw HK2.out.lt).c 1; have d2 := (HK2.out.below hSw HK2.out.lt).c 2; have d3 := (HK2.out.below hSw HK2.out.lt).c 3; go_simp; try with_reducible rfl)
  try simp only [Act.put, putA, putB, putC]
  have HB_0 := Lib.hid hHeld
  refine wpAnyN_pair (i := 5) (j := 9) (o := ⟨some 51, _, _, _, _, _⟩) (p := ⟨some 8, _, _, _, _, _⟩) (by kernel_rfl) rfl rfl (fun K hK => ?_) (fun K hK => ?_)
  ·go_simp
   refine (HJN.out _ (HA2.out.below HB_0.out (Nat.le_refl _)) (HBC2.out.below HB_0.out (Nat.le_refl _))).mono ?_
   rintro e x1 ⟨l3, c3, er, rfl, hc3, hbn⟩
   rw [show l3.val c3 = .agg #[.int .u64 c3.key, .int .i64 c3.count, .slice l3.ai l3.ni l3.ci, .slice l3.an l3.nn l3.cn] from rfl]
   have HC_1 := Lib.hid hc3
   have HB_1 := Lib.hid (HB_0.out.trans (hbn.mono HB_0.out.size))
   clear hc3 hbn
   refine hK.out _ _ (by exact HB_1.out) ?_
   clear hK K hHeld
   intro hHeld
   try simp only [Act.put, putA, putB, putC]
   refine wpAnyN_u 6 ⟨some 45, _, _, _, _, _⟩ _ rfl ?_
   try simp only [Act.put, putA, putB, putC]
   refine wpAnyN_u 7 ⟨some 52, _, _, _, _, _⟩ _ rfl ?_
   try simp only [Act.put, putA, putB, putC]
   refine wpAnyN_u 8 ⟨some 53, _, _, _, _, _⟩ _ rfl ?_
   try simp only [Act.put, putA, putB, putC]
   refine wpAnyN_one (i := 9) (o := ⟨some 8, _, _, _, _, _⟩) (by kernel_rfl) rfl (fun K hK => ?_)
   go_simp
   have hbn := (Below.refl x1.heap.size x1).alloc (Nat.le_refl _) (.cells #[.int .u64 0, .int .i64 0, .slice none 0 0, .slice none 0 0] 47)
   have HBk := Lib.hid (Blk.new x1 47 #[.int .u64 0, .int .i64 0, .slice none 0 0, .slice none 0 0])
   obtain ⟨X, hX⟩ : ∃ X, x1.heap.size = X := ⟨_, rfl⟩
   have HXG : Hid (v2.heap.size ≤ X) := Lib.hid (by have := HB_1.out.size; omega)
   have HX_2 : Hid (Blk (x1.alloc (.cells #[.int .u64 0, .int .i64 0, .slice none 0 0, .slice none 0 0] 47)) X 47 #[.int .u64 0, .int .i64 0, .slice none 0 0, .slice none 0 0]) := Lib.hid (by rw [← hX]; exact HBk.out)
   rw [hX]
   have HB_2 := Lib.hid (HB_1.out.trans (hbn.mono HB_1.out.size))
   have HC_2 := Lib.hid (fun h => And.intro ((HC_1.out h).1.below hbn (Nat.le_refl _)) (HC_1.out h).2)
   clear HBk hbn
   generalize (x1.alloc (.cells #[.int .u64 0, .int .i64 0, .slice none 0 0, .slice none 0 0] 47)) = x2 at *
   clear hX
   refine hK.out _ _ (by exact HB_2.out) ?_
   clear hK K hHeld
   intro hHeld
   try simp only [Act.put, putA, putB, putC]
   have z0 := HX_2.out.c 0
   have z1 := HX_2.out.c 1
   have z2 := HX_2.out.c 2
   have z3 := HX_2.out.c 3
   have zf : ∀ o, x2.frozen? ⟨X, o, none⟩ = false := fun o => HX_2.out.frozen o
   refine wpAnyN_one (i := 10) (o := ⟨none, _, _, _, _, _⟩) (by kernel_rfl) rfl (fun K hK => ?_)
   go_simp
   clear z0 z1 z2 z3 zf
   have HX_3 := Lib.hid (HX_2.out.store4 (.int .u64 c3.key) (.int .i64 c3.count) (.slice l3.ai l3.ni l3.ci) (.slice l3.an l3.nn l3.cn))
   have HC_3 := Lib.hid (fun h => And.intro ((HC_2.out h).1.store4 HX_2.out (.int .u64 c3.key) (.int .i64 c3.count) (.slice l3.ai l3.ni l3.ci) (.slice l3.an l3.nn l3.cn)) (HC_2.out h).2)
   have HB_3 := Lib.hid (below_set4 HB_2.out HXG.out (.int .u64 c3.key) (.int .i64 c3.count) (.slice l3.ai l3.ni l3.ci) (.slice l3.an l3.nn l3.cn))
   generalize ((((x2.setCell ⟨X, 0, none⟩ (.int .u64 c3.key)).setCell ⟨X, 1, none⟩ (.int .i64 c3.count)).setCell ⟨X, 2, none⟩ (.slice l3.ai l3.ni l3.ci)).setCell ⟨X, 3, none⟩ (.slice l3.an l3.nn l3.cn)) = x3 at *
   refine hK.out _ _ (by exact HB_3.out) ?_
   clear hK K hHeld
   intro hHeld
   try simp only [Act.put, putA, putB, putC]
   refine wpAnyN_u 11 ⟨some 9, _, _, _, _, _⟩ _ rfl ?_
   try simp only [Act.put, putA, putB, putC]
   refine wpAnyN_end (by kernel_rfl) ?_
   try go_wp2_with fail
   go_meet
   exact ⟨X, l3, c3, er, rfl, rfl, HX_3.out, HC_3.out, HB_3.out, HXG.out⟩
  ·go_simp
   have hbn := (Below.refl x0.heap.size x0).alloc (Nat.le_refl _) (.cells #[.int .u64 0, .int .i64 0, .slice none 0 0, .slice none 0 0] 47)
   have HBk := Lib.hid (Blk.new x0 47 #[.int .u64 0, .int .i64 0, .slice none 0 0, .slice none 0 0])
   obtain ⟨X, hX⟩ : ∃ X, x0.heap.size = X := ⟨_, rfl⟩
   have HXG : Hid (v2.heap.size ≤ X) := Lib.hid (by have := HB_0.out.size; omega)
   have HX_1 : Hid (Blk (x0.alloc (.cells #[.int .u64 0, .int .i64 0, .slice none 0 0, .slice none 0 0] 47)) X 47 #[.int .u64 0, .int .i64 0, .slice none 0 0, .slice none 0 0]) := Lib.hid (by rw [← hX]; exact HBk.out)
   rw [hX]
   have HB_1 := Lib.hid (HB_0.out.trans (hbn.mono HB_0.out.size))
   clear HBk hbn
   generalize (x0.alloc (.cells #[.int .u64 0, .int .i64 0, .slice none 0 0, .slice none 0 0] 47)) = x1 at *
   clear hX
   refine hK.out _ _ (by exact HB_1.out) ?_
   clear hK K hHeld
   intro hHeld
   try simp only [Act.put, putA, putB, putC]
   refine wpAnyN_one (i := 5) (o := ⟨some 51, _, _, _, _, _⟩) (by kernel_rfl) rfl (fun K hK => ?_)
   go_simp
   refine (HJN.out _ (HA2.out.below HB_1.out (Nat.le_refl _)) (HBC2.out.below HB_1.out (Nat.le_refl _))).mono ?_
   rintro e x2 ⟨l3, c3, er, rfl, hc3, hbn⟩
   rw [show l3.val c3 = .agg #[.int .u64 c3.key, .int .i64 c3.count, .slice l3.ai l3.ni l3.ci, .slice l3.an l3.nn l3.cn] from rfl]
   have HC_2 := Lib.hid hc3
   have HB_2 := Lib.hid (HB_1.out.trans (hbn.mono HB_1.out.size))
   have HX_2 := Lib.hid (HX_1.out.below hbn HX_1.out.lt)
   clear hc3 hbn
   refine hK.out _ _ (by exact HB_2.out) ?_
   clear hK K hHeld
   intro hHeld
   try simp only [Act.put, putA, putB, putC]
   refine wpAnyN_u 6 ⟨some 45, _, _, _, _, _⟩ _ rfl ?_
   try simp only [Act.put, putA, putB, putC]
   refine wpAnyN_u 7 ⟨some 52, _, _, _, _, _⟩ _ rfl ?_
   try simp only [Act.put, putA, putB, putC]
   refine wpAnyN_u 8 ⟨some 53, _, _, _, _, _⟩ _ rfl ?_
   try simp only [Act.put, putA, putB, putC]
   have z0 := HX_2.out.c 0
   have z1 := HX_2.out.c 1
   have z2 := HX_2.out.c 2
   have z3 := HX_2.out.c 3
   have zf : ∀ o, x2.frozen? ⟨X, o, none⟩ = false := fun o => HX_2.out.frozen o
   refine wpAnyN_one (i := 10) (o := ⟨none, _, _, _, _, _⟩) (by kernel_rfl) rfl (fun K hK => ?_)
   go_simp
   clear z0 z1 z2 z3 zf
   have HX_3 := Lib.hid (HX_2.out.store4 (.int .u64 c3.key) (.int .i64 c3.count) (.slice l3.ai l3.ni l3.ci) (.slice l3.an l3.nn l3.cn))
   have HC_3 := Lib.hid (fun h => And.intro ((HC_2.out h).1.store4 HX_2.out (.int .u64 c3.key) (.int .i64 c3.count) (.slice l3.ai l3.ni l3.ci) (.slice l3.an l3.nn l3.cn)) (HC_2.out h).2)
   have HB_3 := Lib.hid (below_set4 HB_2.out HXG.out (.int .u64 c3.key) (.int .i64 c3.count) (.slice l3.ai l3.ni l3.ci) (.slice l3.an l3.nn l3.cn))
   generalize ((((x2.setCell ⟨X, 0, none⟩ (.int .u64 c3.key)).setCell ⟨X, 1, none⟩ (.int .i64 c3.count)).setCell ⟨X, 2, none⟩ (.slice l3.ai l3.ni l3.ci)).setCell ⟨X, 3, none⟩ (.slice l3.an l3.nn l3.cn)) = x3 at *
   refine hK.out _ _ (by exact HB_3.out) ?_
   clear hK K hHeld
   intro hHeld
   try simp only [Act.put, putA, putB, putC]
   refine wpAnyN_u 11 ⟨some 9, _, _, _, _, _⟩ _ rfl ?_
   try simp only [Act.put, putA, putB, putC]
   refine wpAnyN_end (by kernel_rfl) ?_
   try go_wp2_with fail
   go_meet
   exact ⟨X, l3, c3, er, rfl, rfl, HX_3.out, HC_3.out, HB_3.out, HXG.out⟩

 case rest =>
 obtain ⟨X, l3, c3, er, rfl, rfl, hX, hc, hbx, -⟩ := hcut
 generalize wc = v3 at *
 have HS3 : Hid (ab < v3.heap.size) := Lib.hid (Nat.lt_of_lt_of_le HS2.out.2 hbx.size)
 have HX3 := Lib.hid hX
 have HC3 := Lib.hid hc
 have HB3 := Lib.hid (HB2.out.trans (hbx.mono (HOv _ HB2.out)))
 have HOW3 := Lib.hid (own_below HOW2.out hbx (Nat.le_refl _))
 clear hX hc hbx kc0 kc1 kc2 kc3
 by_cases he : er = 0
 case neg =>
  have t1 : (er != 0) = true := by simpa using he
  have HE := Lib.hid he
  clear he
  have HPO : Hid (RWith (k + j) ni nn w (.returned (.tuple #[.slice none 0 0, .int .i64 er])) v3) := Lib.hid ⟨none, 0, 0, er, rfl, fun h => absurd h HE.out, by rw [HSS.out]; exact HB0.out.trans (HB3.out.mono (Nat.le_of_lt HSO.out))⟩
  go_wp2_with fail
  exact bodyPost_ret (v := .tuple #[.slice none 0 0, .int .i64 er]) (by simp [results, Tryz.results15, go_sem]) rfl HPO.out
 case pos =>
 subst he
 have HCC := Lib.hid (HC3.out rfl)
 clear HC3
 have t7 : IntKind.i64.wrap 1 = 1 := by decide
 go_upto_region 9 with fail

 refine wp_regionN (fun w' => Below v3.heap.size v3 w') [] (by kernel_rfl) (by exact (Below.refl _ _).drew) (fun hHeld => ?_)
 generalize v3.drew = v0 at *
 have HB_0 := Lib.hid hHeld

 refine wpAnyN_u 0 ⟨some 57, _, _, _, _, _⟩ _ rfl ?_
 try simp only [Act.put, putA, putB, putC]
 refine wpAnyN_t 1 ⟨some 58, _, _, _, _, _⟩ ?_ rfl ?_ ?_
 rotate_left 1
 ·(intro w hSw; have e0 := (HX3.out.below hSw HX3.out.lt).c 0; have e1 := (HX3.out.below hSw HX3.out.lt).c 1; have e2 := (HX3.out.below hSw HX3.out.lt).c 2; have e3 := (HX3.out.below hSw HX3.out.lt).c 3; go_simp; try with_reducible rfl)
 try simp only [Act.put, putA, putB, putC]
 refine wpAnyN_u 4 ⟨some 61, _, _, _, _, _⟩ _ rfl ?_
 try simp only [Act.put, putA, putB, putC]
 refine wpAnyN_u 5 ⟨some 62, _, _, _, _, _⟩ _ rfl ?_
 try simp only [Act.put, putA, putB, putC]
 refine wpAnyN_u 6 ⟨some 63, _, _, _, _, _⟩ _ rfl ?_
 try simp only [Act.put, putA, putB, putC]
 refine wpAnyN_u 7 ⟨some 64, _, _, _, _, _⟩ _ rfl ?_
 try simp only [Act.put, putA, putB, putC]
 refine wpAnyN_one (i := 2) (o := ⟨some 59, _, _, _, _, _⟩) (by kernel_rfl) rfl (fun K hK => ?_)
 go_simp
 have HB_1 := Lib.hid (HB_0.out.alloc HB_0.out.size (.cells #[.int .u64 c3.key, .int .i64 c3.count, .slice l3.ai l3.ni l3.ci, .slice l3.an l3.nn l3.cn] 47))
 refine hK.out _ _ (by exact HB_1.out) ?_
 clear hK K hHeld
 intro hHeld
 try simp only [Act.put, putA, putB, putC]
 refine wpAnyN_one (i := 3) (o := ⟨some 60, _, _, _, _, _⟩) (by kernel_rfl) rfl (fun K hK => ?_)
 refine step_append_zero info_cell rfl Tryz.underlying31 rfl _ _ (by rfl) v0 47 #[.int .u64 c3.key, .int .i64 c3.count, .slice l3.ai l3.ni l3.ci, .slice l3.an l3.nn l3.cn] ⟨O, 0, none⟩ rfl (by rfl) (by rfl) (by decide) ?_
 intro ra rc x1 h2 h4
 have HO1 := Lib.hid h2
 have HB_2 := Lib.hid (HB_0.out.trans (h4.mono HB_0.out.size))
 have HXS : Hid (v0.heap.size ≤ x1.heap.size) := Lib.hid h4.size
 clear h2 h4
 refine hK.out _ _ (by exact HB_2.out) ?_
 clear hK K hHeld
 intro hHeld
 try simp only [Act.put, putA, putB, putC]
 refine wpAnyN_one (i := 8) (o := ⟨some 65, _, _, _, _, _⟩) (by kernel_rfl) rfl (fun K hK => ?_)
 refine step_append_rowG info_cell rfl (by decide) Tryz.underlying31 rfl _ _ (by rfl) x1 v0.heap.size (.slice (some ⟨ra, 0, none⟩) 1 rc) 1 _ _ 0 _ [] (by rfl) (by rfl) HO1.out (rowG_zero (Nat.lt_of_lt_of_le HS3.out HB_2.out.size) (by unfold maxLen; omega) _) (by intro u hu; cases hu) (by decide) (by unfold maxLen; decide) HXS.out ?_
 intro va x2 h2 h3 h4
 rw [Nat.add_zero, List.append_nil] at h2
 obtain ⟨ra2, rc2, rfl⟩ := own_form h2
 have HRO := Lib.hid (RowG.of_own h2)
 have HB_3 := Lib.hid (below_own HB_2.out h3 HB_2.out.size HO1.out HB_0.out.size)
 clear h2 h3 h4
 refine hK.out _ _ (by exact HB_3.out) ?_
 clear hK K hHeld
 intro hHeld
 try simp only [Act.put, putA, putB, putC]
 refine wpAnyN_u 9 ⟨some 4, _, _, _, _, _⟩ _ rfl ?_
 try simp only [Act.put, putA, putB, putC]
 refine wpAnyN_u 10 ⟨some 5, _, _, _, _, _⟩ _ rfl ?_
 try simp only [Act.put, putA, putB, putC]
 refine wpAnyN_end (by kernel_rfl) ?_

 have HPO : Hid (RWith (k + j) ni nn w (.returned (.tuple #[.slice ra2 1 rc2, .int .i64 0])) x2) := Lib.hid ⟨ra2, 1, rc2, 0, rfl, fun _ => ⟨rfl, l3, c3, ⟨HRO.out, HCC.out.1.below HB_3.out (Nat.le_refl _)⟩, HCC.out.2⟩, by rw [HSS.out]; exact HB0.out.trans ((HB3.out.trans (HB_3.out.mono (HOv _ HB3.out))).mono (Nat.le_of_lt HSO.out))⟩
 go_wp2_with fail
 all_goals exact bodyPost_ret (v := .tuple #[.slice ra2 1 rc2, .int .i64 0]) (by simp [results, Tryz.results15, go_sem]) rfl HPO.out
end Go.Proofs.YtehmompbmnejkaaGreat
/- The contract of bushelref15's Fold at no dimension: printed by gen_dbl.py. Conditions: at most 60 facts, light ones. -/
namespace Go.Proofs.YtehmompbmnejkaaGreat
open Go.RowKit Ieee
attribute [local go_sem] run_store_float

set_option maxHeartbeats 1000000 in
theorem rfull15_any (w : World) (l : SchL) (s : Sch) (h : SchAt w l s) (hn : s.dims.length ≤ 6) :
  Calls Tryz.prog 13 #[l.val] w fun e w' => e = .returned (.int .u32 (2 ^ s.dims.length - 1)) ∧ Below w.heap.size w w' := by
 obtain ⟨ad, nd, cd, ai, ni, ci, an, nn, cn, av, nv, cv⟩ := l
 have hnd : s.dims.length = nd := h.2.1
 rw [hnd] at hn ⊢
 obtain ⟨hbx, hbw, hsz⟩ := boxed w 26 #[.slice ad nd cd, .slice ai ni ci, .slice an nn cn, .slice av nv cv]
 have HBW := Lib.hid hbw
 have e0 := hbx 0
 simp only [List.getElem?_toArray, List.getElem?_cons_zero] at e0
 have HT := Lib.hid (fun w' => rtwo_any nd w' (by omega))
 obtain ⟨T1, T2⟩ := two_small (n := nd) (by omega)
 obtain ⟨T, hT⟩ : ∃ T : Int, (2 : Int) ^ nd = T := ⟨_, rfl⟩
 rw [hT] at HT T1 T2 ⊢
 clear h hnd hbx hbw hsz hT
 unfold SchL.val
 go_enter Tryz.func13, Tryz.ntmps13
 go_upto_region 1 with fail
 generalize (w.alloc (.cells #[.slice ad nd cd, .slice ai ni ci, .slice an nn cn, .slice av nv cv] 26)) = w0 at *
 go_wp2_with fail
 refine (HT.out _).mono ?_; rintro e w1 ⟨rfl, rfl⟩
 go_wp2_with fail
 go_ret
 exact ⟨rfl, HBW.out⟩
/-- the list so far -/
def OutOk (w : World) (j ni nn : Nat) (a : Option Addr) (n c : Nat) : Prop := (j = 0 ∧ a = none ∧ n = 0 ∧ c = 0) ∨ (1 ≤ j ∧ n = 1 ∧ ∃ l cv, RowOne w a c l cv ∧ CInv (j : Int) ni nn cv)
theorem OutOk.below {w w' : World} {j ni nn n c B : Nat} {a : Option Addr} (h : OutOk w j ni nn a n c) (hb : Below B w w') (hB : w.heap.size ≤ B) : OutOk w' j ni nn a n c := by
 rcases h with h | ⟨h1, h2, l, cv, h3, h4⟩
 ·exact .inl h
 ·exact .inr ⟨h1, h2, l, cv, h3.below hb hB, h4⟩
/-- the answer: no cell, a cell of all facts, or an error -/
def RFold (K : Nat) (zn ni nn : Nat) (w : World) (e : Ending) (w' : World) : Prop := ∃ (a : Option Addr) (n c : Nat) (er : Int), e = .returned (.tuple #[.slice a n c, .int .i64 er]) ∧ (er = 0 → n = 0 ∨ (n = 1 ∧ K = 0 ∧ 1 ≤ zn ∧ ∃ l cv, RowOne w' a c l cv ∧ CInv (zn : Int) ni nn cv)) ∧ Below w.heap.size w w'
theorem RFold.none {K zn ni nn : Nat} {w w' : World} {er : Int} (hb : Below w.heap.size w w') : RFold K zn ni nn w (.returned (.tuple #[.slice Option.none 0 0, .int .i64 er])) w' := ⟨Option.none, 0, 0, er, rfl, fun _ => .inl rfl, hb⟩

set_option maxRecDepth 100000 in
set_option maxHeartbeats 16000000 in
theorem fold_any (w : World) (l : SchL) (s : Sch) (za : Option Addr) (zn zc : Nat) (zs : List FacZ) (h : SchAt w l s) (hz : FactsAt w za zn zc zs) (hfew : FactsFew zs) (hzn : zn ≤ 60) :
  Calls Tryz.prog 7 #[l.val, .int .u32 0, .slice za zn zc] w (RFold (chkS s) zn l.ni l.nn w) := by
 obtain ⟨ad, nd, cd, ai, ni, ci, an, nn, cn, av, nv, cv⟩ := l
 obtain ⟨hbx, hbw, hsz⟩ := boxed w 26 #[.slice ad nd cd, .slice ai ni ci, .slice an nn cn, .slice av nv cv]
 have HCK := Lib.hid (rchk_any (w.alloc (.cells #[.slice ad nd cd, .slice ai ni ci, .slice an nn cn, .slice av nv cv] 26)) ⟨ad, nd, cd, ai, ni, ci, an, nn, cn, av, nv, cv⟩ s (h.below hbw (Nat.le_refl _)))
 have HS := Lib.hid (h.below hbw (Nat.le_refl _))
 have HZ := Lib.hid (hz.below hbw (Nat.le_refl _))
 have HFW := Lib.hid hfew
 have HLL : Hid (s.dims.length = nd ∧ s.ints.length = ni ∧ s.nums.length = nn) := Lib.hid ⟨h.2.1, h.2.2.1.1, h.2.2.2.1.1⟩
 have HBW := Lib.hid hbw
 have HK := Lib.hid (Blk.new w 26 #[.slice ad nd cd, .slice ai ni ci, .slice an nn cn, .slice av nv cv])
 have HSZ := Lib.hid hsz
 obtain ⟨K, hK⟩ : ∃ K, chkS s = K := ⟨_, rfl⟩
 unfold SchL.val RChk at HCK
 dsimp only at HCK
 rw [hK] at HCK ⊢
 have HKK := Lib.hid hK
 unfold SchL.val
 dsimp only
 clear h hz hfew hbx hbw hsz hK
 go_enter Tryz.func7, Tryz.ntmps7
 go_upto_region 1 with fail
 generalize (w.alloc (.cells #[.slice ad nd cd, .slice ai ni ci, .slice an nn cn, .slice av nv cv] 26)) = w0 at *
 generalize hS : w.heap.size = S at *
 have HSS := Lib.hid hS
 clear hS
 obtain ⟨N, hN⟩ : ∃ N, w0.heap.size = N := ⟨_, rfl⟩
 have HN := Lib.hid hN
 have HSN : Hid (S < N) := Lib.hid (by rw [← hN, HSZ.out]; omega)
 rw [hN] at HCK
 clear hN
 have hNv : ∀ v, Below N w0 v → N ≤ v.heap.size := fun v hv => by have := hv.size; rw [HN.out] at this; exact this
 have x0 := HK.out.c 0
 have x1 := HK.out.c 1
 have x2 := HK.out.c 2
 have x3 := HK.out.c 3
 go_wp2_with fail
 refine HCK.out.mono ?_
 rintro e w1 ⟨rfl, hb1⟩
 have HB1 := Lib.hid hb1
 clear hb1 HCK x0 x1 x2 x3
 by_cases hk0 : K = 0
 case neg =>
  have t1 : ((K : Int) != 0) = true := by simp; omega
  clear hk0
  go_wp2_with fail
  exact bodyPost_ret (v := .tuple #[.slice none 0 0, .int .i64 1]) (by simp [results, Tryz.results7, go_sem]) rfl (RFold.none (by rw [HSS.out]; exact HBW.out.trans (HB1.out.mono (Nat.le_of_lt HSN.out))))
 case pos =>
 subst hk0
 have HDM := Lib.hid (chk_dims HKK.out)
 have hzn2 : zn ≤ 9223372036854775807 := by omega
 obtain ⟨Tb, hTb⟩ : ∃ b : Int, (2 : Int) ^ s.dims.length - 1 = b := ⟨_, rfl⟩
 have HTB : Hid (0 ≤ Tb ∧ Tb ≤ 4294967295) := Lib.hid (by have := two_small (n := s.dims.length) (by have := HDM.out.1; omega); omega)
 have HFU := Lib.hid (rfull15_any w1 ⟨ad, nd, cd, ai, ni, ci, an, nn, cn, av, nv, cv⟩ s (HS.out.below HB1.out (Nat.le_of_eq HN.out)) HDM.out.1)
 have HSU := Lib.hid (fun w => rsub_any 0 Tb w (by decide) (by decide) HTB.out.1 HTB.out.2)
 rw [sub_none] at HSU
 unfold SchL.val at HFU
 dsimp only at HFU
 rw [hTb] at HFU
 clear hTb
 have hk1 : Blk w1 S 26 #[.slice ad nd cd, .slice ai ni ci, .slice an nn cn, .slice av nv cv] := HK.out.below HB1.out HSN.out
 have x0 := hk1.c 0
 have x1 := hk1.c 1
 have x2 := hk1.c 2
 have x3 := hk1.c 3
 have t2 : decide ((200 : Int) < (zn : Int)) = false := decide_eq_false (by omega)
 go_wp2_with fail
 refine HFU.out.mono ?_
 rintro e w2 ⟨rfl, hb2⟩
 have HB2 := Lib.hid (HB1.out.trans (hb2.mono (hNv _ HB1.out)))
 clear hb2 HFU x0 x1 x2 x3 hk1
 go_wp2_with fail
 refine (HSU.out _).mono ?_
 rintro e w3 ⟨rfl, rfl⟩
 go_wp2_with fail
 clear HSU
 go_loopg [8, 10] zn (fun gg ou iu wr => ∃ (j : Nat) (oa : Option Addr) (on oc : Nat), ou = .slice oa on oc ∧ iu = .int .i64 j ∧ j + gg = zn ∧ OutOk wr j ni nn oa on oc ∧ Below N w0 wr)
 case atStart => exact ⟨0, _, _, _, rfl, rfl, by omega, .inl ⟨rfl, rfl, rfl, rfl⟩, HB2.out⟩
 case round =>
 clear HB2
 obtain ⟨j, oa, on, oc, rfl, rfl, hqq, hok, hb⟩ := hrel
 have HQQ := Lib.hid hqq
 have HOK := Lib.hid hok
 have HB := Lib.hid hb
 clear hqq hok hb
 by_cases hlt : j < zn
 

 case pos =>
  have hzl : j < zs.length := by rw [HZ.out.2.1]; exact hlt
  have HZW := Lib.hid (HZ.out.below HB.out (Nat.le_of_eq HN.out))
  obtain ⟨zb, zo, rfl, zbl, zcc⟩ := HZW.out.1.at (by omega)
  obtain ⟨g0, g1, g2⟩ := factCells_get (zs := zs) (i := j) hzl
  have zc0 := zcc (j * 3) (by omega)
  have zc1 := zcc (j * 3 + 1) (by omega)
  have zc2 := zcc (j * 3 + 2) (by omega)
  rw [g0] at zc0
  rw [g1, ← Nat.add_assoc] at zc1
  rw [g2, ← Nat.add_assoc] at zc2
  have HFA := Lib.hid (HZ.out.2.2 _ (fAt_mem hzl))
  have HFF := Lib.hid (HFW.out _ (fAt_mem hzl))
  obtain ⟨⟨⟨ca, kn, cc, ia, im, ic, na, mn, nc⟩, f⟩, hzz⟩ : ∃ z, fAt zs j = z := ⟨_, rfl⟩
  rw [hzz] at zc0 zc1 zc2 HFA HFF
  dsimp only at zc0 zc1 zc2 HFA HFF
  have HZB := Lib.hid zbl
  have him : im ≤ 20 := HFF.out.2.1
  have HKR : Hid (Blk wr S 26 #[.slice ad nd cd, .slice ai ni ci, .slice an nn cn, .slice av nv cv]) := Lib.hid (HK.out.below HB.out HSN.out)
  have HFI : Hid (∀ v, Below N w0 v → Calls Tryz.prog 14 #[.agg #[.slice ad nd cd, .slice ai ni ci, .slice an nn cn, .slice av nv cv], .agg #[.slice ca kn cc, .slice ia im ic, .slice na mn nc]] v fun e v' => (∃ r : Int, e = .returned (.int .i64 r) ∧ (r = 0 → im = ni ∧ mn = nn)) ∧ Below v.heap.size v v') :=
   Lib.hid (fun v hv => ffits_any v ⟨ad, nd, cd, ai, ni, ci, an, nn, cn, av, nv, cv⟩ s ⟨ca, kn, cc, ia, im, ic, na, mn, nc⟩ f (HS.out.below hv (Nat.le_of_eq HN.out)) (HFA.out.below hv (Nat.le_of_eq HN.out)))
  clear zcc g0 g1 g2 hzz hzl HZW zbl
  go_upto_region 12 with fail
  refine wp_regionN (fun w' => Below wr.heap.size wr w') [] (by kernel_rfl) (by exact (Below.refl _ _).drew) (fun hHeld => ?_)
  generalize wr.drew = v0 at *

  refine wpAnyN_t 0 ⟨some 29, _, _, _, _, _⟩ ?_ rfl ?_ ?_
  rotate_left 1
  ·(intro w hSw; have d0 := (HKR.out.below hSw HKR.out.lt).c 0; have d1 := (HKR.out.below hSw HKR.out.lt).c 1; have d2 := (HKR.out.below hSw HKR.out.lt).c 2; have d3 := (HKR.out.below hSw HKR.out.lt).c 3; go_simp; try with_reducible rfl)
  try simp only [Act.put, putA, putB, putC]
  refine wpAnyN_u 1 ⟨some 30, _, _, _, _, _⟩ _ rfl ?_
  try simp only [Act.put, putA, putB, putC]
  refine wpAnyN_u 2 ⟨some 31, _, _, _, _, _⟩ _ rfl ?_
  try simp only [Act.put, putA, putB, putC]
  refine wpAnyN_u 3 ⟨some 32, _, _, _, _, _⟩ _ rfl ?_
  try simp only [Act.put, putA, putB, putC]
  refine wpAnyN_t 4 ⟨some 33, _, _, _, _, _⟩ ?_ rfl ?_ ?_
  rotate_left 1
  ·(intro w hSw; have d0 : w.cell? ⟨zb, zo + j * 3, none⟩ = some (.slice ca kn cc) := (by rw [(bcell hSw).1 _ _ HZB.out]; exact zc0); have d1 : w.cell? ⟨zb, zo + j * 3 + 1, none⟩ = some (.slice ia im ic) := (by rw [(bcell hSw).1 _ _ HZB.out]; exact zc1); have d2 : w.cell? ⟨zb, zo + j * 3 + 2, none⟩ = some (.slice na mn nc) := (by rw [(bcell hSw).1 _ _ HZB.out]; exact zc2); go_simp; try with_reducible rfl)
  try simp only [Act.put, putA, putB, putC]
  refine wpAnyN_one (i := 5) (o := ⟨some 34, _, _, _, _, _⟩) (by kernel_rfl) rfl (fun K hK => ?_)
  go_simp
  refine (HFI.out _ (HB.out.trans (hHeld.mono (hNv _ HB.out)))).mono ?_
  rintro e v1 ⟨⟨r, rfl, hr⟩, hbn⟩
  have HR := Lib.hid hr
  have HB_1 := Lib.hid (hHeld.trans (hbn.mono hHeld.size))
  clear hr hbn
  refine hK.out _ _ (by exact HB_1.out) ?_
  clear hK K hHeld
  intro hHeld
  try simp only [Act.put, putA, putB, putC]
  refine wpAnyN_u 6 ⟨some 35, _, _, _, _, _⟩ _ rfl ?_
  try simp only [Act.put, putA, putB, putC]
  refine wpAnyN_end (by kernel_rfl) ?_

  have HB2 := Lib.hid (HB.out.trans (HB_1.out.mono (hNv _ HB.out)))
  have HZB2 : Hid (zb < v1.heap.size) := Lib.hid (Nat.lt_of_lt_of_le HZB.out HB_1.out.size)
  have e0 : v1.cell? ⟨zb, zo + j * 3, none⟩ = some (.slice ca kn cc) := by rw [(bcell HB_1.out).1 _ _ HZB.out]; exact zc0
  have e1 : v1.cell? ⟨zb, zo + j * 3 + 1, none⟩ = some (.slice ia im ic) := by rw [(bcell HB_1.out).1 _ _ HZB.out]; exact zc1
  have e2 : v1.cell? ⟨zb, zo + j * 3 + 2, none⟩ = some (.slice na mn nc) := by rw [(bcell HB_1.out).1 _ _ HZB.out]; exact zc2
  clear zc0 zc1 zc2
  have HKR2 : Hid (Blk v1 S 26 #[.slice ad nd cd, .slice ai ni ci, .slice an nn cn, .slice av nv cv]) := Lib.hid (HKR.out.below HB_1.out HKR.out.lt)
  have HOK2 := Lib.hid (HOK.out.below HB_1.out (Nat.le_refl _))
  clear HZB HKR HOK hHeld HB_1
  by_cases hr0 : r = 0
  case neg =>
   have t1 : (r != 0) = true := by simpa using hr0
   clear hr0
   as_aux_lemma =>
   go_upto_region 13 with fail
   have zc0 := e0
   have zc1 := e1
   have zc2 := e2
   have HZB := HZB2
   have HKR := HKR2
   refine wp_regionN (fun w' => Below v1.heap.size v1 w') [] (by kernel_rfl) (by exact (Below.refl _ _).drew) (fun hHeld => ?_)
   generalize v1.drew = v2 at *

   refine wpAnyN_t 0 ⟨some 36, _, _, _, _, _⟩ ?_ rfl ?_ ?_
   rotate_left 1
   ·(intro w hSw; have d0 := (HKR.out.below hSw HKR.out.lt).c 0; have d1 := (HKR.out.below hSw HKR.out.lt).c 1; have d2 := (HKR.out.below hSw HKR.out.lt).c 2; have d3 := (HKR.out.below hSw HKR.out.lt).c 3; go_simp; try with_reducible rfl)
   try simp only [Act.put, putA, putB, putC]
   refine wpAnyN_u 1 ⟨some 37, _, _, _, _, _⟩ _ rfl ?_
   try simp only [Act.put, putA, putB, putC]
   refine wpAnyN_u 2 ⟨some 38, _, _, _, _, _⟩ _ rfl ?_
   try simp only [Act.put, putA, putB, putC]
   refine wpAnyN_u 3 ⟨some 39, _, _, _, _, _⟩ _ rfl ?_
   try simp only [Act.put, putA, putB, putC]
   refine wpAnyN_t 4 ⟨some 40, _, _, _, _, _⟩ ?_ rfl ?_ ?_
   rotate_left 1
   ·(intro w hSw; have d0 : w.cell? ⟨zb, zo + j * 3, none⟩ = some (.slice ca kn cc) := (by rw [(bcell hSw).1 _ _ HZB.out]; exact zc0); have d1 : w.cell? ⟨zb, zo + j * 3 + 1, none⟩ = some (.slice ia im ic) := (by rw [(bcell hSw).1 _ _ HZB.out]; exact zc1); have d2 : w.cell? ⟨zb, zo + j * 3 + 2, none⟩ = some (.slice na mn nc) := (by rw [(bcell hSw).1 _ _ HZB.out]; exact zc2); go_simp; try with_reducible rfl)
   try simp only [Act.put, putA, putB, putC]
   refine wpAnyN_one (i := 5) (o := ⟨some 41, _, _, _, _, _⟩) (by kernel_rfl) rfl (fun K hK => ?_)
   go_simp
   refine (HFI.out _ (HB2.out.trans (hHeld.mono (hNv _ HB2.out)))).mono ?_
   rintro e v3 ⟨⟨r2, rfl, hr⟩, hbn⟩
   have HR := Lib.hid hr
   have HB_1 := Lib.hid (hHeld.trans (hbn.mono hHeld.size))
   clear hr hbn
   refine hK.out _ _ (by exact HB_1.out) ?_
   clear hK K hHeld
   intro hHeld
   try simp only [Act.put, putA, putB, putC]
   refine wpAnyN_u 6 ⟨some 6, _, _, _, _, _⟩ _ rfl ?_
   try simp only [Act.put, putA, putB, putC]
   refine wpAnyN_u 7 ⟨some 7, _, _, _, _, _⟩ _ rfl ?_
   try simp only [Act.put, putA, putB, putC]
   refine wpAnyN_end (by kernel_rfl) ?_

   have HB3 := Lib.hid (HB2.out.trans (HB_1.out.mono (hNv _ HB2.out)))
   go_wp2_with fail
   exact bodyPost_ret (v := .tuple #[.slice none 0 0, .int .i64 r2]) (by simp [results, Tryz.results7, go_sem]) rfl (RFold.none (by rw [HSS.out]; exact HBW.out.trans (HB3.out.mono (Nat.le_of_lt HSN.out))))

  case pos =>
  subst hr0
  obtain ⟨hr1, hr2⟩ := HR.out rfl
  obtain rfl : im = ni := hr1
  obtain rfl : mn = nn := hr2
  have HIR := Lib.hid (HFA.out.2.1.below HB2.out (Nat.le_of_eq HN.out))
  dsimp only at HIR
  clear HR HFI
  go_wp2_with fail
  go_loopg [11] im (fun gg ku wx => ∃ q : Nat, ku = .int .i64 q ∧ q + gg = im ∧ wx = v1)
  case atStart => exact ⟨0, rfl, by omega, rfl⟩
  case round =>
  obtain ⟨q, rfl, hq, rfl⟩ := hrel
  have HQ := Lib.hid hq
  clear hq
  by_cases hlq : q < im
  case pos =>
   obtain ⟨b3, o3, rfl, b3l, ic3⟩ := HIR.out.at hlq
   have i0 := ic3 q hlq
   clear ic3
   generalize f.ints.getD q 0 = xi at *
   by_cases hx : xi = -9223372036854775808
   case pos =>
    as_aux_lemma =>
    subst hx
    go_wp2_with fail
    exact bodyPost_ret (v := .tuple #[.slice none 0 0, .int .i64 10]) (by simp [results, Tryz.results7, go_sem]) rfl (RFold.none (by rw [HSS.out]; exact HBW.out.trans (HB2.out.mono (Nat.le_of_lt HSN.out))))
   case neg =>
    have t3 : (xi == -9223372036854775808) = false := by simpa using hx
    clear hx
    go_wp2_with fail
    go_roundg (im - q - 1)
    case measure => have := HQ.out; omega
    case rel => exact ⟨q + 1, by go_num, by have := HQ.out; omega, rfl⟩
  case neg =>
  obtain rfl : im = q := by have := HQ.out; omega
  clear hlq
  go_wp2_with fail
  have HON : Hid (∀ v, Below N w0 v → Calls Tryz.prog 16 #[.agg #[.slice ad nd cd, .slice ai im ci, .slice an mn cn, .slice av nv cv], .int .u32 0, .agg #[.slice ca kn cc, .slice ia im ic, .slice na mn nc]] v (RCell 1 im mn v)) :=
   Lib.hid (fun v hv => one_any v ⟨ad, nd, cd, ai, im, ci, an, mn, cn, av, nv, cv⟩ ⟨ca, kn, cc, ia, im, ic, na, mn, nc⟩ f (HFA.out.below hv (Nat.le_of_eq HN.out)) (by have := HDM.out.1; have := HLL.out.1; dsimp only; omega) HFF.out.2.1 HFF.out.2.2)
  have HNI : Hid (im ≤ 20 ∧ mn ≤ 20) := Lib.hid ⟨HFF.out.2.1, HFF.out.2.2⟩
  clear HFF HIR
  have zc0 := e0
  have zc1 := e1
  have zc2 := e2
  have HZB := HZB2
  have HKR := HKR2
  clear e0 e1 e2 HZB2 HKR2
  generalize hww : wr = w5 at *
  clear hww
  rcases HOK2.out with ⟨hj0, rfl, rfl, rfl⟩ | ⟨hj1, rfl, l4, c4, hro, hci4⟩

  ·have HJ0 := Lib.hid hj0
   clear hj0
   refine wp_regionN (fun w' => Below w5.heap.size w5 w') [] (by kernel_rfl) (by exact (Below.refl _ _).drew) (fun hHeld => ?_)
   generalize w5.drew = v0 at *
   refine wpAnyN_u 0 ⟨some 62, _, _, _, _, _⟩ _ rfl ?_
   try simp only [Act.put, putA, putB, putC]
   refine wpAnyN_t 1 ⟨some 63, _, _, _, _, _⟩ ?_ rfl ?_ ?_
   rotate_left 1
   ·(intro w hSw; have d0 := (HKR.out.below hSw HKR.out.lt).c 0; have d1 := (HKR.out.below hSw HKR.out.lt).c 1; have d2 := (HKR.out.below hSw HKR.out.lt).c 2; have d3 := (HKR.out.below hSw HKR.out.lt).c 3; go_simp; try with_reducible rfl)
   try simp only [Act.put, putA, putB, putC]
   refine wpAnyN_u 2 ⟨some 64, _, _, _, _, _⟩ _ rfl ?_
   try simp only [Act.put, putA, putB, putC]
   refine wpAnyN_u 3 ⟨some 65, _, _, _, _, _⟩ _ rfl ?_
   try simp only [Act.put, putA, putB, putC]
   refine wpAnyN_u 4 ⟨some 66, _, _, _, _, _⟩ _ rfl ?_
   try simp only [Act.put, putA, putB, putC]
   refine wpAnyN_u 5 ⟨some 67, _, _, _, _, _⟩ _ rfl ?_
   try simp only [Act.put, putA, putB, putC]
   refine wpAnyN_t 6 ⟨some 68, _, _, _, _, _⟩ ?_ rfl ?_ ?_
   rotate_left 1
   ·(intro w hSw; have d0 : w.cell? ⟨zb, zo + j * 3, none⟩ = some (.slice ca kn cc) := (by rw [(bcell hSw).1 _ _ HZB.out]; exact zc0); have d1 : w.cell? ⟨zb, zo + j * 3 + 1, none⟩ = some (.slice ia im ic) := (by rw [(bcell hSw).1 _ _ HZB.out]; exact zc1); have d2 : w.cell? ⟨zb, zo + j * 3 + 2, none⟩ = some (.slice na mn nc) := (by rw [(bcell hSw).1 _ _ HZB.out]; exact zc2); go_simp; try with_reducible rfl)
   try simp only [Act.put, putA, putB, putC]
   refine wpAnyN_one (i := 7) (o := ⟨some 69, _, _, _, _, _⟩) (by kernel_rfl) rfl (fun K hK => ?_)
   go_simp
   refine (HON.out _ (HB2.out.trans (hHeld.mono (hNv _ HB2.out)))).mono ?_
   rintro e v1 ⟨l3, c3, rfl, hca, hci, hbn⟩
   have HC3 := Lib.hid (And.intro hca hci)
   have HB_1 := Lib.hid (hHeld.trans (hbn.mono hHeld.size))
   clear hca hci hbn
   refine hK.out _ _ (by exact HB_1.out) ?_
   clear hK K hHeld
   intro hHeld
   try simp only [Act.put, putA, putB, putC]
   refine wpAnyN_one (i := 8) (o := ⟨some 70, _, _, _, _, _⟩) (by kernel_rfl) rfl (fun K hK => ?_)
   go_simp
   refine (with_nil _ l3 c3 1 im mn HC3.out.1 HC3.out.2).mono ?_
   rintro e v2 ⟨ra, rn, rc, er, rfl, hok, hbn⟩
   have HOR := Lib.hid hok
   have HB_2 := Lib.hid (HB_1.out.trans (hbn.mono HB_1.out.size))
   clear hok hbn
   refine hK.out _ _ (by exact HB_2.out) ?_
   clear hK K hHeld
   intro hHeld
   try simp only [Act.put, putA, putB, putC]
   refine wpAnyN_u 9 ⟨some 61, _, _, _, _, _⟩ _ rfl ?_
   try simp only [Act.put, putA, putB, putC]
   refine wpAnyN_u 10 ⟨some 71, _, _, _, _, _⟩ _ rfl ?_
   try simp only [Act.put, putA, putB, putC]
   refine wpAnyN_u 11 ⟨some 72, _, _, _, _, _⟩ _ rfl ?_
   try simp only [Act.put, putA, putB, putC]
   refine wpAnyN_u 12 ⟨some 8, _, _, _, _, _⟩ _ rfl ?_
   try simp only [Act.put, putA, putB, putC]
   refine wpAnyN_u 13 ⟨some 9, _, _, _, _, _⟩ _ rfl ?_
   try simp only [Act.put, putA, putB, putC]
   refine wpAnyN_end (by kernel_rfl) ?_
   have HB3 := Lib.hid (HB2.out.trans (HB_2.out.mono (hNv _ HB2.out)))
   by_cases he : er = 0
   case neg =>
    as_aux_lemma =>
    have t1 : (er != 0) = true := by simpa using he
    clear he
    go_wp2_with fail
    exact bodyPost_ret (v := .tuple #[.slice none 0 0, .int .i64 er]) (by simp [results, Tryz.results7, go_sem]) rfl (RFold.none (by rw [HSS.out]; exact HBW.out.trans (HB3.out.mono (Nat.le_of_lt HSN.out))))
   case pos =>
   subst he
   obtain ⟨rfl, l5, c5, hr5, hi5⟩ := HOR.out rfl
   have hi5 : CInv ((j + 1 : Nat) : Int) im mn c5 := by rw [HJ0.out]; exact hi5
   have HOO : Hid (OutOk v2 (j + 1) im mn ra 1 rc) := Lib.hid (.inr ⟨by omega, rfl, l5, c5, hr5, hi5⟩)
   clear hr5 hi5
   go_wp2_with fail
   go_roundg (zn - (j + 1))
   case measure => have := HQQ.out; omega
   case rel => exact ⟨(j + 1), ra, 1, rc, rfl, by go_num, by have := HQQ.out; omega, HOO.out, HB3.out⟩

  ·have HRO := Lib.hid hro
   have HCI4 := Lib.hid hci4
   have HJ1 : Hid (1 ≤ j ∧ j ≤ 60) := Lib.hid (by have := HQQ.out; omega)
   clear hro hci4 hj1
   refine wp_regionN (fun w' => Below w5.heap.size w5 w') [] (by kernel_rfl) (by exact (Below.refl _ _).drew) (fun hHeld => ?_)
   generalize w5.drew = v0 at *
   refine wpAnyN_u 0 ⟨some 62, _, _, _, _, _⟩ _ rfl ?_
   try simp only [Act.put, putA, putB, putC]
   refine wpAnyN_t 1 ⟨some 63, _, _, _, _, _⟩ ?_ rfl ?_ ?_
   rotate_left 1
   ·(intro w hSw; have d0 := (HKR.out.below hSw HKR.out.lt).c 0; have d1 := (HKR.out.below hSw HKR.out.lt).c 1; have d2 := (HKR.out.below hSw HKR.out.lt).c 2; have d3 := (HKR.out.below hSw HKR.out.lt).c 3; go_simp; try with_reducible rfl)
   try simp only [Act.put, putA, putB, putC]
   refine wpAnyN_u 2 ⟨some 64, _, _, _, _, _⟩ _ rfl ?_
   try simp only [Act.put, putA, putB, putC]
   refine wpAnyN_u 3 ⟨some 65, _, _, _, _, _⟩ _ rfl ?_
   try simp only [Act.put, putA, putB, putC]
   refine wpAnyN_u 4 ⟨some 66, _, _, _, _, _⟩ _ rfl ?_
   try simp only [Act.put, putA, putB, putC]
   refine wpAnyN_u 5 ⟨some 67, _, _, _, _, _⟩ _ rfl ?_
   try simp only [Act.put, putA, putB, putC]
   refine wpAnyN_t 6 ⟨some 68, _, _, _, _, _⟩ ?_ rfl ?_ ?_
   rotate_left 1
   ·(intro w hSw; have d0 : w.cell? ⟨zb, zo + j * 3, none⟩ = some (.slice ca kn cc) := (by rw [(bcell hSw).1 _ _ HZB.out]; exact zc0); have d1 : w.cell? ⟨zb, zo + j * 3 + 1, none⟩ = some (.slice ia im ic) := (by rw [(bcell hSw).1 _ _ HZB.out]; exact zc1); have d2 : w.cell? ⟨zb, zo + j * 3 + 2, none⟩ = some (.slice na mn nc) := (by rw [(bcell hSw).1 _ _ HZB.out]; exact zc2); go_simp; try with_reducible rfl)
   try simp only [Act.put, putA, putB, putC]
   refine wpAnyN_one (i := 7) (o := ⟨some 69, _, _, _, _, _⟩) (by kernel_rfl) rfl (fun K hK => ?_)
   go_simp
   refine (HON.out _ (HB2.out.trans (hHeld.mono (hNv _ HB2.out)))).mono ?_
   rintro e v1 ⟨l3, c3, rfl, hca, hci, hbn⟩
   have HC3 := Lib.hid (And.intro hca hci)
   have HB_1 := Lib.hid (hHeld.trans (hbn.mono hHeld.size))
   clear hca hci hbn
   refine hK.out _ _ (by exact HB_1.out) ?_
   clear hK K hHeld
   intro hHeld
   try simp only [Act.put, putA, putB, putC]
   refine wpAnyN_one (i := 8) (o := ⟨some 70, _, _, _, _, _⟩) (by kernel_rfl) rfl (fun K hK => ?_)
   go_simp
   refine (with_one _ oa oc l4 l3 c4 c3 (j : Int) 1 im mn (HRO.out.below HB_1.out (Nat.le_refl _)) HC3.out.1 HCI4.out HC3.out.2 (by have := HJ1.out; omega) (by decide) HNI.out.1 HNI.out.2).mono ?_
   rintro e v2 ⟨ra, rn, rc, er, rfl, hok, hbn⟩
   have HOR := Lib.hid hok
   have HB_2 := Lib.hid (HB_1.out.trans (hbn.mono HB_1.out.size))
   clear hok hbn
   refine hK.out _ _ (by exact HB_2.out) ?_
   clear hK K hHeld
   intro hHeld
   try simp only [Act.put, putA, putB, putC]
   refine wpAnyN_u 9 ⟨some 61, _, _, _, _, _⟩ _ rfl ?_
   try simp only [Act.put, putA, putB, putC]
   refine wpAnyN_u 10 ⟨some 71, _, _, _, _, _⟩ _ rfl ?_
   try simp only [Act.put, putA, putB, putC]
   refine wpAnyN_u 11 ⟨some 72, _, _, _, _, _⟩ _ rfl ?_
   try simp only [Act.put, putA, putB, putC]
   refine wpAnyN_u 12 ⟨some 8, _, _, _, _, _⟩ _ rfl ?_
   try simp only [Act.put, putA, putB, putC]
   refine wpAnyN_u 13 ⟨some 9, _, _, _, _, _⟩ _ rfl ?_
   try simp only [Act.put, putA, putB, putC]
   refine wpAnyN_end (by kernel_rfl) ?_
   have HB3 := Lib.hid (HB2.out.trans (HB_2.out.mono (hNv _ HB2.out)))
   by_cases he : er = 0
   case neg =>
    as_aux_lemma =>
    have t1 : (er != 0) = true := by simpa using he
    clear he
    go_wp2_with fail
    exact bodyPost_ret (v := .tuple #[.slice none 0 0, .int .i64 er]) (by simp [results, Tryz.results7, go_sem]) rfl (RFold.none (by rw [HSS.out]; exact HBW.out.trans (HB3.out.mono (Nat.le_of_lt HSN.out))))
   case pos =>
   subst he
   obtain ⟨rfl, l5, c5, hr5, hi5⟩ := HOR.out rfl
   have hi5 : CInv ((j + 1 : Nat) : Int) im mn c5 := by rw [Int.natCast_add]; exact hi5
   have HOO : Hid (OutOk v2 (j + 1) im mn ra 1 rc) := Lib.hid (.inr ⟨by omega, rfl, l5, c5, hr5, hi5⟩)
   clear hr5 hi5
   go_wp2_with fail
   go_roundg (zn - (j + 1))
   case measure => have := HQQ.out; omega
   case rel => exact ⟨(j + 1), ra, 1, rc, rfl, by go_num, by have := HQQ.out; omega, HOO.out, HB3.out⟩

 case neg =>
  obtain rfl : zn = j := by have := HQQ.out; omega
  have HPO : Hid (RFold 0 zn ni nn w (.returned (.tuple #[.slice oa on oc, .int .i64 0])) wr) := Lib.hid ⟨oa, on, oc, 0, rfl, fun _ => by
   rcases HOK.out with ⟨-, -, h3, -⟩ | ⟨h1, h2, h3⟩
   ·exact .inl h3
   ·exact .inr ⟨h2, rfl, h1, h3⟩, by rw [HSS.out]; exact HBW.out.trans (HB.out.mono (Nat.le_of_lt HSN.out))⟩
  clear hlt
  go_wp2_with fail
  exact bodyPost_ret (v := .tuple #[.slice oa on oc, .int .i64 0]) (by simp [results, Tryz.results7, go_sem]) rfl HPO.out
end Go.Proofs.YtehmompbmnejkaaGreat
