/- The reader of package parse in memory, and what its small methods do. Conditions: those stated. -/
import Derived.Test.YtaofjnidniekjaaParB
import Derived.Test.YtaofjnidniekjaaMSch
import Derived.Test.YtaofjnidniekjaaLexI
import Derived.Test.YtaofjnidniekjaaBlk
import Derived.WalkLawsBesides
namespace Go.Proofs.Ytaofjnidniekjaa
open Go.RowKit

/-- what lies under a reader -/
structure RC where
  w0 : World
  R : Nat
  l : SchL
  s : Sch
  ta : Option Addr
  tc : Nat
  L : List Tok
/-- tokens as the layer below cuts them -/
structure TokOk (L : List Tok) : Prop where
  pos : 0 < L.length
  last : (tokAt L (L.length - 1)).k = 0
  many : L.length ≤ 1001
  num : ∀ x ∈ L, 0 ≤ x.n ∧ x.n ≤ 1000000000000000000
  size : ∀ x ∈ L, x.t.size ≤ 4096
  kind : ∀ x ∈ L, 0 ≤ x.k ∧ x.k ≤ 4
structure RC.Ok (C : RC) : Prop where
  size : C.w0.heap.size = C.R
  sch : SchAt C.w0 C.l C.s
  chk : chkS C.s = 0
  tok : OwnT C.w0 0 30 (.slice C.ta C.L.length C.tc) C.L.length C.L
  good : TokOk C.L
/-- a reader's cells but those of the query -/
def RC.hd (C : RC) (i : Nat) : List Value := [.slice C.l.ad C.l.nd C.l.cd, .slice C.l.ai C.l.ni C.l.ci, .slice C.l.an C.l.nn C.l.cn, .slice C.l.av C.l.nv C.l.cv, .slice C.ta C.L.length C.tc, .int .i64 i]
def Rd (C : RC) (w : World) (i : Nat) (g vf vc vo m : Value) : Prop := Blk w C.R 78 #[.slice C.l.ad C.l.nd C.l.cd, .slice C.l.ai C.l.ni C.l.ci, .slice C.l.an C.l.nn C.l.cn, .slice C.l.av C.l.nv C.l.cv, .slice C.ta C.L.length C.tc, .int .i64 i, g, vf, vc, vo, m]
/-- no block but the reader's has changed -/
structure Kp (R : Nat) (w w' : World) : Prop where
  os : w'.os = w.os
  tape : w'.tape = w.tape
  output : w'.output = w.output
  size : w.heap.size ≤ w'.heap.size
  block : ∀ k, k < w.heap.size → k ≠ R → w'.heap[k]? = w.heap[k]?
theorem Kp.refl (R : Nat) (w : World) : Kp R w w := ⟨rfl, rfl, rfl, Nat.le_refl _, fun _ _ _ => rfl⟩
theorem Kp.trans {R : Nat} {a b c : World} (h : Kp R a b) (k : Kp R b c) : Kp R a c :=
  ⟨k.os.trans h.os, k.tape.trans h.tape, k.output.trans h.output, Nat.le_trans h.size k.size, fun i hi hr => (k.block i (Nat.lt_of_lt_of_le hi h.size) hr).trans (h.block i hi hr)⟩
theorem Kp.of_below {R : Nat} {a b : World} (h : Below a.heap.size a b) : Kp R a b := ⟨h.os, h.tape, h.output, h.size, fun k hk _ => h.block k hk⟩
theorem Kp.alloc {R : Nat} {a b : World} (h : Kp R a b) (o : Obj) : Kp R a (b.alloc o) := h.trans (Kp.of_below ((Below.refl _ _).alloc (Nat.le_refl _) _))
theorem Kp.drew {R : Nat} {a b : World} (h : Kp R a b) : Kp R a b.drew := ⟨h.os, h.tape, h.output, h.size, h.block⟩
theorem Kp.drewN {R : Nat} {a b : World} (h : Kp R a b) (n : Nat) : Kp R a (b.drewN n) := ⟨h.os, h.tape, h.output, h.size, h.block⟩
theorem below_set {B : Nat} {w0 w : World} (h : Below B w0 w) {p : Addr} (hp : B ≤ p.block) (u : Value) : Below B w0 (w.setCell p u) :=
  ⟨h.os, h.tape, h.output, by simpa using h.size, fun k hk => (Below.heap_setCell _ _ _ _ (by omega)).trans (h.block k hk)⟩
theorem Kp.set {R : Nat} {a b : World} (h : Kp R a b) {p : Addr} (hp : p.block = R ∨ a.heap.size ≤ p.block) (u : Value) : Kp R a (b.setCell p u) := by
  refine ⟨h.os, h.tape, h.output, by simpa using h.size, fun k hk hr => ?_⟩
  rw [Below.heap_setCell _ _ _ _ (by omega)]
  exact h.block k hk hr
theorem Kp.below {R : Nat} {w0 a b : World} (h : Kp R a b) (hb : Below R w0 a) (hr : R < a.heap.size) : Below R w0 b :=
  ⟨h.os.trans hb.os, h.tape.trans hb.tape, h.output.trans hb.output, Nat.le_trans hb.size h.size, fun k hk => (h.block k (by omega) (by omega)).trans (hb.block k hk)⟩
theorem Kp.blk {R : Nat} {a b : World} (h : Kp R a b) {g : Nat} {t : TypeId} {cs : Array Value} (hb : Blk a g t cs) (hg : g ≠ R) : Blk b g t cs := (h.block g hb.lt hg).trans hb
theorem Kp.own {R : Nat} {a b : World} (h : Kp R a b) {B sz n : Nat} {e : TypeId} {v : Value} {cs : List Value} (ho : a.ownsRow B e sz v n cs) (hB : R < B) : b.ownsRow B e sz v n cs := by
  obtain ⟨h1, h2⟩ := ho
  refine ⟨h1, ?_⟩
  rcases h2 with h2 | ⟨g, cap, cur, hv, hg, hh, r⟩
  · exact .inl h2
  · refine .inr ⟨g, cap, cur, hv, hg, ?_, r⟩
    rw [h.block g (Array.getElem?_eq_some_iff.1 hh).1 (by omega)]; exact hh
/-- the reader has moved from place i to place j; all else stands -/
structure Mv (C : RC) (i j : Nat) (w w' : World) : Prop where
  kp : Kp C.R w w'
  rd : ∀ g vf vc vo m, Rd C w i g vf vc vo m → Rd C w' j g vf vc vo m
theorem Mv.trans {C : RC} {i j k : Nat} {a b c : World} (h : Mv C i j a b) (h' : Mv C j k b c) : Mv C i k a c := ⟨h.kp.trans h'.kp, fun g vf vc vo m hr => h'.rd g vf vc vo m (h.rd g vf vc vo m hr)⟩
theorem Mv.of_below {C : RC} {i : Nat} {a b : World} (h : Below a.heap.size a b) : Mv C i i a b := ⟨Kp.of_below h, fun _ _ _ _ _ hr => (h.block _ hr.lt).trans hr⟩
/-- the reader stands at place i -/
def RAt (C : RC) (i : Nat) (w : World) : Prop := Below C.R C.w0 w ∧ ∃ g vf vc vo m, Rd C w i g vf vc vo m
theorem RAt.lt {C : RC} {i : Nat} {w : World} (h : RAt C i w) : C.R < w.heap.size := by obtain ⟨_, _, _, _, _, _, h⟩ := h; exact h.lt
theorem RAt.mv {C : RC} {i j : Nat} {w w' : World} (h : RAt C i w) (hm : Mv C i j w w') : RAt C j w' := by
  have hl := h.lt
  obtain ⟨hb, g, vf, vc, vo, m, hr⟩ := h
  exact ⟨hm.kp.below hb hl, g, vf, vc, vo, m, hm.rd _ _ _ _ _ hr⟩
def faultV (a e : Int) : Value := .iface 74 (.agg #[.int .i64 a, .int .i64 e])
/-- the fault at a token ends the call -/
def Fails (C : RC) (f : Nat × Nat) (e : Ending) (w' : World) : Prop := e = .panicked [{ v := faultV (tokAt C.L f.1).a f.2, recovered := false }] ∧ Below C.R C.w0 w'
def Tok.val (x : Tok) : Value := .agg #[.int .i64 x.k, .string x.t, .int .i64 x.n, .int .i64 x.a]
theorem tokAt_mem {L : List Tok} {i : Nat} (h : i < L.length) : L[i]? = some (tokAt L i) ∧ tokAt L i ∈ L := by
  unfold tokAt
  rw [List.getD_eq_getElem?_getD, List.getElem?_eq_getElem h]
  exact ⟨rfl, List.getElem_mem h⟩

theorem blk_d {B : Nat} {a w : World} (h : Below B a w) : Below B a w.drew := ⟨h.os, h.tape, h.output, h.size, h.block⟩
theorem next_any (C : RC) (hC : C.Ok) (i : Nat) (hi : i < C.L.length) (w : World) (hR : RAt C i w) :
    Calls Try.prog 60 #[.pointer (some ⟨C.R, 0, none⟩)] w fun e w' => e = .returned (tokAt C.L i).val ∧ Mv C i i w w' := by
  have HM : Hid (∀ w', Below w.heap.size w w' → Mv C i i w w') := Lib.hid (fun w' hb => Mv.of_below hb)
  obtain ⟨hb, g, vf, vc, vo, m, hr⟩ := hR
  have hlt := hr.lt
  obtain ⟨gt, hga, hnc, hgl, htc⟩ := (hC.tok.below hb (Nat.le_of_eq hC.size)).cell (tokAt_mem hi).1
  have c4 : w.cell? ⟨C.R, 4, none⟩ = some (.slice (some ⟨gt, 0, none⟩) C.L.length C.tc) := by rw [Blk.cell hr]; rw [← hga]; rfl
  have c5 : w.cell? ⟨C.R, 5, none⟩ = some (.int .i64 i) := by rw [Blk.cell hr]; rfl
  have t0 := htc 0 _ rfl
  have t1 := htc 1 _ rfl
  have t2 := htc 2 _ rfl
  have t3 := htc 3 _ rfl
  unfold Tok.val
  obtain ⟨⟨k, t, n, a⟩, hx⟩ : ∃ x, tokAt C.L i = x := ⟨_, rfl⟩
  rw [hx] at t0 t1 t2 t3 ⊢
  simp only [Nat.add_zero] at t0 t1 t2 t3
  obtain ⟨R, hRR⟩ : ∃ r, C.R = r := ⟨_, rfl⟩
  obtain ⟨N, hN⟩ : ∃ r, C.L.length = r := ⟨_, rfl⟩
  obtain ⟨tc, htc'⟩ : ∃ r, C.tc = r := ⟨_, rfl⟩
  rw [hRR] at c4 c5 hlt ⊢
  rw [hN] at c4 hi hnc
  rw [htc'] at c4 hnc
  have i0 : (0 : Int) ≤ (i : Int) ∧ (i : Int) < (N : Int) := by omega
  clear hga hb hr htc hx hRR hN htc'
  go_enter Try.func60, Try.ntmps60
  go_wp2_with fail
  go_region
  go_wp2_with fail
  refine bodyPost_ret (v := .agg #[.int .i64 k, .string t, .int .i64 n, .int .i64 a]) (by simp [results, Try.results60, go_sem]) rfl ⟨rfl, ?_⟩
  exact HM.out _ (blk_d ((Below.refl _ _).alloc (Nat.le_refl _) _))

theorem tok_f0 (k n a : Int) (t : ByteArray) (w : World) : (Instr.field 30 (.agg #[.int .i64 k, .string t, .int .i64 n, .int .i64 a]) 0).run Try.prog w = .ok (.int .i64 k) w := by kernel_rfl
theorem tok_f3 (k n a : Int) (t : ByteArray) (w : World) : (Instr.field 30 (.agg #[.int .i64 k, .string t, .int .i64 n, .int .i64 a]) 3).run Try.prog w = .ok (.int .i64 a) w := by kernel_rfl
set_option maxRecDepth 100000 in
theorem fail_any (C : RC) (hC : C.Ok) (i : Nat) (hi : i < C.L.length) (er : Nat) (w : World) (hR : RAt C i w) :
    Calls Try.prog 61 #[.pointer (some ⟨C.R, 0, none⟩), .int .i64 (er : Int)] w (Fails C (i, er)) := by
  have HN := Lib.hid (next_any C hC i hi w hR)
  have HB : Hid (∀ w', Mv C i i w w' → Below C.R C.w0 w') := Lib.hid (fun w' hm => (hR.mv hm).1)
  unfold Fails faultV
  dsimp only
  obtain ⟨x, hx⟩ : ∃ x, tokAt C.L i = x := ⟨_, rfl⟩
  rw [hx] at HN ⊢
  clear hx
  obtain ⟨k, t, n, a⟩ := x
  unfold Tok.val at HN
  go_enter Try.func61, Try.ntmps61
  go_wp2_with fail
  refine HN.out.mono ?_; rintro e w1 ⟨rfl, hm⟩
  have HM := Lib.hid (HB.out _ hm)
  have hfd := tok_f3 k n a t
  clear hm hR HN HB
  go_wp2_with fail
  exact ⟨rfl, rfl, HM.out⟩
theorem Mv.step {C : RC} {i : Nat} {w W : World} (h : Mv C i i w W) : Mv C i (i + 1) w (W.setCell ⟨C.R, 5, none⟩ (.int .i64 ((i : Int) + 1))) :=
  ⟨h.kp.set (.inl rfl) _, fun g vf vc vo m hr => ((h.rd g vf vc vo m hr).set_ 5 _).to rfl⟩
theorem Mv.alloc {C : RC} {i j : Nat} {w W : World} (h : Mv C i j w W) (o : Obj) : Mv C i j w (W.alloc o) := ⟨h.kp.alloc o, fun g vf vc vo m hr => (h.rd g vf vc vo m hr).alloc o⟩
theorem Mv.drew {C : RC} {i j : Nat} {w W : World} (h : Mv C i j w W) : Mv C i j w W.drew := ⟨h.kp.drew, fun g vf vc vo m hr => h.rd g vf vc vo m hr⟩
theorem RAt.cells {C : RC} {i : Nat} {w : World} (h : RAt C i w) : w.cell? ⟨C.R, 5, none⟩ = some (.int .i64 i) ∧ w.frozen? ⟨C.R, 5, none⟩ = false := by
  obtain ⟨_, g, vf, vc, vo, m, hr⟩ := h
  exact ⟨by rw [Blk.cell hr]; rfl, Blk.frozen hr 5⟩
theorem word_iff (L : List Tok) (i : Nat) (u : ByteArray) : wordAt L i u.data.toList = decide (((tokAt L i).k = 1 ∨ (tokAt L i).k = 4) ∧ (tokAt L i).t = u) := by
  unfold wordAt
  rw [decide_eq_decide]
  constructor
  · rintro ⟨h1, h2⟩; exact ⟨h1, ByteArray.ext (Array.ext' h2)⟩
  · rintro ⟨h1, h2⟩; exact ⟨h1, by rw [h2]⟩

set_option maxRecDepth 100000 in
theorem eat_any (C : RC) (hC : C.Ok) (i : Nat) (hi : i < C.L.length) (u : ByteArray) (b : Bool) (hb : wordAt C.L i u.data.toList = b) (w : World) (hR : RAt C i w) :
    Calls Try.prog 54 #[.pointer (some ⟨C.R, 0, none⟩), .string u] w fun e w' => e = .returned (.bool b) ∧ Mv C i (if b then i + 1 else i) w w' := by
  have HN := Lib.hid (next_any C hC i hi w hR)
  have HR := Lib.hid hR
  have hL : i ≤ 1001 := by have := hC.good.many; omega
  rw [word_iff] at hb
  obtain ⟨x, hx⟩ : ∃ x, tokAt C.L i = x := ⟨_, rfl⟩
  rw [hx] at HN hb
  clear hx hR
  obtain ⟨k, t, n, a⟩ := x
  unfold Tok.val at HN
  simp only at hb
  have HBB := Lib.hid hb
  obtain ⟨R, hRR⟩ : ∃ r, C.R = r := ⟨_, rfl⟩
  have HRR := Lib.hid hRR
  rw [hRR] at HN ⊢
  clear hb hRR
  go_enter Try.func54, Try.ntmps54
  go_wp2_with fail
  refine HN.out.mono ?_; rintro e w1 ⟨rfl, hm⟩
  have HM := Lib.hid hm
  have HM2 := Lib.hid (hm.alloc (.cells #[.int .i64 k, .string t, .int .i64 n, .int .i64 a] 30))
  obtain ⟨c5, f5⟩ := (HR.out.mv HM2.out).cells
  rw [HRR.out] at c5 f5
  clear hm HN
  by_cases ht : t = u
  · have q0 := str_eq ht
    subst ht
    by_cases h1 : k = 1 ∨ k = 4
    · have hbt : b = true := by rw [← HBB.out]; exact decide_eq_true ⟨h1, rfl⟩
      subst hbt
      have hfin := HM2.out.step
      rw [HRR.out] at hfin
      have HF := Lib.hid hfin
      clear hfin
      rcases h1 with rfl | rfl
      all_goals
        go_wp2_with fail
        go_ret
        exact ⟨rfl, HF.out⟩
    · have q1 : (k != 1) = true := by simp; omega
      have q2 : (k != 4) = true := by simp; omega
      have hbt : b = false := by rw [← HBB.out]; exact decide_eq_false (fun h => h1 h.1)
      subst hbt
      clear h1
      go_wp2_with fail
      go_ret
      exact ⟨rfl, HM2.out⟩
  · have q0 := str_ne ht
    have hbt : b = false := by rw [← HBB.out]; exact decide_eq_false (fun h => ht h.2)
    subst hbt
    clear ht
    go_wp2_with fail
    go_ret
    exact ⟨rfl, HM2.out⟩

set_option maxRecDepth 100000 in
theorem want_any (C : RC) (hC : C.Ok) (i : Nat) (hi : i < C.L.length) (u : ByteArray) (w : World) (hR : RAt C i w) :
    Calls Try.prog 50 #[.pointer (some ⟨C.R, 0, none⟩), .string u] w fun e w' =>
      match wantS C.L i u.data.toList with
      | .ok j => e = .returned (.tuple #[]) ∧ Mv C i j w w'
      | .error f => Fails C f e w' := by
  obtain ⟨b, hb⟩ : ∃ b, wordAt C.L i u.data.toList = b := ⟨_, rfl⟩
  have HE := Lib.hid (eat_any C hC i hi u b hb w hR)
  have HF : Hid (∀ w1, Mv C i i w w1 → Calls Try.prog 61 #[.pointer (some ⟨C.R, 0, none⟩), .int .i64 (6 : Int)] w1 (Fails C (i, 6))) := Lib.hid (fun w1 hm => fail_any C hC i hi 6 w1 (hR.mv hm))
  unfold wantS
  rw [hb]
  clear hb hR
  obtain ⟨R, hRR⟩ : ∃ r, C.R = r := ⟨_, rfl⟩
  rw [hRR] at HE HF ⊢
  clear hRR
  go_enter Try.func50, Try.ntmps50
  go_wp2_with fail
  refine HE.out.mono ?_; rintro e w1 ⟨rfl, hm⟩
  have HM := Lib.hid hm
  clear hm
  rcases b with _ | _
  · go_wp2_with fail
    refine (HF.out _ HM.out).mono ?_; rintro e w2 ⟨rfl, hb2⟩
    have HB2 := Lib.hid hb2
    clear hb2
    go_wp2_with fail
    exact ⟨rfl, rfl, HB2.out⟩
  · go_wp2_with fail
    go_end0
    exact ⟨rfl, HM.out⟩
end Go.Proofs.Ytaofjnidniekjaa
