/- The reader of package parse in memory, and what its small methods do. Conditions: those stated. -/
import Derived.Test.YtaofjnidniekjaaGreatDoorMPaA
import Derived.Test.YtaofjnidniekjaaGreatDoorMSch
import Derived.Test.YtaofjnidniekjaaGreatDoorMLxA
import Derived.Test.YtaofjnidniekjaaGreatDoorBlk
import Derived.WalkLawsBesides
import Derived.StillTailTactics
import Derived.Recover
namespace Go.Proofs.YtaofjnidniekjaaGreatDoor
open Go.RowKit

/-- what lies under a reader -/
structure RC where
 w0 : World
 R : Nat
 l : SchL
 s : Sch
 ta : Option Addr
 tc : Nat
 L : List Tok
/-- tokens as the layer below cuts them -/
structure TokOk (L : List Tok) : Prop where
 pos : 0 < L.length
 last : (tokAt L (L.length - 1)).k = 0
 many : L.length ≤ 1001
 num : ∀ x ∈ L, 0 ≤ x.n ∧ x.n ≤ 1000000000000000000
 size : ∀ x ∈ L, x.t.size ≤ 4096
 kind : ∀ x ∈ L, 0 ≤ x.k ∧ x.k ≤ 4
structure RC.Ok (C : RC) : Prop where
 size : C.w0.heap.size = C.R
 sch : SchAt C.w0 C.l C.s
 chk : chkS C.s = 0
 tok : OwnT C.w0 0 98 (.slice C.ta C.L.length C.tc) C.L.length C.L
 good : TokOk C.L
def Rd (C : RC) (w : World) (i : Nat) (g vf vc vo m : Value) : Prop := Blk w C.R 80 #[.slice C.l.ad C.l.nd C.l.cd, .slice C.l.ai C.l.ni C.l.ci, .slice C.l.an C.l.nn C.l.cn, .slice C.l.av C.l.nv C.l.cv, .slice C.ta C.L.length C.tc, .int .i64 i, g, vf, vc, vo, m]
/-- no block but the reader's has changed -/
structure Kp (R : Nat) (w w' : World) : Prop where
 os : w'.os = w.os
 tape : w'.tape = w.tape
 output : w'.output = w.output
 size : w.heap.size ≤ w'.heap.size
 block : ∀ k, k < w.heap.size → k ≠ R → w'.heap[k]? = w.heap[k]?
theorem Kp.trans {R : Nat} {a b c : World} (h : Kp R a b) (k : Kp R b c) : Kp R a c :=
 ⟨k.os.trans h.os, k.tape.trans h.tape, k.output.trans h.output, Nat.le_trans h.size k.size, fun i hi hr => (k.block i (Nat.lt_of_lt_of_le hi h.size) hr).trans (h.block i hi hr)⟩
theorem Kp.of_below {R : Nat} {a b : World} (h : Below a.heap.size a b) : Kp R a b := ⟨h.os, h.tape, h.output, h.size, fun k hk _ => h.block k hk⟩
theorem Kp.alloc {R : Nat} {a b : World} (h : Kp R a b) (o : Obj) : Kp R a (b.alloc o) := h.trans (Kp.of_below ((Below.refl _ _).alloc (Nat.le_refl _) _))
theorem Kp.drew {R : Nat} {a b : World} (h : Kp R a b) : Kp R a b.drew := ⟨h.os, h.tape, h.output, h.size, h.block⟩
theorem below_set {B : Nat} {w0 w : World} (h : Below B w0 w) {p : Addr} (hp : B ≤ p.block) (u : Value) : Below B w0 (w.setCell p u) :=
 ⟨h.os, h.tape, h.output, by simpa using h.size, fun k hk => (Below.heap_setCell _ _ _ _ (by omega)).trans (h.block k hk)⟩
theorem Kp.set {R : Nat} {a b : World} (h : Kp R a b) {p : Addr} (hp : p.block = R ∨ a.heap.size ≤ p.block) (u : Value) : Kp R a (b.setCell p u) := by
 refine ⟨h.os, h.tape, h.output, by simpa using h.size, fun k hk hr => ?_⟩
 rw [Below.heap_setCell _ _ _ _ (by omega)]
 exact h.block k hk hr
theorem Kp.below {R : Nat} {w0 a b : World} (h : Kp R a b) (hb : Below R w0 a) (hr : R < a.heap.size) : Below R w0 b :=
 ⟨h.os.trans hb.os, h.tape.trans hb.tape, h.output.trans hb.output, Nat.le_trans hb.size h.size, fun k hk => (h.block k (by omega) (by omega)).trans (hb.block k hk)⟩
theorem Kp.blk {R : Nat} {a b : World} (h : Kp R a b) {g : Nat} {t : TypeId} {cs : Array Value} (hb : Blk a g t cs) (hg : g ≠ R) : Blk b g t cs := (h.block g hb.lt hg).trans hb
theorem Kp.own {R : Nat} {a b : World} (h : Kp R a b) {B sz n : Nat} {e : TypeId} {v : Value} {cs : List Value} (ho : a.ownsRow B e sz v n cs) (hB : R < B) : b.ownsRow B e sz v n cs := by
 obtain ⟨h1, h2⟩ := ho
 refine ⟨h1, ?_⟩
 rcases h2 with h2 | ⟨g, cap, cur, hv, hg, hh, r⟩
 ·exact .inl h2
 ·refine .inr ⟨g, cap, cur, hv, hg, ?_, r⟩
  rw [h.block g (Array.getElem?_eq_some_iff.1 hh).1 (by omega)]; exact hh
/-- the reader has moved from place i to place j; all else stands -/
structure Mv (C : RC) (i j : Nat) (w w' : World) : Prop where
 kp : Kp C.R w w'
 rd : ∀ g vf vc vo m, Rd C w i g vf vc vo m → Rd C w' j g vf vc vo m
theorem Mv.trans {C : RC} {i j k : Nat} {a b c : World} (h : Mv C i j a b) (h' : Mv C j k b c) : Mv C i k a c := ⟨h.kp.trans h'.kp, fun g vf vc vo m hr => h'.rd g vf vc vo m (h.rd g vf vc vo m hr)⟩
theorem Mv.of_below {C : RC} {i : Nat} {a b : World} (h : Below a.heap.size a b) : Mv C i i a b := ⟨Kp.of_below h, fun _ _ _ _ _ hr => (h.block _ hr.lt).trans hr⟩
/-- the reader stands at place i -/
def RAt (C : RC) (i : Nat) (w : World) : Prop := Below C.R C.w0 w ∧ ∃ g vf vc vo m, Rd C w i g vf vc vo m
theorem RAt.lt {C : RC} {i : Nat} {w : World} (h : RAt C i w) : C.R < w.heap.size := by obtain ⟨_, _, _, _, _, _, h⟩ := h; exact h.lt
theorem RAt.mv {C : RC} {i j : Nat} {w w' : World} (h : RAt C i w) (hm : Mv C i j w w') : RAt C j w' := by
 have hl := h.lt
 obtain ⟨hb, g, vf, vc, vo, m, hr⟩ := h
 exact ⟨hm.kp.below hb hl, g, vf, vc, vo, m, hm.rd _ _ _ _ _ hr⟩
def faultV (a e : Int) : Value := .iface 76 (.agg #[.int .i64 a, .int .i64 e])
/-- the fault at a token ends the call -/
def Fails (C : RC) (f : Nat × Nat) (e : Ending) (w' : World) : Prop := e = .panicked [{ v := faultV (tokAt C.L f.1).a f.2, recovered := false }] ∧ Below C.R C.w0 w'
def Tok.val (x : Tok) : Value := .agg #[.int .i64 x.k, .string x.t, .int .i64 x.n, .int .i64 x.a]
theorem tokAt_mem {L : List Tok} {i : Nat} (h : i < L.length) : L[i]? = some (tokAt L i) ∧ tokAt L i ∈ L := by
 unfold tokAt
 rw [List.getD_eq_getElem?_getD, List.getElem?_eq_getElem h]
 exact ⟨rfl, List.getElem_mem h⟩

theorem blk_d {B : Nat} {a w : World} (h : Below B a w) : Below B a w.drew := ⟨h.os, h.tape, h.output, h.size, h.block⟩
theorem next_any (C : RC) (hC : C.Ok) (i : Nat) (hi : i < C.L.length) (w : World) (hR : RAt C i w) :
  Calls Tryz.prog 65 #[.pointer (some ⟨C.R, 0, none⟩)] w fun e w' => e = .returned (tokAt C.L i).val ∧ Mv C i i w w' := by
 have HM : Hid (∀ w', Below w.heap.size w w' → Mv C i i w w') := Lib.hid (fun w' hb => Mv.of_below hb)
 obtain ⟨hb, g, vf, vc, vo, m, hr⟩ := hR
 have hlt := hr.lt
 obtain ⟨gt, hga, hnc, hgl, htc⟩ := (hC.tok.below hb (Nat.le_of_eq hC.size)).cell (tokAt_mem hi).1
 have c4 : w.cell? ⟨C.R, 4, none⟩ = some (.slice (some ⟨gt, 0, none⟩) C.L.length C.tc) := by rw [Blk.cell hr]; rw [← hga]; rfl
 have c5 : w.cell? ⟨C.R, 5, none⟩ = some (.int .i64 i) := by rw [Blk.cell hr]; rfl
 have t0 := htc 0 _ rfl
 have t1 := htc 1 _ rfl
 have t2 := htc 2 _ rfl
 have t3 := htc 3 _ rfl
 unfold Tok.val
 obtain ⟨⟨k, t, n, a⟩, hx⟩ : ∃ x, tokAt C.L i = x := ⟨_, rfl⟩
 rw [hx] at t0 t1 t2 t3 ⊢
 simp only [Nat.add_zero] at t0 t1 t2 t3
 obtain ⟨R, hRR⟩ : ∃ r, C.R = r := ⟨_, rfl⟩
 obtain ⟨N, hN⟩ : ∃ r, C.L.length = r := ⟨_, rfl⟩
 obtain ⟨tc, htc'⟩ : ∃ r, C.tc = r := ⟨_, rfl⟩
 rw [hRR] at c4 c5 hlt ⊢
 rw [hN] at c4 hi hnc
 rw [htc'] at c4 hnc
 have i0 : (0 : Int) ≤ (i : Int) ∧ (i : Int) < (N : Int) := by omega
 clear hga hb hr htc hx hRR hN htc'
 go_enter Tryz.func65, Tryz.ntmps65
 go_wp2_with fail
 go_region
 go_wp2_with fail
 refine bodyPost_ret (v := .agg #[.int .i64 k, .string t, .int .i64 n, .int .i64 a]) (by simp [results, Tryz.results65, go_sem]) rfl ⟨rfl, ?_⟩
 exact HM.out _ (blk_d ((Below.refl _ _).alloc (Nat.le_refl _) _))

theorem tok_f0 (k n a : Int) (t : ByteArray) (w : World) : (Instr.field 98 (.agg #[.int .i64 k, .string t, .int .i64 n, .int .i64 a]) 0).run Tryz.prog w = .ok (.int .i64 k) w := by kernel_rfl
theorem tok_f3 (k n a : Int) (t : ByteArray) (w : World) : (Instr.field 98 (.agg #[.int .i64 k, .string t, .int .i64 n, .int .i64 a]) 3).run Tryz.prog w = .ok (.int .i64 a) w := by kernel_rfl
set_option maxRecDepth 100000 in
theorem fail_any (C : RC) (hC : C.Ok) (i : Nat) (hi : i < C.L.length) (er : Nat) (w : World) (hR : RAt C i w) :
  Calls Tryz.prog 66 #[.pointer (some ⟨C.R, 0, none⟩), .int .i64 (er : Int)] w (Fails C (i, er)) := by
 have HN := Lib.hid (next_any C hC i hi w hR)
 have HB : Hid (∀ w', Mv C i i w w' → Below C.R C.w0 w') := Lib.hid (fun w' hm => (hR.mv hm).1)
 unfold Fails faultV
 dsimp only
 obtain ⟨x, hx⟩ : ∃ x, tokAt C.L i = x := ⟨_, rfl⟩
 rw [hx] at HN ⊢
 clear hx
 obtain ⟨k, t, n, a⟩ := x
 unfold Tok.val at HN
 go_enter Tryz.func66, Tryz.ntmps66
 go_wp2_with fail
 refine HN.out.mono ?_; rintro e w1 ⟨rfl, hm⟩
 have HM := Lib.hid (HB.out _ hm)
 have hfd := tok_f3 k n a t
 clear hm hR HN HB
 go_wp2_with fail
 exact ⟨rfl, rfl, HM.out⟩
theorem Mv.step {C : RC} {i : Nat} {w W : World} (h : Mv C i i w W) : Mv C i (i + 1) w (W.setCell ⟨C.R, 5, none⟩ (.int .i64 ((i : Int) + 1))) :=
 ⟨h.kp.set (.inl rfl) _, fun g vf vc vo m hr => ((h.rd g vf vc vo m hr).set_ 5 _).to rfl⟩
theorem Mv.alloc {C : RC} {i j : Nat} {w W : World} (h : Mv C i j w W) (o : Obj) : Mv C i j w (W.alloc o) := ⟨h.kp.alloc o, fun g vf vc vo m hr => (h.rd g vf vc vo m hr).alloc o⟩
theorem Mv.drew {C : RC} {i j : Nat} {w W : World} (h : Mv C i j w W) : Mv C i j w W.drew := ⟨h.kp.drew, fun g vf vc vo m hr => h.rd g vf vc vo m hr⟩
theorem RAt.cells {C : RC} {i : Nat} {w : World} (h : RAt C i w) : w.cell? ⟨C.R, 5, none⟩ = some (.int .i64 i) ∧ w.frozen? ⟨C.R, 5, none⟩ = false := by
 obtain ⟨_, g, vf, vc, vo, m, hr⟩ := h
 exact ⟨by rw [Blk.cell hr]; rfl, Blk.frozen hr 5⟩
theorem word_iff (L : List Tok) (i : Nat) (u : ByteArray) : wordAt L i u.data.toList = decide (((tokAt L i).k = 1 ∨ (tokAt L i).k = 4) ∧ (tokAt L i).t = u) := by
 unfold wordAt
 rw [decide_eq_decide]
 constructor
 ·rintro ⟨h1, h2⟩; exact ⟨h1, ByteArray.ext (Array.ext' h2)⟩
 ·rintro ⟨h1, h2⟩; exact ⟨h1, by rw [h2]⟩

set_option maxRecDepth 100000 in
theorem eat_any (C : RC) (hC : C.Ok) (i : Nat) (hi : i < C.L.length) (u : ByteArray) (b : Bool) (hb : wordAt C.L i u.data.toList = b) (w : World) (hR : RAt C i w) :
  Calls Tryz.prog 59 #[.pointer (some ⟨C.R, 0, none⟩), .string u] w fun e w' => e = .returned (.bool b) ∧ Mv C i (if b then i + 1 else i) w w' := by
 have HN := Lib.hid (next_any C hC i hi w hR)
 have HR := Lib.hid hR
 have hL : i ≤ 1001 := by have := hC.good.many; omega
 rw [word_iff] at hb
 obtain ⟨x, hx⟩ : ∃ x, tokAt C.L i = x := ⟨_, rfl⟩
 rw [hx] at HN hb
 clear hx hR
 obtain ⟨k, t, n, a⟩ := x
 unfold Tok.val at HN
 simp only at hb
 have HBB := Lib.hid hb
 obtain ⟨R, hRR⟩ : ∃ r, C.R = r := ⟨_, rfl⟩
 have HRR := Lib.hid hRR
 rw [hRR] at HN ⊢
 clear hb hRR
 go_enter Tryz.func59, Tryz.ntmps59
 go_wp2_with fail
 refine HN.out.mono ?_; rintro e w1 ⟨rfl, hm⟩
 have HM := Lib.hid hm
 have HM2 := Lib.hid (hm.alloc (.cells #[.int .i64 k, .string t, .int .i64 n, .int .i64 a] 98))
 obtain ⟨c5, f5⟩ := (HR.out.mv HM2.out).cells
 rw [HRR.out] at c5 f5
 clear hm HN
 by_cases ht : t = u
 ·have q0 := str_eq ht
  subst ht
  by_cases h1 : k = 1 ∨ k = 4
  ·have hbt : b = true := by rw [← HBB.out]; exact decide_eq_true ⟨h1, rfl⟩
   subst hbt
   have hfin := HM2.out.step
   rw [HRR.out] at hfin
   have HF := Lib.hid hfin
   clear hfin
   rcases h1 with rfl | rfl
   all_goals
    go_wp2_with fail
    go_ret
    exact ⟨rfl, HF.out⟩
  ·have q1 : (k != 1) = true := by simp; omega
   have q2 : (k != 4) = true := by simp; omega
   have hbt : b = false := by rw [← HBB.out]; exact decide_eq_false (fun h => h1 h.1)
   subst hbt
   clear h1
   go_wp2_with fail
   go_ret
   exact ⟨rfl, HM2.out⟩
 ·have q0 := str_ne ht
  have hbt : b = false := by rw [← HBB.out]; exact decide_eq_false (fun h => ht h.2)
  subst hbt
  clear ht
  go_wp2_with fail
  go_ret
  exact ⟨rfl, HM2.out⟩

set_option maxRecDepth 100000 in
theorem want_any (C : RC) (hC : C.Ok) (i : Nat) (hi : i < C.L.length) (u : ByteArray) (w : World) (hR : RAt C i w) :
  Calls Tryz.prog 55 #[.pointer (some ⟨C.R, 0, none⟩), .string u] w fun e w' =>
   match wantS C.L i u.data.toList with
   | .ok j => e = .returned (.tuple #[]) ∧ Mv C i j w w'
   | .error f => Fails C f e w' := by
 obtain ⟨b, hb⟩ : ∃ b, wordAt C.L i u.data.toList = b := ⟨_, rfl⟩
 have HE := Lib.hid (eat_any C hC i hi u b hb w hR)
 have HF : Hid (∀ w1, Mv C i i w w1 → Calls Tryz.prog 66 #[.pointer (some ⟨C.R, 0, none⟩), .int .i64 (6 : Int)] w1 (Fails C (i, 6))) := Lib.hid (fun w1 hm => fail_any C hC i hi 6 w1 (hR.mv hm))
 unfold wantS
 rw [hb]
 clear hb hR
 obtain ⟨R, hRR⟩ : ∃ r, C.R = r := ⟨_, rfl⟩
 rw [hRR] at HE HF ⊢
 clear hRR
 go_enter Tryz.func55, Tryz.ntmps55
 go_wp2_with fail
 refine HE.out.mono ?_; rintro e w1 ⟨rfl, hm⟩
 have HM := Lib.hid hm
 clear hm
 rcases b with _ | _
 ·go_wp2_with fail
  refine (HF.out _ HM.out).mono ?_; rintro e w2 ⟨rfl, hb2⟩
  have HB2 := Lib.hid hb2
  clear hb2
  go_wp2_with fail
  exact ⟨rfl, rfl, HB2.out⟩
 ·go_wp2_with fail
  go_end0
  exact ⟨rfl, HM.out⟩
end Go.Proofs.YtaofjnidniekjaaGreatDoor
/- The contract of package schema's Find, where the schema is right. Conditions: those stated. -/
namespace Go.Proofs.YtaofjnidniekjaaGreatDoor
open Go.RowKit

def dimN (s : Sch) : List ByteArray := s.dims.map (·.1)
/-- what has a name -/
def findS (s : Sch) (t : ByteArray) : Int × Int :=
 if 0 ≤ place (dimN s) t then (1, place (dimN s) t) else if 0 ≤ place s.ints t then (2, place s.ints t) else if 0 ≤ place s.nums t then (3, place s.nums t) else (0, 0)
theorem dimN_get {s : Sch} {i : Nat} (h : i < s.dims.length) : (dimN s).getD i ByteArray.empty = (dimAt s.dims i).1 := by
 unfold dimN dimAt
 simp [List.getD_eq_getElem?_getD, h]
def RFind (t : ByteArray) (s : Sch) (w : World) (e : Ending) (w' : World) : Prop := e = .returned (.tuple #[.int .i64 (findS s t).1, .int .i64 (findS s t).2]) ∧ Below w.heap.size w w'
theorem RFind.mk {t : ByteArray} {s : Sch} {w w' : World} {k p : Int} {S N : Nat} {w0 : World} (hc : findS s t = (k, p)) (hS : w.heap.size = S) (hbw : Below S w w0) (hn : S < N) (hb : Below N w0 w') : RFind t s w (.returned (.tuple #[.int .i64 k, .int .i64 p])) w' := by
 subst hS
 exact ⟨by rw [hc], hbw.trans (hb.mono (Nat.le_of_lt hn))⟩

set_option maxRecDepth 100000 in
set_option maxHeartbeats 2000000 in
theorem find_any (w : World) (l : SchL) (s : Sch) (h : SchAt w l s) (hk : chkS s = 0) (t : ByteArray) :
  Calls Tryz.prog 116 #[l.val, .string t] w (RFind t s w) := by
 obtain ⟨ad, nd, cd, ai, ni, ci, an, nn, cn, av, nv, cv⟩ := l
 obtain ⟨hbx, hbw, hsz⟩ := boxed w 26 #[.slice ad nd cd, .slice ai ni ci, .slice an nn cn, .slice av nv cv]
 have HS := Lib.hid (h.below hbw (Nat.le_refl _))
 have HBW := Lib.hid hbw
 have HK := Lib.hid hk
 obtain ⟨N, hN⟩ : ∃ N, (w.alloc (.cells #[.slice ad nd cd, .slice ai ni ci, .slice an nn cn, .slice av nv cv] 26)).heap.size = N := ⟨_, rfl⟩
 have HN1 : Hid (w.heap.size < N) := Lib.hid (by rw [← hN, hsz]; omega)
 have hnd : nd ≤ 6 := by have h1 := (chk_dims hk).1; have h2 : s.dims.length = nd := h.2.1; omega
 have e0 := hbx 0
 have e1 := hbx 1
 have e2 := hbx 2
 have e3 := hbx 3
 simp only [List.getElem?_toArray, List.getElem?_cons_zero, List.getElem?_cons_succ] at e0 e1 e2 e3
 have HE0 := Lib.hid e0
 have HE1 := Lib.hid e1
 have HE2 := Lib.hid e2
 clear h hbw hbx hsz hk
 unfold SchL.val
 go_enter Tryz.func116, Tryz.ntmps116
 go_upto_region 1 with fail
 generalize (w.alloc (.cells #[.slice ad nd cd, .slice ai ni ci, .slice an nn cn, .slice av nv cv] 26)) = w0 at *
 generalize hS : w.heap.size = S at *
 have HSS := Lib.hid hS
 have HN := Lib.hid hN
 clear hS hN
 go_wp2_with fail
 refine (schk_any _ ⟨ad, nd, cd, ai, ni, ci, an, nn, cn, av, nv, cv⟩ s HS.out).mono ?_
 rintro e w1 ⟨rfl, hb1⟩
 rw [HK.out]
 have HB1 : Hid (Below N w0 w1) := Lib.hid (by rw [← HN.out]; exact hb1)
 have e0 : w1.cell? ⟨S, 0, none⟩ = some (.slice ad nd cd) := by rw [HB1.out.cell (p := ⟨S, 0, none⟩) HN1.out]; exact HE0.out
 clear hb1 e1 e2 e3
 go_wp2_with fail
 clear e0
 go_loopg [16] nd (fun q iu wr => ∃ (i : Nat), iu = .int .i64 i ∧ i + q = nd ∧ (∀ j, j < i → (dimAt s.dims j).1 ≠ t) ∧ Below N w0 wr)
 case atStart => exact ⟨0, rfl, by omega, fun _ h => absurd h (Nat.not_lt_zero _), HB1.out⟩
 case round =>
  obtain ⟨i, rfl, hq, hne, hb⟩ := hrel
  have HQ := Lib.hid hq
  have HNE := Lib.hid hne
  have HB := Lib.hid hb
  have hszN : N ≤ wr.heap.size := by have := hb.size; rw [HN.out] at this; exact this
  clear hq hne hb HB1
  by_cases hlt : i < nd
  ·obtain ⟨b, off, e, hbl, hc⟩ := (HS.out.1.below HB.out (Nat.le_of_eq HN.out)).at (by show 0 < nd; omega)
   simp only at e
   subst e
   have hlen : s.dims.length = nd := HS.out.2.1
   have c0 := hc (i * 2) (by show i * 2 < nd * 2; omega)
   have c1 := hc (i * 2 + 1) (by show i * 2 + 1 < nd * 2; omega)
   obtain ⟨g0, g1⟩ := dimCells_get (ds := s.dims) (i := i) (by omega)
   rw [g0] at c0
   rw [g1, ← Nat.add_assoc] at c1
   have HGN := Lib.hid (dimN_get (s := s) (i := i) (by omega))
   have HPL : Hid ((dimAt s.dims i).1 = t → place (dimN s) t = i) := Lib.hid (fun e => place_some (by unfold dimN; rw [List.length_map]; omega) (by rw [HGN.out, e]) (fun j hj => by rw [dimN_get (by omega)]; exact HNE.out j hj))
   obtain ⟨nm, hnm⟩ : ∃ x, (dimAt s.dims i).1 = x := ⟨_, rfl⟩
   obtain ⟨sz, hsz⟩ : ∃ x, (dimAt s.dims i).2 = x := ⟨_, rfl⟩
   rw [hnm] at c0 HPL
   rw [hsz] at c1
   have HNM := Lib.hid hnm
   have HB2 := Lib.hid (HB.out.alloc hszN (.cells #[.string nm, .int .i64 sz] 53))
   clear hc g0 g1 hnm hsz hlen
   by_cases he : nm = t
   ·have q0 := str_eq he
    have HC : Hid (findS s t = (1, (i : Int))) := Lib.hid (by unfold findS; rw [HPL.out he, if_pos (by omega)])
    subst he
    go_wp2_with fail
    go_ret2
    exact RFind.mk HC.out HSS.out HBW.out HN1.out HB2.out
   ·have q0 := str_ne he
    have HEE := Lib.hid he
    clear he
    go_wp2_with fail
    go_roundg (nd - i - 1)
    case measure => have := HQ.out; omega
    case rel => exact ⟨i + 1, by go_num, by have := HQ.out; omega, fun j hj => by
     rcases Nat.lt_succ_iff_lt_or_eq.1 hj with h | h
     ·exact HNE.out j h
     ·rw [h, HNM.out]; exact HEE.out, HB2.out⟩
  ·obtain rfl : i = nd := by have := HQ.out; omega
   have hlen : s.dims.length = i := HS.out.2.1
   have HD : Hid (¬ 0 ≤ place (dimN s) t) := Lib.hid (by
    rw [place_mem]
    intro hm
    obtain ⟨j, hj, e⟩ := mem_getDs hm
    have hj : j < s.dims.length := by unfold dimN at hj; rw [List.length_map] at hj; exact hj
    rw [dimN_get hj] at e
    exact HNE.out j (by omega) e)
   obtain ⟨p2, hp2⟩ : ∃ x, place s.ints t = x := ⟨_, rfl⟩
   obtain ⟨p3, hp3⟩ : ∃ x, place s.nums t = x := ⟨_, rfl⟩
   have HI : Hid (∀ wx, Below N w0 wx → Calls Tryz.prog 122 #[.slice ai ni ci, .string t] wx fun e w' => e = .returned (.int .i64 p2) ∧ wx = w') := Lib.hid (fun wx hb => by
    rw [← hp2]; exact pplace_any ai ni ci s.ints t wx (HS.out.2.2.1.below hb (Nat.le_of_eq HN.out)))
   have HNU : Hid (∀ wx, Below N w0 wx → Calls Tryz.prog 122 #[.slice an nn cn, .string t] wx fun e w' => e = .returned (.int .i64 p3) ∧ wx = w') := Lib.hid (fun wx hb => by
    rw [← hp3]; exact pplace_any an nn cn s.nums t wx (HS.out.2.2.2.1.below hb (Nat.le_of_eq HN.out)))
   have HC0 : Hid (findS s t = if 0 ≤ p2 then (2, p2) else if 0 ≤ p3 then (3, p3) else (0, 0)) := Lib.hid (by unfold findS; rw [if_neg HD.out, hp2, hp3])
   have e1 : wr.cell? ⟨S, 1, none⟩ = some (.slice ai ni ci) := by rw [HB.out.cell (p := ⟨S, 1, none⟩) HN1.out]; exact HE1.out
   have e2 : wr.cell? ⟨S, 2, none⟩ = some (.slice an nn cn) := by rw [HB.out.cell (p := ⟨S, 2, none⟩) HN1.out]; exact HE2.out
   clear hlen hp2 hp3 HD HNE HQ hnd hlt
   go_wp2_with fail
   refine (HI.out _ HB.out).mono ?_; rintro e w2 ⟨rfl, rfl⟩
   by_cases h2 : 0 ≤ p2
   ·have HC : Hid (findS s t = (2, p2)) := Lib.hid (by rw [HC0.out, if_pos h2])
    go_wp2_with fail
    go_ret2
    exact RFind.mk HC.out HSS.out HBW.out HN1.out HB.out
   ·go_wp2_with fail
    refine (HNU.out _ HB.out).mono ?_; rintro e w3 ⟨rfl, rfl⟩
    have HC1 : Hid (findS s t = if 0 ≤ p3 then (3, p3) else (0, 0)) := Lib.hid (by rw [HC0.out, if_neg (by omega)])
    by_cases h3 : 0 ≤ p3
    ·have HC : Hid (findS s t = (3, p3)) := Lib.hid (by rw [HC1.out, if_pos h3])
     go_wp2_with fail
     go_ret2
     exact RFind.mk HC.out HSS.out HBW.out HN1.out HB.out
    ·have HC : Hid (findS s t = (0, 0)) := Lib.hid (by rw [HC1.out, if_neg (by omega)])
     go_wp2_with fail
     go_ret2
     exact RFind.mk HC.out HSS.out HBW.out HN1.out HB.out
end Go.Proofs.YtaofjnidniekjaaGreatDoor
/- What the reader of package parse goes past: a number, a name of a dimension, a name of a measure. Conditions: those stated. -/
namespace Go.Proofs.YtaofjnidniekjaaGreatDoor
open Go.RowKit

/-- a call's answer: a number, the reader further on; or the fault -/
def RNum (C : RC) (i : Nat) (w : World) (r : Except (Nat × Nat) (Nat × Int)) (e : Ending) (w' : World) : Prop :=
 match r with
 | .ok x => e = .returned (.int .i64 x.2) ∧ Mv C i x.1 w w'
 | .error f => Fails C f e w'

set_option maxRecDepth 100000 in
theorem pnumber_any (C : RC) (hC : C.Ok) (i : Nat) (hi : i < C.L.length) (w : World) (hR : RAt C i w) :
  Calls Tryz.prog 64 #[.pointer (some ⟨C.R, 0, none⟩)] w (RNum C i w (numT C.L i)) := by
 have HN := Lib.hid (next_any C hC i hi w hR)
 have HF : Hid (∀ w1, Mv C i i w w1 → Calls Tryz.prog 66 #[.pointer (some ⟨C.R, 0, none⟩), .int .i64 (6 : Int)] w1 (Fails C (i, 6))) := Lib.hid (fun w1 hm => fail_any C hC i hi 6 w1 (hR.mv hm))
 have HR := Lib.hid hR
 have hL : i ≤ 1001 := by have := hC.good.many; omega
 obtain ⟨r, hr⟩ : ∃ r, numT C.L i = r := ⟨_, rfl⟩
 rw [hr]
 unfold numT at hr
 obtain ⟨x, hx⟩ : ∃ x, tokAt C.L i = x := ⟨_, rfl⟩
 rw [hx] at HN hr
 clear hx hR
 obtain ⟨k, t, n, a⟩ := x
 unfold Tok.val at HN
 simp only at hr
 have HRR2 := Lib.hid hr
 clear hr
 obtain ⟨R, hRR⟩ : ∃ r, C.R = r := ⟨_, rfl⟩
 have HRR := Lib.hid hRR
 rw [hRR] at HN HF ⊢
 clear hRR
 go_enter Tryz.func64, Tryz.ntmps64
 go_wp2_with fail
 refine HN.out.mono ?_; rintro e w1 ⟨rfl, hm⟩
 have HM2 := Lib.hid (hm.alloc (.cells #[.int .i64 k, .string t, .int .i64 n, .int .i64 a] 98))
 obtain ⟨c5, f5⟩ := (HR.out.mv HM2.out).cells
 rw [HRR.out] at c5 f5
 clear hm HN
 by_cases hk : k = 3
 ·subst hk
  have hfin := HM2.out.step
  rw [HRR.out] at hfin
  have HX := Lib.hid hfin
  have hr := HRR2.out
  rw [if_pos rfl] at hr
  subst hr
  clear hfin
  go_wp2_with fail
  go_ret
  exact ⟨rfl, HX.out⟩
 ·have hr := HRR2.out
  rw [if_neg hk] at hr
  subst hr
  go_wp2_with fail
  refine (HF.out _ HM2.out).mono ?_; rintro e w2 ⟨rfl, hb2⟩
  have HB2 := Lib.hid hb2
  clear hb2
  go_wp2_with fail
  exact ⟨rfl, rfl, HB2.out⟩
/-- the next name's thing; the reader stays -/
def RName (C : RC) (i : Nat) (w : World) (e : Ending) (w' : World) : Prop :=
 ((tokAt C.L i).k = 2 ∧ e = .returned (.tuple #[.int .i64 (findS C.s (tokAt C.L i).t).1, .int .i64 (findS C.s (tokAt C.L i).t).2]) ∧ Mv C i i w w') ∨ ((tokAt C.L i).k ≠ 2 ∧ Fails C (i, 6) e w')

theorem lt_cell {w : World} {p : Addr} {v : Value} (h : w.cell? p = some v) : p.block < w.heap.size := by
 rcases Nat.lt_or_ge p.block w.heap.size with h1 | h1
 ·exact h1
 ·unfold World.cell? at h
  rw [Array.getElem?_eq_none h1] at h
  cases h
set_option maxRecDepth 100000 in
theorem pname_any (C : RC) (hC : C.Ok) (i : Nat) (hi : i < C.L.length) (w : World) (hR : RAt C i w) :
  Calls Tryz.prog 102 #[.pointer (some ⟨C.R, 0, none⟩)] w (RName C i w) := by
 have HN := Lib.hid (next_any C hC i hi w hR)
 have HF : Hid (∀ w1, Mv C i i w w1 → Calls Tryz.prog 66 #[.pointer (some ⟨C.R, 0, none⟩), .int .i64 (6 : Int)] w1 (Fails C (i, 6))) := Lib.hid (fun w1 hm => fail_any C hC i hi 6 w1 (hR.mv hm))
 have HR := Lib.hid hR
 obtain ⟨r, hr⟩ : ∃ r, RName C i w = r := ⟨_, rfl⟩
 rw [hr]
 have HRN := Lib.hid hr
 clear hr
 have HX : Hid (∃ x, tokAt C.L i = x) := Lib.hid ⟨_, rfl⟩
 obtain ⟨⟨k, t, n, a⟩, hx⟩ := HX.out
 have HXX := Lib.hid hx
 rw [hx] at HN
 clear hx hR HX
 unfold Tok.val at HN
 have HFI : Hid (∀ w1, Mv C i i w w1 → Calls Tryz.prog 116 #[C.l.val, .string t] w1 (RFind t C.s w1)) := Lib.hid (fun w1 hm => find_any w1 C.l C.s (hC.sch.below (HR.out.mv hm).1 (Nat.le_of_eq hC.size)) hC.chk t)
 unfold SchL.val at HFI
 have HCE : Hid (∀ w1, Mv C i i w w1 → w1.cell? ⟨C.R, 0, none⟩ = some (.slice C.l.ad C.l.nd C.l.cd) ∧ w1.cell? ⟨C.R, 1, none⟩ = some (.slice C.l.ai C.l.ni C.l.ci) ∧ w1.cell? ⟨C.R, 2, none⟩ = some (.slice C.l.an C.l.nn C.l.cn) ∧ w1.cell? ⟨C.R, 3, none⟩ = some (.slice C.l.av C.l.nv C.l.cv)) := Lib.hid (fun w1 hm => by
  obtain ⟨_, g, vf, vc, vo, m, hrd⟩ := HR.out.mv hm
  refine ⟨?_, ?_, ?_, ?_⟩ <;> (rw [Blk.cell hrd]; rfl))
 obtain ⟨R, hRR⟩ : ∃ r, C.R = r := ⟨_, rfl⟩
 obtain ⟨⟨ad, nd, cd, ai, ni, ci, an, nn, cn, av, nv, cv⟩, hLL⟩ : ∃ r, C.l = r := ⟨_, rfl⟩
 have HRR := Lib.hid hRR
 rw [hRR] at HN HF HCE ⊢
 rw [hLL] at HFI HCE
 clear hRR hLL
 simp only at HFI HCE
 go_enter Tryz.func102, Tryz.ntmps102
 go_wp2_with fail
 refine HN.out.mono ?_; rintro e w1 ⟨rfl, hm⟩
 have HM2 := Lib.hid (hm.alloc (.cells #[.int .i64 k, .string t, .int .i64 n, .int .i64 a] 98))
 clear hm HN
 by_cases hk : k = 2
 ·subst hk
  obtain ⟨c0, c1, c2, c3⟩ := HCE.out _ HM2.out
  have t1 : (w1.alloc (.cells #[.int .i64 2, .string t, .int .i64 n, .int .i64 a] 98)).cell? ⟨w1.heap.size, 1, none⟩ = some (.string t) := (Blk.new w1 _ _).cell 1
  go_upto_region 4 with fail
  generalize (w1.alloc (.cells #[.int .i64 2, .string t, .int .i64 n, .int .i64 a] 98)) = w2 at *
  generalize w1.heap.size = S1 at *
  have HM3 := Lib.hid HM2.out.drew
  have HTK : Hid (∀ w4, Below w2.drew.heap.size w2.drew w4 → w4.cell? ⟨S1, 1, none⟩ = some (.string t)) := Lib.hid (fun w4 hb => by rw [hb.cell (p := ⟨S1, 1, none⟩) (lt_cell t1)]; exact t1)
  go_region_held3 (fun w' => w'.cell? ⟨R, 0, none⟩ = some (.slice ad nd cd) ∧ w'.cell? ⟨R, 1, none⟩ = some (.slice ai ni ci) ∧ w'.cell? ⟨R, 2, none⟩ = some (.slice an nn cn) ∧ w'.cell? ⟨R, 3, none⟩ = some (.slice av nv cv) ∧ w'.cell? ⟨S1, 1, none⟩ = some (.string t)) (go_keep)
   (first | (go_at_call 116; refine (HFI.out _ HM3.out).mono ?_; rintro e w4 ⟨rfl, hb⟩; have HM4 := Lib.hid (HM3.out.trans (Mv.of_below hb)); obtain ⟨c0', c1', c2', c3'⟩ := HCE.out _ HM4.out; have t1' := HTK.out _ hb; clear hb c0 c1 c2 c3 t1))
  all_goals
   clear c0' c1' c2' c3' t1'
   go_wp2_with fail
   rw [← HRN.out]
   exact .inl ⟨by rw [HXX.out], by rw [HXX.out]; rfl, HM4.out⟩
 ·have HKK := Lib.hid hk
  go_wp2_with fail
  refine (HF.out _ HM2.out).mono ?_; rintro e w2 ⟨rfl, hb2⟩
  have HB2 := Lib.hid hb2
  clear hb2
  go_wp2_with fail
  rw [← HRN.out]
  refine ⟨rfl, .inr ⟨by rw [HXX.out]; exact HKK.out, rfl, HB2.out⟩⟩

/-- a call's answer: a place, the reader further on; or the fault -/
def RPlc (C : RC) (i : Nat) (w : World) (r : Except (Nat × Nat) (Nat × Nat)) (e : Ending) (w' : World) : Prop :=
 match r with
 | .ok x => e = .returned (.int .i64 (x.2 : Int)) ∧ Mv C i x.1 w w'
 | .error f => Fails C f e w'
theorem name_ne {names : List ByteArray} {L : List Tok} {i : Nat} (h : (tokAt L i).k ≠ 2) : nameS names L i = .error (i, 6) := by unfold nameS; rw [if_neg h]
theorem name_none {names : List ByteArray} {L : List Tok} {i : Nat} (h : (tokAt L i).k = 2) (h2 : place names (tokAt L i).t < 0) : nameS names L i = .error (i, 11) := by unfold nameS; rw [if_pos h, if_pos h2]
theorem name_some {names : List ByteArray} {L : List Tok} {i p : Nat} (h : (tokAt L i).k = 2) (h2 : place names (tokAt L i).t = p) : nameS names L i = .ok (i + 1, p) := by unfold nameS; rw [if_pos h, if_neg (by omega), h2]; rfl
theorem place_lt : ∀ {xs : List ByteArray} {s : ByteArray}, s ∈ xs → place xs s < xs.length
 | [], _, h => by cases h
 | x :: xs, s, h => by
  unfold place
  split
  ·simp
  ·rename_i hne
   rcases List.mem_cons.1 h with e | e
   ·exact absurd e.symm hne
   ·have := place_lt e
    have h2 := place_mem.2 e
    rw [if_neg (by omega)]
    simp; omega
theorem find_dim {s : Sch} {t : ByteArray} (h : (findS s t).1 = 1) : ∃ p : Nat, place (dimN s) t = p ∧ (findS s t).2 = p ∧ p < s.dims.length := by
 unfold findS at h ⊢
 split at h
 ·rename_i h1
  rw [if_pos h1]
  have hm := place_mem.1 h1
  obtain ⟨p, hp⟩ : ∃ p : Nat, place (dimN s) t = p := ⟨(place (dimN s) t).toNat, by omega⟩
  have hl := place_lt (xs := dimN s) (s := t) hm
  refine ⟨p, hp, hp, ?_⟩
  unfold dimN at hl hp
  rw [List.length_map] at hl
  omega
 ·split at h
  ·exact absurd (show (2 : Int) = 1 from h) (by decide)
  ·split at h
   ·exact absurd (show (3 : Int) = 1 from h) (by decide)
   ·exact absurd (show (0 : Int) = 1 from h) (by decide)
theorem find_nodim {s : Sch} {t : ByteArray} (h : (findS s t).1 ≠ 1) : place (dimN s) t < 0 := by
 unfold findS at h
 split at h
 ·exact absurd rfl h
 ·omega

set_option maxRecDepth 100000 in
theorem pdim_any (C : RC) (hC : C.Ok) (i : Nat) (hi : i < C.L.length) (w : World) (hR : RAt C i w) :
  Calls Tryz.prog 88 #[.pointer (some ⟨C.R, 0, none⟩)] w (RPlc C i w (nameS (dimN C.s) C.L i)) := by
 have HN := Lib.hid (pname_any C hC i hi w hR)
 have HF : Hid (∀ w1, Mv C i i w w1 → Calls Tryz.prog 66 #[.pointer (some ⟨C.R, 0, none⟩), .int .i64 (11 : Int)] w1 (Fails C (i, 11))) := Lib.hid (fun w1 hm => fail_any C hC i hi 11 w1 (hR.mv hm))
 have HR := Lib.hid hR
 have hL : i ≤ 1001 := by have := hC.good.many; omega
 obtain ⟨r, hr⟩ : ∃ r, RPlc C i w (nameS (dimN C.s) C.L i) = r := ⟨_, rfl⟩
 rw [hr]
 have HRN := Lib.hid hr
 clear hr hR
 obtain ⟨R, hRR⟩ : ∃ r, C.R = r := ⟨_, rfl⟩
 have HRR := Lib.hid hRR
 rw [hRR] at HN HF ⊢
 clear hRR
 go_enter Tryz.func88, Tryz.ntmps88
 go_wp2_with fail
 refine HN.out.mono ?_; rintro e w1 (⟨hk, rfl, hm⟩ | ⟨hk, rfl, hb⟩)
 ·have HM := Lib.hid hm
  have HK := Lib.hid hk
  clear hm hk HN
  obtain ⟨p, hp⟩ : ∃ p, findS C.s (tokAt C.L i).t = p := ⟨_, rfl⟩
  rw [hp]
  have HP := Lib.hid hp
  obtain ⟨c5, f5⟩ := (HR.out.mv HM.out).cells
  rw [HRR.out] at c5 f5
  clear hp
  obtain ⟨k, p⟩ := p
  dsimp only
  by_cases hk : k = 1
  ·subst hk
   obtain ⟨q, h1, h2, h3⟩ := find_dim (s := C.s) (t := (tokAt C.L i).t) (by rw [HP.out])
   have hpq : p = q := by rw [HP.out] at h2; exact h2
   subst hpq
   have HC := Lib.hid (name_some HK.out h1)
   have hfin := HM.out.step
   rw [HRR.out] at hfin
   have HX := Lib.hid hfin
   clear hfin h1 h2 h3
   go_wp2_with fail
   rw [← HRN.out, HC.out]
   exact ⟨rfl, HX.out⟩
  ·have HC := Lib.hid (name_none HK.out (find_nodim (s := C.s) (t := (tokAt C.L i).t) (by rw [HP.out]; exact hk)))
   go_wp2_with fail
   refine (HF.out _ HM.out).mono ?_; rintro e w2 ⟨rfl, hb2⟩
   have HB2 := Lib.hid hb2
   clear hb2
   go_wp2_with fail
   rw [← HRN.out, HC.out]
   exact ⟨rfl, rfl, HB2.out⟩
 ·have HC := Lib.hid (name_ne (names := dimN C.s) hk)
  have HB := Lib.hid hb
  clear hb hk HN
  go_wp2_with fail
  rw [← HRN.out, HC.out]
  exact ⟨rfl, rfl, HB.out⟩

theorem place_cons (x : ByteArray) (xs : List ByteArray) (s : ByteArray) : place (x :: xs) s = if x = s then 0 else if place xs s < 0 then -1 else place xs s + 1 := rfl
theorem place_append : ∀ (xs ys : List ByteArray) (s : ByteArray), place (xs ++ ys) s = if 0 ≤ place xs s then place xs s else if 0 ≤ place ys s then xs.length + place ys s else -1
 | [], ys, s => by
  have h := place_ge ys s
  rw [List.nil_append, show place [] s = -1 from rfl, if_neg (by decide)]
  split
  ·simp
  ·omega
 | x :: xs, ys, s => by
  have ih := place_append xs ys s
  have h1 := place_ge xs s
  have h2 := place_ge ys s
  rw [List.cons_append, place_cons, place_cons]
  by_cases he : x = s
  ·rw [if_pos he, if_pos he, if_pos (by omega)]
  ·rw [if_neg he, if_neg he, ih, List.length_cons]
   by_cases k1 : 0 ≤ place xs s
   ·rw [if_pos k1, if_neg (by omega), if_pos (by omega)]
   ·rw [if_neg k1, if_pos (show place xs s < 0 by omega), if_neg (show ¬ (0 : Int) ≤ -1 by decide)]
    by_cases k2 : 0 ≤ place ys s
    ·rw [if_pos k2, if_neg (by omega), if_pos k2]; omega
    ·rw [if_neg k2, if_pos (by decide), if_neg k2]
def measN (s : Sch) : List ByteArray := s.ints ++ s.nums
theorem find_meas {s : Sch} (hs : chkS s = 0) (t : ByteArray) :
  ((findS s t).1 = 3 ∧ 0 ≤ (findS s t).2 ∧ place (measN s) t = s.ints.length + (findS s t).2 ∧ (findS s t).2 < 2) ∨ ((findS s t).1 = 2 ∧ 0 ≤ (findS s t).2 ∧ place (measN s) t = (findS s t).2) ∨ ((findS s t).1 ≠ 3 ∧ (findS s t).1 ≠ 2 ∧ place (measN s) t < 0) := by
 have htw : twR s.names < 0 := by
  unfold chkS at hs
  split at hs
  ·omega
  split at hs
  ·omega
  split at hs
  ·omega
  ·omega
 have hcn := chk_dims hs
 unfold findS measN
 rw [place_append]
 by_cases h1 : 0 ≤ place (dimN s) t
 ·rw [if_pos h1]
  refine .inr (.inr ⟨fun h => absurd (show (1 : Int) = 3 from h) (by decide), fun h => absurd (show (1 : Int) = 2 from h) (by decide), ?_⟩)
  have hm := place_mem.1 h1
  have hn : t ∉ s.ints ++ s.nums := by
   intro hm2
   rcases twR_is s.names with ⟨_, hd⟩ | ⟨k, hk, _⟩
   ·obtain ⟨j, hj, e⟩ := mem_getDs hm2
    have hl : (dimN s).length + j < s.names.length := by
     unfold Sch.names dimN at *
     simp only [List.length_append, List.length_map] at *
     omega
    refine hd _ hl ?_
    have e1 : s.names = dimN s ++ (s.ints ++ s.nums) := by unfold Sch.names dimN; rw [List.append_assoc]
    rw [e1, List.getD_eq_getElem?_getD, List.getElem?_append_right (by omega), show (dimN s).length + j - (dimN s).length = j by omega, ← List.getD_eq_getElem?_getD, e, List.take_append]
    exact List.mem_append_left _ (by rw [List.take_of_length_le (by omega)]; exact hm)
   ·rw [hk] at htw; omega
  rw [if_neg (fun h => hn (List.mem_append_left _ (place_mem.1 h))), if_neg (fun h => hn (List.mem_append_right _ (place_mem.1 h)))]
  decide
 ·rw [if_neg h1]
  by_cases h2 : 0 ≤ place s.ints t
  ·rw [if_pos h2, if_pos h2]
   exact .inr (.inl ⟨rfl, h2, rfl⟩)
  ·rw [if_neg h2, if_neg h2]
   by_cases h3 : 0 ≤ place s.nums t
   ·rw [if_pos h3, if_pos h3]
    refine .inl ⟨rfl, h3, rfl, ?_⟩
    have := place_lt (place_mem.1 h3)
    dsimp only; omega
   ·rw [if_neg h3, if_neg h3]
    exact .inr (.inr ⟨fun h => absurd (show (0 : Int) = 3 from h) (by decide), fun h => absurd (show (0 : Int) = 2 from h) (by decide), by decide⟩)

set_option maxRecDepth 100000 in
theorem pmeasure_any (C : RC) (hC : C.Ok) (i : Nat) (hi : i < C.L.length) (w : World) (hR : RAt C i w) :
  Calls Tryz.prog 87 #[.pointer (some ⟨C.R, 0, none⟩)] w (RPlc C i w (nameS (measN C.s) C.L i)) := by
 have HN := Lib.hid (pname_any C hC i hi w hR)
 have HF : Hid (∀ w1, Mv C i i w w1 → Calls Tryz.prog 66 #[.pointer (some ⟨C.R, 0, none⟩), .int .i64 (11 : Int)] w1 (Fails C (i, 11))) := Lib.hid (fun w1 hm => fail_any C hC i hi 11 w1 (hR.mv hm))
 have HR := Lib.hid hR
 have hL : i ≤ 1001 := by have := hC.good.many; omega
 obtain ⟨r, hr⟩ : ∃ r, RPlc C i w (nameS (measN C.s) C.L i) = r := ⟨_, rfl⟩
 rw [hr]
 have HRN := Lib.hid hr
 have HCE : Hid (∀ w1, Mv C i i w w1 → w1.cell? ⟨C.R, 1, none⟩ = some (.slice C.l.ai C.l.ni C.l.ci)) := Lib.hid (fun w1 hm => by
  obtain ⟨_, g, vf, vc, vo, m, hrd⟩ := HR.out.mv hm
  rw [Blk.cell hrd]; rfl)
 have HNI : Hid (C.s.ints.length = C.l.ni) := Lib.hid hC.sch.2.2.1.1
 have hni : C.l.ni ≤ 3 := by have := (chk_dims hC.chk).2.2.1; rw [HNI.out] at this; exact this
 clear hr hR
 obtain ⟨R, hRR⟩ : ∃ r, C.R = r := ⟨_, rfl⟩
 obtain ⟨⟨ad, nd, cd, ai, ni, ci, an, nn, cn, av, nv, cv⟩, hLL⟩ : ∃ r, C.l = r := ⟨_, rfl⟩
 have HRR := Lib.hid hRR
 rw [hRR] at HN HF HCE ⊢
 rw [hLL] at HCE HNI hni
 simp only at HCE HNI hni
 clear hRR hLL
 go_enter Tryz.func87, Tryz.ntmps87
 go_wp2_with fail
 refine HN.out.mono ?_; rintro e w1 (⟨hk, rfl, hm⟩ | ⟨hk, rfl, hb⟩)
 ·have HM := Lib.hid hm
  have HK := Lib.hid hk
  clear hm hk HN
  have HFM := Lib.hid (find_meas hC.chk (tokAt C.L i).t)
  obtain ⟨p, hp⟩ : ∃ p, findS C.s (tokAt C.L i).t = p := ⟨_, rfl⟩
  rw [hp] at HFM ⊢
  obtain ⟨c5, f5⟩ := (HR.out.mv HM.out).cells
  rw [HRR.out] at c5 f5
  have c1 := HCE.out _ HM.out
  have hfin := HM.out.step
  rw [HRR.out] at hfin
  have HX := Lib.hid hfin
  clear hp hfin
  obtain ⟨k, p⟩ := p
  dsimp only at HFM ⊢
  rcases HFM.out with ⟨rfl, h1, h2, h3⟩ | ⟨rfl, h1, h2⟩ | ⟨h1, h2, h3⟩
  ·obtain ⟨q, rfl⟩ : ∃ q : Nat, p = q := ⟨p.toNat, by omega⟩
   have HC := Lib.hid (name_some (p := ni + q) HK.out (by rw [h2, HNI.out]; simp))
   have hw : (q : Int) + (ni : Int) ≤ 9223372036854775807 := by omega
   clear h1 h2 h3
   go_wp2_with fail
   rw [← HRN.out, HC.out]
   exact ⟨congrArg (fun z => Ending.returned (.int .i64 z)) (by simp; omega), HX.out⟩
  ·obtain ⟨q, rfl⟩ : ∃ q : Nat, p = q := ⟨p.toNat, by omega⟩
   have HC := Lib.hid (name_some HK.out h2)
   clear h1 h2
   go_wp2_with fail
   rw [← HRN.out, HC.out]
   exact ⟨rfl, HX.out⟩
  ·have HC := Lib.hid (name_none HK.out h3)
   clear h3
   go_wp2_with fail
   refine (HF.out _ HM.out).mono ?_; rintro e w2 ⟨rfl, hb2⟩
   have HB2 := Lib.hid hb2
   clear hb2
   go_wp2_with fail
   rw [← HRN.out, HC.out]
   exact ⟨rfl, rfl, HB2.out⟩
 ·have HC := Lib.hid (name_ne (names := measN C.s) hk)
  have HB := Lib.hid hb
  clear hb hk HN
  go_wp2_with fail
  rw [← HRN.out, HC.out]
  exact ⟨rfl, rfl, HB.out⟩
end Go.Proofs.YtaofjnidniekjaaGreatDoor
/- What the reader of package parse goes past: a column. Conditions: those stated. -/
namespace Go.Proofs.YtaofjnidniekjaaGreatDoor
open Go.RowKit

theorem TokOk.next {L : List Tok} (h : TokOk L) {i : Nat} (hi : i < L.length) (hk : (tokAt L i).k ≠ 0) : i + 1 < L.length := by
 rcases Nat.lt_or_ge (i + 1) L.length with h1 | h1
 ·exact h1
 ·exact absurd (show (tokAt L i).k = 0 by rw [show i = L.length - 1 by omega]; exact h.last) hk
theorem word_next {L : List Tok} (h : TokOk L) {i : Nat} {t : List UInt8} (hw : wordAt L i t = true) : i + 1 < L.length := by
 have h1 := word_lt hw
 unfold wordAt at hw
 have h2 := of_decide_eq_true hw
 exact h.next h1 (by omega)
theorem want_next {L : List Tok} (h : TokOk L) {i j : Nat} {t : List UInt8} (hw : wantS L i t = .ok j) : j < L.length := by
 unfold wantS at hw
 split at hw
 ·rename_i h1; cases hw; exact word_next h h1
 ·cases hw
theorem num_next {L : List Tok} (h : TokOk L) {i : Nat} {x : Nat × Int} (hw : numT L i = .ok x) : x.1 < L.length := by
 have h1 := num_ok hw
 unfold numT at hw
 split at hw
 ·rename_i h2; rw [h1.1]; exact h.next h1.2 (by omega)
 ·cases hw
theorem name_next {names : List ByteArray} {L : List Tok} (h : TokOk L) {i : Nat} {x : Nat × Nat} (hw : nameS names L i = .ok x) : x.1 < L.length := by
 have h1 := name_ok hw
 unfold nameS at hw
 split at hw
 ·rename_i h2; rw [h1.1]; exact h.next h1.2 (by omega)
 ·cases hw
theorem Mv.far {C : RC} {i j : Nat} {w W : World} (h : Mv C i j w W) {p : Addr} (hp : w.heap.size ≤ p.block) (hR : C.R < w.heap.size) (u : Value) : Mv C i j w (W.setCell p u) :=
 ⟨h.kp.set (.inr hp) u, fun g vf vc vo m hr => (h.rd g vf vc vo m hr).far (by omega) u⟩
/-- a call's answer: a value, the reader further on; or the fault -/
def RVal {α : Type} (C : RC) (i : Nat) (w : World) (val : α → Value) (r : Except (Nat × Nat) (Nat × α)) (e : Ending) (w' : World) : Prop :=
 match r with
 | .ok x => e = .returned (val x.2) ∧ Mv C i x.1 w w'
 | .error f => Fails C f e w'
def RUnit (C : RC) (j : Nat) (w1 : World) (r : Except (Nat × Nat) Nat) (e : Ending) (w' : World) : Prop :=
 match r with
 | .ok k => e = .returned (.tuple #[]) ∧ Mv C j k w1 w'
 | .error f => Fails C f e w'
def colV (x : Int × Int) : Value := .agg #[.int .i64 x.1, .int .i64 x.2]
/-- a column -/
def colT (meas : List ByteArray) (L : List Tok) (i : Nat) : Except (Nat × Nat) (Nat × (Int × Int)) :=
 match kindAt L i aggW 0 with
 | none => .error (i, 6)
 | some 0 => .ok (i + 1, (0, 0))
 | some (k + 1) => wantS L (i + 1) [40] >>= fun a => nameS meas L a >>= fun b => wantS L b.1 [41] >>= fun c => pure (c, (((k + 1 : Nat) : Int), (b.2 : Int)))
theorem col_one (meas : List ByteArray) (L : List Tok) (i : Nat) (q : QP) : colS meas L i q = (colT meas L i >>= fun x => pure (x.1, { q with cols := q.cols ++ [x.2] })) := by
 unfold colS colT
 cases kindAt L i aggW 0 with
 | none => rfl
 | some k =>
  cases k with
  | zero => rfl
  | succ k => simp only [bind_assoc, pure_bind]
theorem kind_drop {k : Nat} (h : k < 7) : ∃ u : ByteArray, (#[Value.string ⟨#[99, 111, 117, 110, 116]⟩, .string ⟨#[115, 117, 109]⟩, .string ⟨#[109, 105, 110]⟩, .string ⟨#[109, 97, 120]⟩, .string ⟨#[109, 101, 97, 110]⟩, .string ⟨#[100, 101, 118]⟩, .string ⟨#[115, 104, 97, 114, 101]⟩] : Array Value)[k]? = some (.string u) ∧
  aggW.drop k = u.data.toList :: aggW.drop (k + 1) := by
 have : k = 0 ∨ k = 1 ∨ k = 2 ∨ k = 3 ∨ k = 4 ∨ k = 5 ∨ k = 6 := by omega
 rcases this with rfl | rfl | rfl | rfl | rfl | rfl | rfl <;> exact ⟨_, rfl, rfl⟩

set_option maxRecDepth 100000 in
set_option maxHeartbeats 1000000 in
theorem pcol_any (C : RC) (hC : C.Ok) (i : Nat) (hi : i < C.L.length) (w : World) (hR : RAt C i w) :
  Calls Tryz.prog 58 #[.pointer (some ⟨C.R, 0, none⟩)] w (RVal C i w colV (colT (measN C.s) C.L i)) := by
 have HC := Lib.hid hC
 have HI := Lib.hid hi
 have HR := Lib.hid hR
 have HE : Hid (∀ (u : ByteArray) (b : Bool), wordAt C.L i u.data.toList = b → ∀ w1, Mv C i i w w1 → Calls Tryz.prog 59 #[.pointer (some ⟨C.R, 0, none⟩), .string u] w1 fun e w' => e = .returned (.bool b) ∧ Mv C i (if b then i + 1 else i) w1 w') := Lib.hid (fun u b hb w1 hm => eat_any C hC i hi u b hb w1 (hR.mv hm))
 have HF : Hid (∀ w1, Mv C i i w w1 → Calls Tryz.prog 66 #[.pointer (some ⟨C.R, 0, none⟩), .int .i64 (6 : Int)] w1 (Fails C (i, 6))) := Lib.hid (fun w1 hm => fail_any C hC i hi 6 w1 (hR.mv hm))
 have HW : Hid (∀ (j : Nat) (u : ByteArray) (t : List UInt8) (w1 : World), u.data.toList = t → j < C.L.length → Mv C i j w w1 → Calls Tryz.prog 55 #[.pointer (some ⟨C.R, 0, none⟩), .string u] w1 (RUnit C j w1 (wantS C.L j t))) := Lib.hid (fun j u t w1 ht hj hm => by rw [← ht]; exact want_any C hC j hj u w1 (hR.mv hm))
 have HME : Hid (∀ (j : Nat) (w1 : World), j < C.L.length → Mv C i j w w1 → Calls Tryz.prog 87 #[.pointer (some ⟨C.R, 0, none⟩)] w1 (RPlc C j w1 (nameS (measN C.s) C.L j))) := Lib.hid (fun j w1 hj hm => pmeasure_any C hC j hj w1 (hR.mv hm))
 obtain ⟨r, hr⟩ : ∃ r, RVal C i w colV (colT (measN C.s) C.L i) = r := ⟨_, rfl⟩
 rw [hr]
 have HRN := Lib.hid hr
 have HLT := Lib.hid hR.lt
 clear hr hR hC hi
 obtain ⟨R, hRR⟩ : ∃ r, C.R = r := ⟨_, rfl⟩
 have HRR := Lib.hid hRR
 rw [hRR] at HE HF HW HME ⊢
 clear hRR
 go_enter Tryz.func58, Tryz.ntmps58
 go_wp2_with fail
 have hm0 : Mv C i i w ((w.alloc (.cells #[.int .i64 0, .int .i64 0] 56)).alloc (.cells #[.string ⟨#[99, 111, 117, 110, 116]⟩, .string ⟨#[115, 117, 109]⟩, .string ⟨#[109, 105, 110]⟩, .string ⟨#[109, 97, 120]⟩, .string ⟨#[109, 101, 97, 110]⟩, .string ⟨#[100, 101, 118]⟩, .string ⟨#[115, 104, 97, 114, 101]⟩] 9)) := ((Mv.of_below (Below.refl _ _)).alloc _).alloc _
 have hk0 := (Blk.new w 56 #[.int .i64 0, .int .i64 0]).alloc (.cells #[.string ⟨#[99, 111, 117, 110, 116]⟩, .string ⟨#[115, 117, 109]⟩, .string ⟨#[109, 105, 110]⟩, .string ⟨#[109, 97, 120]⟩, .string ⟨#[109, 101, 97, 110]⟩, .string ⟨#[100, 101, 118]⟩, .string ⟨#[115, 104, 97, 114, 101]⟩] 9)
 have hk1 := Blk.new (w.alloc (.cells #[.int .i64 0, .int .i64 0] 56)) 9 #[.string ⟨#[99, 111, 117, 110, 116]⟩, .string ⟨#[115, 117, 109]⟩, .string ⟨#[109, 105, 110]⟩, .string ⟨#[109, 97, 120]⟩, .string ⟨#[109, 101, 97, 110]⟩, .string ⟨#[100, 101, 118]⟩, .string ⟨#[115, 104, 97, 114, 101]⟩]
 rw [World.size_alloc] at hk1
 have HM0 := Lib.hid hm0
 have HK0 := Lib.hid hk0
 have HK1 := Lib.hid hk1
 clear hm0 hk0 hk1
 generalize ((w.alloc (.cells #[.int .i64 0, .int .i64 0] 56)).alloc (.cells #[.string ⟨#[99, 111, 117, 110, 116]⟩, .string ⟨#[115, 117, 109]⟩, .string ⟨#[109, 105, 110]⟩, .string ⟨#[109, 97, 120]⟩, .string ⟨#[109, 101, 97, 110]⟩, .string ⟨#[100, 101, 118]⟩, .string ⟨#[115, 104, 97, 114, 101]⟩] 9)) = w0 at *
 generalize hS : w.heap.size = S at *
 have HS := Lib.hid hS
 clear hS
 have HLW : Hid (C.R < w.heap.size) := Lib.hid (by rw [HS.out]; exact HLT.out)
 go_loopg [8] 7 (fun q ku wr => ∃ (k : Nat), ku = .int .i64 k ∧ k + q = 7 ∧ kindAt C.L i (aggW.drop k) k = kindAt C.L i aggW 0 ∧ Mv C i i w wr ∧ Blk wr S 56 #[.int .i64 0, .int .i64 0] ∧ Blk wr (S + 1) 9 #[.string ⟨#[99, 111, 117, 110, 116]⟩, .string ⟨#[115, 117, 109]⟩, .string ⟨#[109, 105, 110]⟩, .string ⟨#[109, 97, 120]⟩, .string ⟨#[109, 101, 97, 110]⟩, .string ⟨#[100, 101, 118]⟩, .string ⟨#[115, 104, 97, 114, 101]⟩])
 case atStart => exact ⟨0, rfl, rfl, rfl, HM0.out, HK0.out, HK1.out⟩
 case round =>
  obtain ⟨k, rfl, hq, hka, hm, hk0, hk1⟩ := hrel
  have HQ := Lib.hid hq
  have HKA := Lib.hid hka
  have HM := Lib.hid hm
  have HK0 := Lib.hid hk0
  have HK1 := Lib.hid hk1
  clear hq hka hm hk0 hk1
  by_cases hlt : k < 7
  ·obtain ⟨u, hu, hd⟩ := kind_drop hlt
   have c0 : wr.cell? ⟨S + 1, k, none⟩ = some (.string u) := by rw [Blk.cell HK1.out]; exact hu
   have HD := Lib.hid hd
   obtain ⟨b, hb⟩ : ∃ b, wordAt C.L i u.data.toList = b := ⟨_, rfl⟩
   have HB := Lib.hid hb
   have HEE := Lib.hid (HE.out u b hb wr HM.out)
   have hg1 : 1 ≤ gk := by have := HQ.out; omega
   clear hu hd hb
   go_wp2_with fail
   refine HEE.out.mono ?_; rintro e w1 ⟨rfl, hm1⟩
   have HM1 := Lib.hid hm1
   have HL1 := Lib.hid (show C.R < wr.heap.size from Nat.lt_of_lt_of_le HLT.out (by have := HM.out.kp.size; have := HS.out; omega))
   clear hm1 HEE c0
   rcases b with _ | _
   ·have HKB : Hid (kindAt C.L i (aggW.drop (k + 1)) (k + 1) = kindAt C.L i aggW 0) := Lib.hid (by
     rw [← HKA.out, HD.out]
     show _ = if wordAt C.L i u.data.toList then _ else _
     rw [HB.out]; rfl)
    have HM2 := Lib.hid (HM.out.trans HM1.out)
    have HK2 := Lib.hid (HM1.out.kp.blk HK0.out (by have := HLT.out; have := HS.out; omega))
    have HK3 := Lib.hid (HM1.out.kp.blk HK1.out (by have := HLT.out; have := HS.out; omega))
    go_wp2_with fail
    go_roundg (gk - 1)
    case measure => omega
    case rel => exact ⟨k + 1, by go_num, by have := HQ.out; omega, HKB.out, HM2.out, HK2.out, HK3.out⟩
   ·have HKB : Hid (kindAt C.L i aggW 0 = some k) := Lib.hid (by
     rw [← HKA.out, HD.out]
     show (if wordAt C.L i u.data.toList then _ else _) = _
     rw [HB.out]; rfl)
    have HN1 := Lib.hid (word_next HC.out.good HB.out)
    have HM2 : Hid (Mv C i (i + 1) w w1) := Lib.hid (HM.out.trans HM1.out)
    have HK2 := Lib.hid (HM1.out.kp.blk HK0.out (by have := HLT.out; have := HS.out; omega))
    have hS1 : S < w1.heap.size := HK2.out.lt
    have HSR : Hid (S ≠ R) := Lib.hid (by have := HLT.out; have := HS.out; have := HRR.out; omega)
    by_cases hk : k = 0
    ·subst hk
     have HCT : Hid (colT (measN C.s) C.L i = .ok (i + 1, (0, 0))) := Lib.hid (by unfold colT; rw [HKB.out])
     have x0 := HK2.out.c 0
     have x1 := HK2.out.c 1
     have f0 : w1.frozen? ⟨S, 0, none⟩ = false := HK2.out.frozen 0
     have f1 : w1.frozen? ⟨S, 1, none⟩ = false := HK2.out.frozen 1
     go_wp2_with fail
     have HFN : Hid (Mv C i (i + 1) w (((w1.setCell ⟨S, 0, none⟩ (.int .i64 0)).setCell ⟨S, 1, none⟩ (.int .i64 0)).alloc (.cells #[.int .i64 0, .int .i64 0] 56))) := Lib.hid (((HM2.out.far (Nat.le_of_eq HS.out) HLW.out _).far (Nat.le_of_eq HS.out) HLW.out _).alloc _)
     refine bodyPost_ret (v := colV (0, 0)) ?_ rfl ?_
     ·have y0 : (((w1.setCell ⟨S, 0, none⟩ (.int .i64 0)).setCell ⟨S, 1, none⟩ (.int .i64 0)).alloc (.cells #[.int .i64 0, .int .i64 0] 56)).cell? ⟨S, 0, none⟩ = some (.int .i64 0) := (((HK2.out.set_ 0 _).set_ 1 _).alloc _).cell 0
      have y1 : (((w1.setCell ⟨S, 0, none⟩ (.int .i64 0)).setCell ⟨S, 1, none⟩ (.int .i64 0)).alloc (.cells #[.int .i64 0, .int .i64 0] 56)).cell? ⟨S, 1, none⟩ = some (.int .i64 0) := (((HK2.out.set_ 0 _).set_ 1 _).alloc _).cell 1
      unfold colV
      simp [results, Tryz.results58, go_sem, y0, y1]
     ·rw [← HRN.out, HCT.out]
      exact ⟨rfl, HFN.out⟩
    ·have HCT : Hid (colT (measN C.s) C.L i = wantS C.L (i + 1) [40] >>= fun a => nameS (measN C.s) C.L a >>= fun b => wantS C.L b.1 [41] >>= fun c => pure (c, ((k : Int), (b.2 : Int)))) := Lib.hid (by
      obtain ⟨k2, rfl⟩ : ∃ k2, k = k2 + 1 := ⟨k - 1, by omega⟩
      unfold colT; rw [HKB.out])
     have hk1 : ((k : Int) != 0) = true := by simp; omega
     have HMA := Lib.hid (HM2.out.alloc (.cells #[.int .i64 (k : Int), .int .i64 0] 56))
     have HKC := Lib.hid (HK2.out.alloc (.cells #[.int .i64 (k : Int), .int .i64 0] 56))
     have HKD := Lib.hid (Blk.new w1 56 #[.int .i64 (k : Int), .int .i64 0])
     have HT1 : Hid (w.heap.size ≤ w1.heap.size) := Lib.hid HM2.out.kp.size
     have hst : S < w1.heap.size := hS1
     clear hk
     go_wp2_with fail
     generalize hw2 : w1.alloc (.cells #[.int .i64 (k : Int), .int .i64 0] 56) = w2 at *
     generalize w1.heap.size = T at *
     clear hw2
     rcases hx1 : wantS C.L (i + 1) [40] with f1 | j1
     ·have HX1 := Lib.hid hx1
      have HWC := Lib.hid (HW.out (i + 1) ⟨#[40]⟩ [40] _ rfl HN1.out HMA.out)
      rw [hx1] at HWC
      clear hx1
      refine HWC.out.mono ?_; rintro e w3 ⟨rfl, hb3⟩
      have HB3 := Lib.hid hb3
      clear hb3
      go_wp2_with fail
      rw [← HRN.out, HCT.out, HX1.out]
      exact ⟨rfl, rfl, HB3.out⟩
     ·have HX1 := Lib.hid hx1
      have HWC := Lib.hid (HW.out (i + 1) ⟨#[40]⟩ [40] _ rfl HN1.out HMA.out)
      rw [hx1] at HWC
      have HN2 := Lib.hid (want_next HC.out.good hx1)
      clear hx1
      refine HWC.out.mono ?_; rintro e w3 ⟨rfl, hm3⟩
      have HM3 := Lib.hid (HMA.out.trans hm3)
      have HK3 := Lib.hid (hm3.kp.blk HKC.out (by have := HSR.out; have := HRR.out; omega))
      have HD3 := Lib.hid (hm3.kp.blk HKD.out (by have := HSR.out; have := HRR.out; have := HLT.out; omega))
      clear hm3 HWC
      rcases hx2 : nameS (measN C.s) C.L j1 with f2 | ⟨j2, m⟩
      ·have HX2 := Lib.hid hx2
       have HWC := Lib.hid (HME.out j1 _ HN2.out HM3.out)
       rw [hx2] at HWC
       clear hx2
       go_wp2_with fail
       refine HWC.out.mono ?_; rintro e w4 ⟨rfl, hb4⟩
       have HB4 := Lib.hid hb4
       clear hb4
       go_wp2_with fail
       have hcx : colT (measN C.s) C.L i = .error f2 := by
        rw [HCT.out, HX1.out]
        show (nameS (measN C.s) C.L j1 >>= _) = _
        rw [HX2.out]; rfl
       rw [← HRN.out, hcx]
       exact ⟨rfl, rfl, HB4.out⟩
      ·have HX2 := Lib.hid hx2
       have HWC := Lib.hid (HME.out j1 _ HN2.out HM3.out)
       rw [hx2] at HWC
       have HN3 := Lib.hid (name_next HC.out.good hx2)
       clear hx2
       go_wp2_with fail
       refine HWC.out.mono ?_; rintro e w4 ⟨rfl, hm4⟩
       have HM4 := Lib.hid (HM3.out.trans hm4)
       have HK4 := Lib.hid (hm4.kp.blk HK3.out (by have := HSR.out; have := HRR.out; omega))
       have HD4 := Lib.hid (hm4.kp.blk HD3.out (by have := HSR.out; have := HRR.out; have := HLT.out; omega))
       clear hm4 HWC
       have x0 := HD4.out.c 1
       have f0 : w4.frozen? ⟨T, 1, none⟩ = false := HD4.out.frozen 1
       dsimp only at HM4 HN3 ⊢
       have HM5 : Hid (Mv C i j2 w (w4.setCell ⟨T, 1, none⟩ (.int .i64 (m : Int)))) := Lib.hid (HM4.out.far (by have := HT1.out; exact this) HLW.out _)
       have HK5 : Hid (Blk (w4.setCell ⟨T, 1, none⟩ (.int .i64 (m : Int))) S 56 #[.int .i64 0, .int .i64 0]) := Lib.hid (HK4.out.far (by show S ≠ T; omega) _)
       have HD5 : Hid (Blk (w4.setCell ⟨T, 1, none⟩ (.int .i64 (m : Int))) T 56 #[.int .i64 (k : Int), .int .i64 (m : Int)]) := Lib.hid (HD4.out.set_ 1 _)
       rcases hx3 : wantS C.L j2 [41] with f3 | j3
       ·have HX3 := Lib.hid hx3
        have HWC := Lib.hid (HW.out j2 ⟨#[41]⟩ [41] _ rfl HN3.out HM5.out)
        rw [hx3] at HWC
        clear hx3
        go_wp2_with fail
        refine HWC.out.mono ?_; rintro e w5 ⟨rfl, hb5⟩
        have HB5 := Lib.hid hb5
        clear hb5
        go_wp2_with fail
        have hcx : colT (measN C.s) C.L i = .error f3 := by
         rw [HCT.out, HX1.out]
         show (nameS (measN C.s) C.L j1 >>= _) = _
         rw [HX2.out]
         show (wantS C.L j2 [41] >>= _) = _
         rw [HX3.out]; rfl
        rw [← HRN.out, hcx]
        exact ⟨rfl, rfl, HB5.out⟩
       ·have HX3 := Lib.hid hx3
        have HWC := Lib.hid (HW.out j2 ⟨#[41]⟩ [41] _ rfl HN3.out HM5.out)
        rw [hx3] at HWC
        clear hx3
        go_wp2_with fail
        refine HWC.out.mono ?_; rintro e w5 ⟨rfl, hm5⟩
        have HM6 := Lib.hid (HM5.out.trans hm5)
        have HK6 := Lib.hid (hm5.kp.blk HK5.out (by have := HSR.out; have := HRR.out; omega))
        have HD6 := Lib.hid (hm5.kp.blk HD5.out (by have := HSR.out; have := HRR.out; have := HLT.out; omega))
        clear hm5 HWC x0 f0
        have y0 := HD6.out.c 0
        have y1 := HD6.out.c 1
        have x0 := HK6.out.c 0
        have x1 := HK6.out.c 1
        have f0 : w5.frozen? ⟨S, 0, none⟩ = false := HK6.out.frozen 0
        have f1 : w5.frozen? ⟨S, 1, none⟩ = false := HK6.out.frozen 1
        go_wp2_with fail
        have HFN : Hid (Mv C i j3 w ((w5.setCell ⟨S, 0, none⟩ (.int .i64 (k : Int))).setCell ⟨S, 1, none⟩ (.int .i64 (m : Int)))) := Lib.hid ((HM6.out.far (Nat.le_of_eq HS.out) HLW.out _).far (Nat.le_of_eq HS.out) HLW.out _)
        have HFK := Lib.hid ((HK6.out.set_ 0 (.int .i64 (k : Int))).set_ 1 (.int .i64 (m : Int)))
        refine bodyPost_ret (v := colV ((k : Int), (m : Int))) ?_ rfl ?_
        ·have z0 : ((w5.setCell ⟨S, 0, none⟩ (.int .i64 (k : Int))).setCell ⟨S, 1, none⟩ (.int .i64 (m : Int))).cell? ⟨S, 0, none⟩ = some (.int .i64 (k : Int)) := HFK.out.cell 0
         have z1 : ((w5.setCell ⟨S, 0, none⟩ (.int .i64 (k : Int))).setCell ⟨S, 1, none⟩ (.int .i64 (m : Int))).cell? ⟨S, 1, none⟩ = some (.int .i64 (m : Int)) := HFK.out.cell 1
         unfold colV
         simp [results, Tryz.results58, go_sem, z0, z1]
        ·rw [← HRN.out, HCT.out, HX1.out]
         show RVal C i w colV (nameS (measN C.s) C.L j1 >>= _) _ _
         rw [HX2.out]
         show RVal C i w colV (wantS C.L j2 [41] >>= _) _ _
         rw [HX3.out]
         exact ⟨rfl, HFN.out⟩
  ·go_wp2_with fail
   refine (HF.out _ HM.out).mono ?_; rintro e w2 ⟨rfl, hb2⟩
   have HB2 := Lib.hid hb2
   have HKB : Hid (kindAt C.L i aggW 0 = none) := Lib.hid (by
    rw [← HKA.out, show k = 7 by have := HQ.out; omega]; rfl)
   clear hb2
   go_wp2_with fail
   rw [← HRN.out]
   unfold colT
   rw [HKB.out]
   exact ⟨rfl, rfl, HB2.out⟩
end Go.Proofs.YtaofjnidniekjaaGreatDoor
/- The lists that the reader of package parse goes past: things with a word or a sign between. Conditions: those stated. -/
namespace Go.Proofs.YtaofjnidniekjaaGreatDoor
open Go.RowKit

/-- a call's answer: nothing, the reading further on; or the fault -/
def RList {σ : Type} (C : RC) (I : Nat → σ → World → Prop) (r : Except (Nat × Nat) (Nat × σ)) (e : Ending) (w' : World) : Prop :=
 match r with
 | .ok x => e = .returned (.tuple #[]) ∧ I x.1 x.2 w'
 | .error f => Fails C f e w'
/-- a reading that is carried on by a list -/
structure Reads {σ : Type} (C : RC) (I : Nat → σ → World → Prop) (one : Nat → σ → Except (Nat × Nat) (Nat × σ)) (F : FuncId) (args : Array Value) : Prop where
 at' : ∀ i x w, I i x w → RAt C i w
 mv : ∀ i j x w w', i ≤ j → I i x w → Mv C i j w w' → I j x w'
 read : ∀ i x w, i < C.L.length → I i x w → Calls Tryz.prog F args w (RList C I (one i x))
 goes : Goes C.L one
 call : ∀ w, (callFunc F args).run Tryz.prog w = .ok (.enter F args) w
 next : ∀ i x y, i < C.L.length → one i x = .ok y → y.1 < C.L.length

theorem list_step {σ : Type} {L : List Tok} {one : Nat → σ → Except (Nat × Nat) (Nat × σ)} (hg : Goes L one) (b : List UInt8) (i : Nat) (x : σ) :
  listS one L b (L.length + 1) i x = (one i x >>= fun y => if wordAt L y.1 b = true then listS one L b (L.length + 1) (y.1 + 1) y.2 else pure (y.1, y.2)) := by
 show (one i x >>= fun y => if wordAt L y.1 b = true then listS one L b L.length (y.1 + 1) y.2 else pure (y.1, y.2)) = _
 rcases hx : one i x with e | y
 ·rfl
 ·show (if wordAt L y.1 b = true then listS one L b L.length (y.1 + 1) y.2 else pure (y.1, y.2)) = (if wordAt L y.1 b = true then listS one L b (L.length + 1) (y.1 + 1) y.2 else pure (y.1, y.2))
  obtain ⟨h1, h2⟩ := hg i x y hx
  rw [list_fuel hg b L.length (L.length + 1) (y.1 + 1) y.2 (by omega) (by omega) (by omega) (by omega)]

set_option maxRecDepth 100000 in
theorem plist_any {σ : Type} (C : RC) (hC : C.Ok) {I : Nat → σ → World → Prop} {one : Nat → σ → Except (Nat × Nat) (Nat × σ)} {F : FuncId} {first cap : Array Value} (H : Reads C I one F (first ++ cap)) (u : ByteArray) (b : List UInt8) (hu : u.data.toList = b)
  (i : Nat) (hi : i < C.L.length) (hi0 : 0 < i) (x : σ) (w : World) (hI : I i x w) :
  Calls Tryz.prog 56 #[.pointer (some ⟨C.R, 0, none⟩), .string u, .func (.func F) first cap] w (RList C I (listS one C.L b C.L.length i x)) := by
 have HG := Lib.hid hC.good
 have HH := Lib.hid H
 have HE : Hid (∀ (j : Nat) (v : Bool), wordAt C.L j b = v → ∀ w1, j < C.L.length → RAt C j w1 → Calls Tryz.prog 59 #[.pointer (some ⟨C.R, 0, none⟩), .string u] w1 fun e w' => e = .returned (.bool v) ∧ Mv C j (if v then j + 1 else j) w1 w') := Lib.hid (fun j v hb w1 hj hm => eat_any C hC j hj u v (by rw [hu]; exact hb) w1 hm)
 rw [list_fuel H.goes b C.L.length (C.L.length + 1) i x (by omega) (by omega) (by omega) (by omega)]
 have HST := Lib.hid (fun i x => list_step H.goes b i x)
 obtain ⟨r, hr⟩ : ∃ r, RList C I (listS one C.L b (C.L.length + 1) i x) = r := ⟨_, rfl⟩
 rw [hr]
 have HRN := Lib.hid hr
 have hcf := H.call
 have HO := Lib.hid (H.read i x w hi hI)
 have HI := Lib.hid hi
 have HNX := Lib.hid (H.next i x)
 clear hr hC hi0 hI hu H hi
 obtain ⟨R, hRR⟩ : ∃ r, C.R = r := ⟨_, rfl⟩
 rw [hRR] at HE ⊢
 clear hRR
 go_enter Tryz.func56, Tryz.ntmps56
 go_wp2_with fail
 rcases hx1 : one i x with f | ⟨j, y⟩
 ·have HX1 := Lib.hid hx1
  rw [hx1] at HO
  clear hx1
  refine HO.out.mono ?_; rintro e w1 ⟨rfl, hb1⟩
  have HB1 := Lib.hid hb1
  have hcx : listS one C.L b (C.L.length + 1) i x = .error f := by rw [HST.out, HX1.out]; rfl
  rw [hcx] at HRN
  clear hb1 hcx hcf
  go_wp2_with fail
  rw [← HRN.out]
  exact ⟨rfl, rfl, HB1.out⟩
 ·have HX1 := Lib.hid hx1
  have HN1 := Lib.hid (HNX.out _ HI.out hx1)
  rw [hx1] at HO
  clear hx1
  refine HO.out.mono ?_; rintro e w1 ⟨rfl, hi1⟩
  have HI1 := Lib.hid hi1
  have HS1 : Hid ((if wordAt C.L j b = true then listS one C.L b (C.L.length + 1) (j + 1) y else pure (j, y)) = listS one C.L b (C.L.length + 1) i x) := Lib.hid (by rw [HST.out i x, HX1.out]; rfl)
  clear hi1
  go_wp2_with fail
  go_loopg [] (C.L.length - j) (fun q wr => ∃ (j : Nat) (y : σ), j < C.L.length ∧ C.L.length - j = q ∧ I j y wr ∧ (if wordAt C.L j b = true then listS one C.L b (C.L.length + 1) (j + 1) y else pure (j, y)) = listS one C.L b (C.L.length + 1) i x)
  case atStart => exact ⟨j, y, HN1.out, rfl, HI1.out, HS1.out⟩
  case round =>
   obtain ⟨j, y, hj, hq, hi, hs⟩ := hrel
   have HJ := Lib.hid hj
   have HQ := Lib.hid hq
   have HI2 := Lib.hid hi
   have HS2 := Lib.hid hs
   clear hj hq hi hs
   obtain ⟨v, hv⟩ : ∃ v, wordAt C.L j b = v := ⟨_, rfl⟩
   have HV := Lib.hid hv
   have HEE := Lib.hid (HE.out j v hv wr HJ.out (HH.out.at' _ _ _ HI2.out))
   clear hv
   go_wp2_with fail
   refine HEE.out.mono ?_; rintro e w2 ⟨rfl, hm2⟩
   have HI3 := Lib.hid (HH.out.mv _ _ _ _ _ (by cases v <;> simp) HI2.out hm2)
   clear hm2 HEE
   rcases v with _ | _
   ·have hcx : listS one C.L b (C.L.length + 1) i x = .ok (j, y) := by rw [← HS2.out, HV.out]; rfl
    rw [hcx] at HRN
    clear hcx hcf
    go_wp2_with fail
    go_end0
    rw [← HRN.out]
    exact ⟨rfl, HI3.out⟩
   ·have HN3 := Lib.hid (word_next HG.out HV.out)
    have HO3 := Lib.hid (HH.out.read (j + 1) y w2 HN3.out HI3.out)
    have HNX3 := Lib.hid (HH.out.next (j + 1) y)
    have HS3 : Hid (listS one C.L b (C.L.length + 1) (j + 1) y = listS one C.L b (C.L.length + 1) i x) := Lib.hid (by rw [← HS2.out, HV.out]; rfl)
    go_wp2_with fail
    rcases hx1 : one (j + 1) y with f | ⟨j2, y2⟩
    ·have hcx : listS one C.L b (C.L.length + 1) i x = .error f := by rw [← HS3.out, HST.out, hx1]; rfl
     rw [hx1] at HO3
     rw [hcx] at HRN
     clear hx1 hcx
     refine HO3.out.mono ?_; rintro e w3 ⟨rfl, hb1⟩
     have HB1 := Lib.hid hb1
     clear hb1 hcf
     go_wp2_with fail
     rw [← HRN.out]
     exact ⟨rfl, rfl, HB1.out⟩
    ·have HN4 := Lib.hid (HNX3.out _ HN3.out hx1)
     have HGO := Lib.hid (HH.out.goes (j + 1) y _ hx1)
     have HS4 : Hid ((if wordAt C.L j2 b = true then listS one C.L b (C.L.length + 1) (j2 + 1) y2 else pure (j2, y2)) = listS one C.L b (C.L.length + 1) i x) := Lib.hid (by rw [← HS3.out, HST.out (j + 1) y, hx1]; rfl)
     rw [hx1] at HO3
     clear hx1
     refine HO3.out.mono ?_; rintro e w3 ⟨rfl, hi4⟩
     have HI4 := Lib.hid hi4
     clear hi4
     go_wp2_with fail
     go_roundg (C.L.length - j2)
     case measure => have h1 : j + 1 < j2 := HGO.out.1; have h2 := HQ.out; have h3 : j2 < C.L.length := HN4.out; omega
     case rel => exact ⟨j2, y2, HN4.out, rfl, HI4.out, HS4.out⟩
end Go.Proofs.YtaofjnidniekjaaGreatDoor
/- The query that the reader of package parse builds, in memory; what a column, a name and an order add to it. Conditions: those stated. -/
namespace Go.Proofs.YtaofjnidniekjaaGreatDoor
open Go.RowKit

theorem own_other {w w' : World} {B1 B2 s1 s2 n1 n2 : Nat} {e1 e2 : TypeId} {v1 v2 : Value} {c1 c2 : List Value} (h1 : w.ownsRow B1 e1 s1 v1 n1 c1) (h2 : w.ownsRow B2 e2 s2 v2 n2 c2) (hne : e1 ≠ e2) (hg : w.grownBy w' v2.ownBlock) : w'.ownsRow B1 e1 s1 v1 n1 c1 := by
 refine ⟨h1.1, ?_⟩
 rcases h1.2 with h | ⟨g, cap, cur, hv, hB, hh, r⟩
 ·exact .inl h
 refine .inr ⟨g, cap, cur, hv, hB, ?_, r⟩
 rw [hg.block g (Array.getElem?_eq_some_iff.1 hh).1 ?_]
 ·exact hh
 intro he
 rcases h2.2 with ⟨h, _⟩ | ⟨g2, cap2, cur2, hv2, _, hh2, _⟩
 ·rw [h] at he; cases he
 ·rw [hv2] at he
  have : g = g2 := by simpa [Value.ownBlock] using he
  subst this
  rw [hh] at hh2
  injection hh2 with h3
  injection h3 with _ h4 _
  exact hne h4
theorem blk_other {w w' : World} {g B2 s2 n2 : Nat} {t e2 : TypeId} {cs : Array Value} {v2 : Value} {c2 : List Value} (h1 : Blk w g t cs) (h2 : w.ownsRow B2 e2 s2 v2 n2 c2) (hne : t ≠ e2) (hg : w.grownBy w' v2.ownBlock) : Blk w' g t cs := by
 refine h1.grown hg ?_
 intro he
 rcases h2.2 with ⟨h, _⟩ | ⟨g2, cap2, cur2, hv2, _, hh2, _⟩
 ·rw [h] at he; cases he
 ·rw [hv2] at he
  have : g = g2 := by simpa [Value.ownBlock] using he
  subst this
  unfold Blk at h1
  rw [h1] at hh2
  injection hh2 with h3
  injection h3 with _ h4 _
  exact hne h4
theorem own_set {w : World} {R B s n : Nat} {e : TypeId} {v : Value} {cs : List Value} (h : w.ownsRow B e s v n cs) (hB : R < B) (k : Nat) (u : Value) : (w.setCell ⟨R, k, none⟩ u).ownsRow B e s v n cs := by
 refine ⟨h.1, ?_⟩
 rcases h.2 with h | ⟨g, cap, cur, hv, hg, hh, r⟩
 ·exact .inl h
 ·refine .inr ⟨g, cap, cur, hv, hg, ?_, r⟩
  rw [Below.heap_setCell _ _ _ _ (by show g ≠ R; omega)]; exact hh
/-- a query's rows, the reader at place i -/
structure QR (C : RC) (i : Nat) (q : QP) (vf vc vo : Value) (fl : List Flt) (w : World) : Prop where
 bl : Below C.R C.w0 w
 rd : Rd C w i (.int .u32 q.group) vf vc vo (.int .i64 q.limit)
 rf : w.ownsRow (C.R + 1) 61 2 vf fl.length (fltCells fl)
 rc : w.ownsRow (C.R + 1) 56 2 vc q.cols.length (colCells q.cols)
 ro : w.ownsRow (C.R + 1) 64 2 vo q.ord.length (ordCells q.ord)
 rk : ∀ f ∈ fl, f.codes.length = f.n ∧ w.ownsRow (C.R + 1) 3 1 (.slice f.a f.n f.c) f.n (f.codes.map (Value.int .i64))
 fs : fl.map (fun f => (f.dim, f.codes)) = q.flts
 len : q.cols.length ≤ i ∧ q.ord.length ≤ i ∧ fl.length ≤ i
 grp : 0 ≤ q.group ∧ q.group < 2 ^ C.s.dims.length
 pc : ∀ c ∈ q.cols, I64 c.1 ∧ I64 c.2
 po : ∀ o ∈ q.ord, I64 o.1
 lim : I64 q.limit
 flt : ∀ f ∈ fl, I64 f.dim ∧ ∀ x ∈ f.codes, I64 x
theorem QR.mv {C : RC} {i j : Nat} {q : QP} {vf vc vo : Value} {fl : List Flt} {w w' : World} (h : QR C i q vf vc vo fl w) (hm : Mv C i j w w') (hij : i ≤ j) : QR C j q vf vc vo fl w' :=
 ⟨hm.kp.below h.bl h.rd.lt, hm.rd _ _ _ _ _ h.rd, hm.kp.own h.rf (Nat.lt_succ_self _), hm.kp.own h.rc (Nat.lt_succ_self _), hm.kp.own h.ro (Nat.lt_succ_self _), fun f hf => ⟨(h.rk f hf).1, hm.kp.own (h.rk f hf).2 (Nat.lt_succ_self _)⟩, h.fs,
  ⟨Nat.le_trans h.len.1 hij, Nat.le_trans h.len.2.1 hij, Nat.le_trans h.len.2.2 hij⟩, h.grp, h.pc, h.po, h.lim, h.flt⟩
theorem QR.drew {C : RC} {i : Nat} {q : QP} {vf vc vo : Value} {fl : List Flt} {w : World} (h : QR C i q vf vc vo fl w) : QR C i q vf vc vo fl w.drew :=
 ⟨blk_d h.bl, h.rd, h.rf, h.rc, h.ro, h.rk, h.fs, h.len, h.grp, h.pc, h.po, h.lim, h.flt⟩
theorem QR.at' {C : RC} {i : Nat} {q : QP} {vf vc vo : Value} {fl : List Flt} {w : World} (h : QR C i q vf vc vo fl w) : RAt C i w := ⟨h.bl, _, _, _, _, _, h.rd⟩
theorem colCells_push : ∀ (l : List (Int × Int)) (x : Int × Int), colCells (l ++ [x]) = colCells l ++ [.int .i64 x.1, .int .i64 x.2]
 | [], _ => rfl
 | y :: l, x => by rw [List.cons_append]; unfold colCells; rw [colCells_push l x]; rfl
theorem ordCells_push : ∀ (l : List (Int × Bool)) (x : Int × Bool), ordCells (l ++ [x]) = ordCells l ++ [.int .i64 x.1, .bool x.2]
 | [], _ => rfl
 | y :: l, x => by rw [List.cons_append]; unfold ordCells; rw [ordCells_push l x]; rfl
theorem fltCells_push : ∀ (l : List Flt) (x : Flt), fltCells (l ++ [x]) = fltCells l ++ [.int .i64 x.dim, .slice x.a x.n x.c]
 | [], _ => rfl
 | y :: l, x => by rw [List.cons_append]; unfold fltCells; rw [fltCells_push l x]; rfl
theorem QR.pushC {C : RC} {j : Nat} {q : QP} {vf vc vo v' : Value} {fl : List Flt} {w w' : World} (h : QR C j q vf vc vo fl w) (x : Int × Int) (hx : I64 x.1 ∧ I64 x.2) (hl : q.cols.length + 1 ≤ j)
  (ho : w'.ownsRow (C.R + 1) 56 2 v' (q.cols.length + 1) (colCells q.cols ++ [.int .i64 x.1, .int .i64 x.2])) (hg : w.grownBy w' vc.ownBlock) (hb : Below C.R C.w0 w') :
  QR C j { q with cols := q.cols ++ [x] } vf v' vo fl (w'.setCell ⟨C.R, 8, none⟩ v') := by
 have hlt := Nat.lt_succ_self C.R
 refine ⟨below_set hb (Nat.le_refl _) _, ?_, own_set (own_other h.rf h.rc (by decide) hg) hlt _ _, ?_, own_set (own_other h.ro h.rc (by decide) hg) hlt _ _, fun f hf => ⟨(h.rk f hf).1, own_set (own_other (h.rk f hf).2 h.rc (by decide) hg) hlt _ _⟩, h.fs, ?_, h.grp, ?_, h.po, h.lim, h.flt⟩
 ·exact ((blk_other h.rd h.rc (by decide) hg).set_ 8 v').to rfl
 ·have := own_set ho hlt 8 v'
  rw [← colCells_push] at this
  simpa using this
 ·refine ⟨by simpa using hl, h.len.2⟩
 ·intro c hc
  rcases List.mem_append.1 hc with hc | hc
  ·exact h.pc c hc
  ·rw [List.mem_singleton.1 hc]; exact hx
theorem QR.pushO {C : RC} {j : Nat} {q : QP} {vf vc vo v' : Value} {fl : List Flt} {w w' : World} (h : QR C j q vf vc vo fl w) (x : Int × Bool) (hx : I64 x.1) (hl : q.ord.length + 1 ≤ j)
  (ho : w'.ownsRow (C.R + 1) 64 2 v' (q.ord.length + 1) (ordCells q.ord ++ [.int .i64 x.1, .bool x.2])) (hg : w.grownBy w' vo.ownBlock) (hb : Below C.R C.w0 w') :
  QR C j { q with ord := q.ord ++ [x] } vf vc v' fl (w'.setCell ⟨C.R, 9, none⟩ v') := by
 have hlt := Nat.lt_succ_self C.R
 refine ⟨below_set hb (Nat.le_refl _) _, ?_, own_set (own_other h.rf h.ro (by decide) hg) hlt _ _, own_set (own_other h.rc h.ro (by decide) hg) hlt _ _, ?_, fun f hf => ⟨(h.rk f hf).1, own_set (own_other (h.rk f hf).2 h.ro (by decide) hg) hlt _ _⟩, h.fs, ?_, h.grp, h.pc, ?_, h.lim, h.flt⟩
 ·exact ((blk_other h.rd h.ro (by decide) hg).set_ 9 v').to rfl
 ·have := own_set ho hlt 9 v'
  rw [← ordCells_push] at this
  simpa using this
 ·refine ⟨h.len.1, by simpa using hl, h.len.2.2⟩
 ·intro c hc
  rcases List.mem_append.1 hc with hc | hc
  ·exact h.po c hc
  ·rw [List.mem_singleton.1 hc]; exact hx
theorem QR.pushF {C : RC} {j : Nat} {q : QP} {vf vc vo v' : Value} {fl : List Flt} {w w' : World} (h : QR C j q vf vc vo fl w) (x : Flt) (hx : I64 x.dim ∧ ∀ y ∈ x.codes, I64 y) (hxc : x.codes.length = x.n) (hxr : w.ownsRow (C.R + 1) 3 1 (.slice x.a x.n x.c) x.n (x.codes.map (Value.int .i64))) (hl : fl.length + 1 ≤ j)
  (ho : w'.ownsRow (C.R + 1) 61 2 v' (fl.length + 1) (fltCells fl ++ [.int .i64 x.dim, .slice x.a x.n x.c])) (hg : w.grownBy w' vf.ownBlock) (hb : Below C.R C.w0 w') :
  QR C j { q with flts := q.flts ++ [(x.dim, x.codes)] } v' vc vo (fl ++ [x]) (w'.setCell ⟨C.R, 7, none⟩ v') := by
 have hlt := Nat.lt_succ_self C.R
 refine ⟨below_set hb (Nat.le_refl _) _, ?_, ?_, own_set (own_other h.rc h.rf (by decide) hg) hlt _ _, own_set (own_other h.ro h.rf (by decide) hg) hlt _ _, fun f hf => ?_, ?_, ?_, h.grp, h.pc, h.po, h.lim, fun f hf => ?_⟩
 ·exact ((blk_other h.rd h.rf (by decide) hg).set_ 7 v').to rfl
 ·have := own_set ho hlt 7 v'
  rw [← fltCells_push] at this
  simpa using this
 ·rcases List.mem_append.1 hf with hf | hf
  ·exact ⟨(h.rk f hf).1, own_set (own_other (h.rk f hf).2 h.rf (by decide) hg) hlt _ _⟩
  ·rw [List.mem_singleton.1 hf]; exact ⟨hxc, own_set (own_other hxr h.rf (by decide) hg) hlt _ _⟩
 ·rw [List.map_append, h.fs]; rfl
 ·refine ⟨h.len.1, h.len.2.1, by simpa using hl⟩
 ·rcases List.mem_append.1 hf with hf | hf
  ·exact h.flt f hf
  ·rw [List.mem_singleton.1 hf]; exact hx
/-- the query so far, and the place of the reader in a box -/
def QB (C : RC) (bx : Nat) (i : Nat) (q : QP) (w : World) : Prop := (∃ vf vc vo fl, QR C i q vf vc vo fl w) ∧ Blk w bx 78 #[.pointer (some ⟨C.R, 0, none⟩)] ∧ C.R < bx
theorem QB.mv {C : RC} {bx i j : Nat} {q : QP} {w w' : World} (hij : i ≤ j) (h : QB C bx i q w) (hm : Mv C i j w w') : QB C bx j q w' := by
 obtain ⟨⟨vf, vc, vo, fl, h1⟩, h2, h3⟩ := h
 exact ⟨⟨vf, vc, vo, fl, h1.mv hm hij⟩, hm.kp.blk h2 (by omega), h3⟩
theorem QB.at' {C : RC} {bx i : Nat} {q : QP} {w : World} (h : QB C bx i q w) : RAt C i w := by
 obtain ⟨⟨vf, vc, vo, fl, h1⟩, _⟩ := h
 exact h1.at'
theorem info_col : (Tryz.prog.info? 56).map (fun i => (i.zero, i.size, i.bytes)) = some (some (.agg #[.int .i64 0, .int .i64 0]), 2, 16) := by kernel_rfl
theorem info_sort : (Tryz.prog.info? 64).map (fun i => (i.zero, i.size, i.bytes)) = some (some (.agg #[.int .i64 0, .bool false]), 2, 16) := by kernel_rfl
theorem info_flt : (Tryz.prog.info? 61).map (fun i => (i.zero, i.size, i.bytes)) = some (some (.agg #[.int .i64 0, .slice none 0 0]), 2, 32) := by kernel_rfl
end Go.Proofs.YtaofjnidniekjaaGreatDoor
