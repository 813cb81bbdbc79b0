/- What the tokens of a text are like (plain): their kinds, numbers, sizes and places. No conditions but those stated. -/
import Derived.Test.YtaofjnidniekjaaGreatDoorMPaB
import Derived.Test.YtaofjnidniekjaaGreatDoorMLxA
import Derived.Test.YtaofjnidniekjaaGreatDoorMPaC
import Derived.Test.YtaofjnidniekjaaGreatDoorLexF
namespace Go.Proofs.YtaofjnidniekjaaGreatDoor
open Go.RowKit

theorem runR_num {t : ByteArray} {k n : Int} (h : runR t = (0, k, n)) : 0 ≤ n ∧ n ≤ 1000000000000000000 := by
 unfold runR at h
 split at h
 ·cases h; exact ⟨Int.le_refl 0, by decide⟩
 split at h
 ·split at h
  ·injection h with h; exact absurd h (by decide)
  ·split at h
   ·cases h; exact ⟨Int.le_refl 0, by decide⟩
   ·injection h with h; exact absurd h (by decide)
 split at h
 ·rename_i hd
  split at h
  ·injection h with h; exact absurd h (by decide)
  ·rename_i hs
   cases h
   obtain ⟨h1, h2⟩ := numS_bd t.data.toList (fun c hc => by have := hd.1; rw [List.all_eq_true] at this; exact this c hc)
   refine ⟨h1, Int.le_trans (Int.le_of_lt h2) ?_⟩
   have hl : t.data.toList.length ≤ 18 := by
    have : t.data.toList.length = t.size := by rw [Array.length_toList]; rfl
    omega
   have h3 : (10 : Nat) ^ t.data.toList.length ≤ 10 ^ 18 := Nat.pow_le_pow_right (by decide) hl
   have e : ((10 ^ t.data.toList.length : Nat) : Int) = 10 ^ t.data.toList.length := by rw [Int.natCast_pow]; rfl
   have h4 : (10 : Nat) ^ 18 = 1000000000000000000 := by decide
   omega
 ·injection h with h; exact absurd h (by decide)
theorem good_mem {xs : List Tok} {x : Tok} (hx : x ∈ xs) : x.t.size ≤ sizes xs := by
 induction xs with
 | nil => cases hx
 | cons y ys ih =>
  simp only [sizes]
  rcases List.mem_cons.1 hx with rfl | hx
  ·omega
  ·have := ih hx; omega
theorem lex_tokok {s : ByteArray} {l : List Tok} (h : lexAll s = .ok l) : TokOk l := by
 unfold lexAll at h
 by_cases hs : 4096 < s.size
 ·rw [if_pos hs] at h; cases h
 rw [if_neg hs] at h
 obtain ⟨xs, rfl, hg, hl, hz⟩ := lx_good s s.size 0 [] l h (fun x hx => by cases hx) (by decide) (Nat.zero_le _) (Nat.zero_le _)
 refine ⟨by simp, ?_, by rw [List.length_append]; simp; omega, fun x hx => ?_, fun x hx => ?_, fun x hx => ?_⟩
 ·unfold tokAt
  rw [List.getD_eq_getElem?_getD, List.length_append, List.getElem?_append_right (by simp)]
  simp
 ·rcases List.mem_append.1 hx with hx | hx
  ·rcases hg x hx with ⟨_, hn, _⟩ | ⟨_, _, hR⟩
   ·rw [hn]; exact ⟨Int.le_refl 0, by decide⟩
   ·exact runR_num hR
  ·rw [List.mem_singleton.1 hx]; exact ⟨Int.le_refl 0, show (0 : Int) ≤ _ by decide⟩
 ·rcases List.mem_append.1 hx with hx | hx
  ·have := good_mem hx; omega
  ·rw [List.mem_singleton.1 hx]; exact Nat.zero_le _
 ·rcases List.mem_append.1 hx with hx | hx
  ·rcases hg x hx with ⟨hk, _⟩ | ⟨_, _, hR⟩
   ·omega
   ·have := runR_kind _ _ _ hR; omega
  ·rw [List.mem_singleton.1 hx]; exact ⟨Int.le_refl 0, show (0 : Int) ≤ 4 by decide⟩
/-- places lie in the text -/
def InR (s : ByteArray) (r : LexR) : Prop := match r with
 | .ok l => ∀ x ∈ l, 0 ≤ x.a ∧ x.a ≤ (s.size : Int)
 | .bad b _ => 0 ≤ b ∧ b ≤ (s.size : Int)
theorem lx_in (s : ByteArray) : ∀ (f a : Nat) (out : List Tok), (∀ x ∈ out, 0 ≤ x.a ∧ x.a ≤ (s.size : Int)) → a ≤ s.size → InR s (lx s f a out)
 | 0, a, out, h, ha => by
  rw [lx]
  intro x hx
  rcases List.mem_append.1 hx with hx | hx
  ·exact h x hx
  ·rw [List.mem_singleton.1 hx]; exact ⟨Int.natCast_nonneg _, Int.le_refl _⟩
 | f + 1, a, out, h, ha => by
  have hpush : ∀ (k n : Int) (t : ByteArray), ∀ x ∈ out ++ [⟨k, t, n, (a : Int)⟩], 0 ≤ x.a ∧ x.a ≤ (s.size : Int) := by
   intro k n t x hx
   rcases List.mem_append.1 hx with hx | hx
   ·exact h x hx
   ·rw [List.mem_singleton.1 hx]; exact ⟨Int.natCast_nonneg _, Int.ofNat_le.2 ha⟩
  have hbad : ∀ e : Int, InR s (.bad a e) := fun e => ⟨Int.natCast_nonneg _, Int.ofNat_le.2 ha⟩
  by_cases hlt : a < s.size
  ·by_cases hb : isBlank s[a]
   ·rw [lx_blank hlt hb]; exact lx_in s f _ _ h (by omega)
   ·by_cases hsg : isSign s[a]
    ·by_cases ho : out.length = 1000
     ·rw [lx_sign_many hlt hb hsg ho]; exact hbad _
     ·rw [lx_sign hlt hb hsg ho]; exact lx_in s f _ _ (hpush _ _ _) (by omega)
    ·cases hr : runB s[a]
     ·rw [lx_bad hlt hb hsg hr]; exact hbad _
     ·obtain ⟨⟨er, k, n⟩, hR⟩ : ∃ r : Int × Int × Int, runR (s.extract a (rEnd s a)) = r := ⟨_, rfl⟩
      have hle : rEnd s a ≤ s.size := rEndF_le s _ _ (by omega)
      by_cases he : er = 0
      ·subst he
       by_cases ho : out.length = 1000
       ·rw [lx_run_many hlt hb hsg hr hR ho]; exact hbad _
       ·rw [lx_run hlt hb hsg hr hR ho]; exact lx_in s f _ _ (hpush _ _ _) hle
      ·rw [lx_run_bad hlt hb hsg hr hR he]; exact hbad _
  ·rw [lx_end (by omega)]
   intro x hx
   rcases List.mem_append.1 hx with hx | hx
   ·exact h x hx
   ·rw [List.mem_singleton.1 hx]; exact ⟨Int.natCast_nonneg _, Int.le_refl _⟩
theorem lexAll_in (s : ByteArray) : InR s (lexAll s) := by
 unfold lexAll
 split
 ·exact ⟨Int.le_refl 0, Int.natCast_nonneg _⟩
 ·exact lx_in s s.size 0 [] (fun x hx => by cases hx) (Nat.zero_le _)
end Go.Proofs.YtaofjnidniekjaaGreatDoor
/- The contract of package parse's Parse: it answers as the plain definition says. Conditions: those stated. -/
namespace Go.Proofs.YtaofjnidniekjaaGreatDoor
open Go.RowKit

theorem Res.below {w w' : World} {g B : Nat} {q : Array Value} {a er : Int} (h : Res w g q a er) (hb : Below B w w') (hB : g + 2 < B) : Res w' g q a er := ⟨h.1.below hb (by omega), h.2.1.below hb (by omega), h.2.2.below hb (by omega)⟩
theorem Res.store {w : World} {g : Nat} {d0 d1 d2 d3 d4 : Value} {x y : Int} (h : Res w g #[d0, d1, d2, d3, d4] x y) (c0 c1 c2 c3 c4 : Value) (a er : Int) :
  Res (((((((w.setCell ⟨g, 0, none⟩ c0).setCell ⟨g, 1, none⟩ c1).setCell ⟨g, 2, none⟩ c2).setCell ⟨g, 3, none⟩ c3).setCell ⟨g, 4, none⟩ c4).setCell ⟨g + 1, 0, none⟩ (.int .i64 a)).setCell ⟨g + 1 + 1, 0, none⟩ (.int .i64 er)) g #[c0, c1, c2, c3, c4] a er := by
 obtain ⟨h1, h2, h3⟩ := h
 have n1 : g ≠ g + 1 := by omega
 have n2 : g ≠ g + 1 + 1 := by omega
 have n3 : g + 1 ≠ g := by omega
 have n4 : g + 1 ≠ g + 1 + 1 := by omega
 have n5 : g + 1 + 1 ≠ g := by omega
 have n6 : g + 1 + 1 ≠ g + 1 := by omega
 exact ⟨((((((h1.set_ 0 c0).set_ 1 c1).set_ 2 c2).set_ 3 c3).set_ 4 c4).far n1 _).far n2 _, ((((((h2.far n3 _).far n3 _).far n3 _).far n3 _).far n3 _).set_ 0 _).far n4 _, ((((((h3.far n5 _).far n5 _).far n5 _).far n5 _).far n5 _).far n6 _).set_ 0 _⟩
theorem Res.store2 {w : World} {g : Nat} {q : Array Value} {x y : Int} (h : Res w g q x y) (a er : Int) : Res ((w.setCell ⟨g + 1, 0, none⟩ (.int .i64 a)).setCell ⟨g + 1 + 1, 0, none⟩ (.int .i64 er)) g q a er := by
 obtain ⟨h1, h2, h3⟩ := h
 have n1 : g ≠ g + 1 := by omega
 have n2 : g ≠ g + 1 + 1 := by omega
 have n4 : g + 1 ≠ g + 1 + 1 := by omega
 have n6 : g + 1 + 1 ≠ g + 1 := by omega
 exact ⟨(h1.far n1 _).far n2 _, (h2.set_ 0 _).far n4 _, (h3.far n6 _).set_ 0 _⟩
theorem below_store {B g : Nat} {w0 w : World} (h : Below B w0 w) (hB : B ≤ g) (c0 c1 c2 c3 c4 a er : Value) :
  Below B w0 (((((((w.setCell ⟨g, 0, none⟩ c0).setCell ⟨g, 1, none⟩ c1).setCell ⟨g, 2, none⟩ c2).setCell ⟨g, 3, none⟩ c3).setCell ⟨g, 4, none⟩ c4).setCell ⟨g + 1, 0, none⟩ a).setCell ⟨g + 1 + 1, 0, none⟩ er) :=
 below_set (below_set (below_set (below_set (below_set (below_set (below_set h (p := ⟨g, 0, none⟩) hB _) (p := ⟨g, 1, none⟩) hB _) (p := ⟨g, 2, none⟩) hB _) (p := ⟨g, 3, none⟩) hB _) (p := ⟨g, 4, none⟩) hB _) (p := ⟨g + 1, 0, none⟩) (by show B ≤ g + 1; omega) _) (p := ⟨g + 1 + 1, 0, none⟩) (by show B ≤ g + 1 + 1; omega) _
theorem below_store2 {B g : Nat} {w0 w : World} (h : Below B w0 w) (hB : B ≤ g) (a er : Value) : Below B w0 ((w.setCell ⟨g + 1, 0, none⟩ a).setCell ⟨g + 1 + 1, 0, none⟩ er) :=
 below_set (below_set h (p := ⟨g + 1, 0, none⟩) (by show B ≤ g + 1; omega) _) (p := ⟨g + 1 + 1, 0, none⟩) (by show B ≤ g + 1 + 1; omega) _
/-- a query, without places -/
def QP.qry (q : QP) : Qry := ⟨q.group, q.flts.map (fun f => ⟨f.1, f.2, none, 0, 0⟩), q.cols, q.ord, q.limit⟩
inductive PR where
 | bad (a er : Int)
 | ok (q : QP)
noncomputable def parseR (s : Sch) (t : ByteArray) : PR :=
 if chkS s ≠ 0 then .bad 0 1 else match lexAll t with
  | .bad a er => .bad a er
  | .ok L => match queryS (dimN s) (measN s) L with
   | .error f => .bad (tokAt L f.1).a f.2
   | .ok x => if qchk s x.2.qry ≠ 0 then .bad 0 (qchk s x.2.qry) else .ok x.2
def QP.at' (q : QP) (fl : List Flt) : Qry := ⟨q.group, fl, q.cols, q.ord, q.limit⟩
def RParse (w : World) (r : PR) (e : Ending) (w' : World) : Prop := match r with
 | .bad a er => e = .returned (.tuple #[.agg zeroQ, .int .i64 a, .int .i64 er]) ∧ Below w.heap.size w w'
 | .ok q => ∃ m fl, e = .returned (.tuple #[m.val (q.at' fl), .int .i64 0, .int .i64 0]) ∧ QryAt w' m (q.at' fl) ∧ fl.map (fun f => (f.dim, f.codes)) = q.flts ∧ Below w.heap.size w w'
theorem own_rowg {w : World} {B s n n' c : Nat} {e : TypeId} {a : Option Addr} {cs : List Value} (h : w.ownsRow B e s (.slice a n c) n' cs) : RowG s w a n c cs := by
 have e1 : n = n' := by
  rcases h.2 with ⟨h1, h2⟩ | ⟨g, cap, cur, h1, _⟩
  ·cases h1; exact h2.symm
  ·cases h1; rfl
 subst e1
 exact RowG.of_own h
theorem rowk_of_g {k : IntKind} {w : World} {a : Option Addr} {n cap : Nat} {xs : List Int} (h : RowG 1 w a n cap (xs.map (Value.int k))) : RowK k w a n cap xs := by
 obtain ⟨h1, h2, h3, h4⟩ := h
 have hl : xs.length = n := by simpa using h1
 refine ⟨hl, h2, h3, ?_⟩
 rcases h4 with h4 | ⟨b, off, e, hlt, hc⟩
 ·exact .inl h4
 ·refine .inr ⟨b, off, e, hlt, fun i hi => ?_⟩
  rw [hc i (by omega), List.getD_eq_getElem?_getD, List.getElem?_map, List.getElem?_eq_getElem (by omega), List.getD_eq_getElem?_getD, List.getElem?_eq_getElem (by omega)]
  rfl
/-- a query's rows, above block B -/
def QO (B : Nat) (q : QP) (vf vc vo : Value) (fl : List Flt) (w : World) : Prop :=
 w.ownsRow B 61 2 vf fl.length (fltCells fl) ∧ w.ownsRow B 56 2 vc q.cols.length (colCells q.cols) ∧ w.ownsRow B 64 2 vo q.ord.length (ordCells q.ord) ∧ ∀ f ∈ fl, w.ownsRow B 3 1 (.slice f.a f.n f.c) f.n (f.codes.map (Value.int .i64))
theorem QR.qo {C : RC} {i : Nat} {q : QP} {vf vc vo : Value} {fl : List Flt} {w : World} (h : QR C i q vf vc vo fl w) : QO (C.R + 1) q vf vc vo fl w := ⟨h.rf, h.rc, h.ro, fun f hf => (h.rk f hf).2⟩
theorem QO.set {B g : Nat} {q : QP} {vf vc vo : Value} {fl : List Flt} {w : World} (h : QO B q vf vc vo fl w) (hg : g < B) (k : Nat) (u : Value) : QO B q vf vc vo fl (w.setCell ⟨g, k, none⟩ u) :=
 ⟨own_set h.1 hg _ _, own_set h.2.1 hg _ _, own_set h.2.2.1 hg _ _, fun f hf => own_set (h.2.2.2 f hf) hg _ _⟩
theorem QO.below {B N : Nat} {q : QP} {vf vc vo : Value} {fl : List Flt} {w w' : World} (h : QO B q vf vc vo fl w) (hb : Below N w w') (hN : w.heap.size ≤ N) : QO B q vf vc vo fl w' :=
 ⟨own_below h.1 hb hN, own_below h.2.1 hb hN, own_below h.2.2.1 hb hN, fun f hf => own_below (h.2.2.2 f hf) hb hN⟩
theorem qry_qo {C : RC} {i : Nat} {q : QP} {fa ca oa : Option Addr} {fc cc oc : Nat} {fl : List Flt} {w0 w : World} {B : Nat} (h : QR C i q (.slice fa fl.length fc) (.slice ca q.cols.length cc) (.slice oa q.ord.length oc) fl w0) (hd : C.s.dims.length ≤ 6) (ho : QO B q (.slice fa fl.length fc) (.slice ca q.cols.length cc) (.slice oa q.ord.length oc) fl w) : QryAt w ⟨fa, fl.length, fc, ca, q.cols.length, cc, oa, q.ord.length, oc⟩ (q.at' fl) := by
 refine ⟨⟨own_rowg ho.1, rfl, fun f hf => ⟨rowk_of_g (own_rowg (ho.2.2.2 f hf)), (h.flt f hf).1.1, (h.flt f hf).1.2, (h.flt f hf).2⟩⟩, own_rowg ho.2.1, rfl, own_rowg ho.2.2.1, rfl, ⟨h.grp.1, ?_⟩, h.lim, h.pc, h.po⟩
 have h1 := h.grp.2
 have : C.s.dims.length = 0 ∨ C.s.dims.length = 1 ∨ C.s.dims.length = 2 ∨ C.s.dims.length = 3 ∨ C.s.dims.length = 4 ∨ C.s.dims.length = 5 ∨ C.s.dims.length = 6 := by omega
 show q.group ≤ 4294967295
 rcases this with e | e | e | e | e | e | e <;> rw [e] at h1 <;> omega
theorem fltsN_same (ds : List (ByteArray × Int)) {a b : List Flt} (h : a.map (fun f => (f.dim, f.codes)) = b.map (fun f => (f.dim, f.codes))) : ∀ g i, fltsN ds a g i = fltsN ds b g i
 | 0, _ => rfl
 | g + 1, i => by
  have e : ((fltAt a i).dim, (fltAt a i).codes) = ((fltAt b i).dim, (fltAt b i).codes) := by
   have h1 : (a.map (fun f => (f.dim, f.codes)))[i]? = (b.map (fun f => (f.dim, f.codes)))[i]? := by rw [h]
   rw [List.getElem?_map, List.getElem?_map] at h1
   unfold fltAt
   rw [List.getD_eq_getElem?_getD, List.getD_eq_getElem?_getD]
   cases ha : a[i]? with
   | none => cases hb : b[i]? with
    | none => rfl
    | some y => rw [ha, hb] at h1; cases h1
   | some x => cases hb : b[i]? with
    | none => rw [ha, hb] at h1; cases h1
    | some y => rw [ha, hb] at h1; simpa using h1
  injection e with e1 e2
  rw [fltsN_succ, fltsN_succ, e1, e2, fltsN_same ds h g (i + 1)]
theorem fchk_same (s : Sch) {a b : List Flt} (h : a.map (fun f => (f.dim, f.codes)) = b.map (fun f => (f.dim, f.codes))) : fchk s a = fchk s b := by
 have hl : a.length = b.length := by have := congrArg List.length h; simpa using this
 unfold fchk
 rw [fltsN_same s.dims h, hl]
theorem qchk_at (s : Sch) (q : QP) {fl : List Flt} (h : fl.map (fun f => (f.dim, f.codes)) = q.flts) : qchk s (q.at' fl) = qchk s q.qry := by
 have e : fl.map (fun f => (f.dim, f.codes)) = q.qry.flts.map (fun f => (f.dim, f.codes)) := by
  rw [h]
  show _ = (q.flts.map (fun f => (⟨f.1, f.2, none, 0, 0⟩ : Flt))).map (fun f => (f.dim, f.codes))
  rw [List.map_map]
  exact (List.map_id _).symm
 unfold qchk
 rw [show (q.at' fl).flts = fl from rfl, fchk_same s e]
 rfl

set_option maxRecDepth 100000 in
set_option maxHeartbeats 2000000 in
theorem pparse_any (w : World) (l : SchL) (s : Sch) (h : SchAt w l s) (t : ByteArray) (ht : t.size ≤ maxLen) :
  Calls Tryz.prog 10 #[l.val, .string t] w (RParse w (parseR s t)) := by
 have hmf : ∀ (fn : Fn) (first cap : Array Value) (w : World), (Instr.makeFunc fn first cap).run Tryz.prog w = .ok (.func fn first cap) w := fun _ _ _ _ => rfl
 obtain ⟨ad, nd, cd, ai, ni, ci, an, nn, cn, av, nv, cv⟩ := l
 obtain ⟨W0, hW0⟩ : ∃ W0, ((((w.alloc (.cells #[.slice ad nd cd, .slice ai ni ci, .slice an nn cn, .slice av nv cv] 26)).alloc (.cells #[.int .u32 0, .slice none 0 0, .slice none 0 0, .slice none 0 0, .int .i64 0] 32)).alloc (.cells #[.int .i64 0] 3)).alloc (.cells #[.int .i64 0] 36)) = W0 := ⟨_, rfl⟩
 have HB0 : Hid (Below w.heap.size w W0) := Lib.hid (by
  rw [← hW0]
  refine (((((Below.refl _ _).alloc (Nat.le_refl _) _).alloc ?_ _).alloc ?_ _).alloc ?_ _) <;> simp <;> omega)
 have HSZ : Hid (W0.heap.size = w.heap.size + 4) := Lib.hid (by rw [← hW0]; simp)
 have HK0 : Hid (Blk W0 w.heap.size 26 #[.slice ad nd cd, .slice ai ni ci, .slice an nn cn, .slice av nv cv]) := Lib.hid (by rw [← hW0]; exact (((Blk.new w _ _).alloc _).alloc _).alloc _)
 have HRS : Hid (Res W0 (w.heap.size + 1) zeroQ 0 0) := Lib.hid (by
  rw [← hW0]
  refine ⟨?_, ?_, ?_⟩
  ·have := Blk.new (w.alloc (.cells #[.slice ad nd cd, .slice ai ni ci, .slice an nn cn, .slice av nv cv] 26)) 32 #[.int .u32 0, .slice none 0 0, .slice none 0 0, .slice none 0 0, .int .i64 0]
   rw [World.size_alloc] at this
   exact (this.alloc _).alloc _
  ·have := Blk.new ((w.alloc (.cells #[.slice ad nd cd, .slice ai ni ci, .slice an nn cn, .slice av nv cv] 26)).alloc (.cells #[.int .u32 0, .slice none 0 0, .slice none 0 0, .slice none 0 0, .int .i64 0] 32)) 3 #[.int .i64 0]
   rw [World.size_alloc, World.size_alloc] at this
   exact this.alloc _
  ·have := Blk.new (((w.alloc (.cells #[.slice ad nd cd, .slice ai ni ci, .slice an nn cn, .slice av nv cv] 26)).alloc (.cells #[.int .u32 0, .slice none 0 0, .slice none 0 0, .slice none 0 0, .int .i64 0] 32)).alloc (.cells #[.int .i64 0] 3)) 36 #[.int .i64 0]
   rw [World.size_alloc, World.size_alloc, World.size_alloc] at this
   exact this)
 have HS := Lib.hid (h.below HB0.out (Nat.le_refl _))
 have HSO : Hid (∀ w', Below w.heap.size w w' → SchAt w' ⟨ad, nd, cd, ai, ni, ci, an, nn, cn, av, nv, cv⟩ s) := Lib.hid (fun w' hb => h.below hb (Nat.le_refl _))
 have HT := Lib.hid ht
 obtain ⟨r, hr⟩ : ∃ r, RParse w (parseR s t) = r := ⟨_, rfl⟩
 have HRN := Lib.hid hr
 rw [hr]
 clear h ht hr
 unfold SchL.val
 go_enter_defers Tryz.func10, Tryz.ntmps10
 go_upto_region 1 with fail
 clear hW0
 generalize hS : w.heap.size = S at *
 have HSW := Lib.hid hS
 clear hS
 have k0 : W0.cell? ⟨S, 0, none⟩ = some (.slice ad nd cd) := HK0.out.cell 0
 have k1 : W0.cell? ⟨S, 1, none⟩ = some (.slice ai ni ci) := HK0.out.cell 1
 have k2 : W0.cell? ⟨S, 2, none⟩ = some (.slice an nn cn) := HK0.out.cell 2
 have k3 : W0.cell? ⟨S, 3, none⟩ = some (.slice av nv cv) := HK0.out.cell 3
 obtain ⟨g, hg⟩ : ∃ g, S + 1 = g := ⟨_, rfl⟩
 rw [hg] at HRS ⊢
 have HG := Lib.hid hg
 clear hg
 go_wp2_with fail
 refine (schk_any _ ⟨ad, nd, cd, ai, ni, ci, an, nn, cn, av, nv, cv⟩ s HS.out).mono ?_
 rintro e W1 ⟨rfl, hb1⟩
 have HB1 := Lib.hid hb1
 have HRS1 := Lib.hid (HRS.out.below HB1.out (by have := HG.out; have := HSZ.out; omega))
 obtain ⟨k, hk⟩ : ∃ k, chkS s = k := ⟨_, rfl⟩
 rw [hk]
 have HK := Lib.hid hk
 clear hb1 hk k0 k1 k2 k3
 by_cases hk0 : k = 0
 case neg =>
  have t1 : ((k : Int) != 0) = true := by simp; omega
  have HP : Hid (parseR s t = .bad 0 1) := Lib.hid (by unfold parseR; rw [if_pos (by rw [HK.out]; exact hk0)])
  have g0 : W1.cell? ⟨g, 0, none⟩ = some (.int .u32 0) := HRS1.out.1.cell 0
  have g1 : W1.cell? ⟨g, 1, none⟩ = some (.slice none 0 0) := HRS1.out.1.cell 1
  have g2 : W1.cell? ⟨g, 2, none⟩ = some (.slice none 0 0) := HRS1.out.1.cell 2
  have g3 : W1.cell? ⟨g, 3, none⟩ = some (.slice none 0 0) := HRS1.out.1.cell 3
  have g4 : W1.cell? ⟨g, 4, none⟩ = some (.int .i64 0) := HRS1.out.1.cell 4
  have p0 : W1.cell? ⟨g + 1, 0, none⟩ = some (.int .i64 0) := HRS1.out.2.1.cell 0
  have e0 : W1.cell? ⟨g + 1 + 1, 0, none⟩ = some (.int .i64 0) := HRS1.out.2.2.cell 0
  have fg : ∀ o, W1.frozen? ⟨g, o, none⟩ = false := fun o => HRS1.out.1.frozen o
  have fp : ∀ o, W1.frozen? ⟨g + 1, o, none⟩ = false := fun o => HRS1.out.2.1.frozen o
  have fe : ∀ o, W1.frozen? ⟨g + 1 + 1, o, none⟩ = false := fun o => HRS1.out.2.2.frozen o
  go_wp2_with fail
  have HF := Lib.hid (HRS1.out.store (.int .u32 0) (.slice none 0 0) (.slice none 0 0) (.slice none 0 0) (.int .i64 0) 0 1)
  have HBF : Hid (Below S w (((((((W1.setCell ⟨g, 0, none⟩ (.int .u32 0)).setCell ⟨g, 1, none⟩ (.slice none 0 0)).setCell ⟨g, 2, none⟩ (.slice none 0 0)).setCell ⟨g, 3, none⟩ (.slice none 0 0)).setCell ⟨g, 4, none⟩ (.int .i64 0)).setCell ⟨g + 1, 0, none⟩ (.int .i64 0)).setCell ⟨g + 1 + 1, 0, none⟩ (.int .i64 1))) := Lib.hid (below_store (HB0.out.trans (HB1.out.mono (by have := HSZ.out; omega))) (by have := HG.out; omega) _ _ _ _ _ _ _)
  generalize (((((((W1.setCell ⟨g, 0, none⟩ (.int .u32 0)).setCell ⟨g, 1, none⟩ (.slice none 0 0)).setCell ⟨g, 2, none⟩ (.slice none 0 0)).setCell ⟨g, 3, none⟩ (.slice none 0 0)).setCell ⟨g, 4, none⟩ (.int .i64 0)).setCell ⟨g + 1, 0, none⟩ (.int .i64 0)).setCell ⟨g + 1 + 1, 0, none⟩ (.int .i64 1)) = Wf at *
  clear g0 g1 g2 g3 g4 p0 e0 fg fp fe
  have z0 : Wf.cell? ⟨g, 0, none⟩ = some (.int .u32 0) := HF.out.1.cell 0
  have z1 : Wf.cell? ⟨g, 1, none⟩ = some (.slice none 0 0) := HF.out.1.cell 1
  have z2 : Wf.cell? ⟨g, 2, none⟩ = some (.slice none 0 0) := HF.out.1.cell 2
  have z3 : Wf.cell? ⟨g, 3, none⟩ = some (.slice none 0 0) := HF.out.1.cell 3
  have z4 : Wf.cell? ⟨g, 4, none⟩ = some (.int .i64 0) := HF.out.1.cell 4
  have z5 : Wf.cell? ⟨g + 1, 0, none⟩ = some (.int .i64 0) := HF.out.2.1.cell 0
  have z6 : Wf.cell? ⟨g + 1 + 1, 0, none⟩ = some (.int .i64 1) := HF.out.2.2.cell 0
  refine ⟨.tuple #[.agg #[.int .u32 0, .slice none 0 0, .slice none 0 0, .slice none 0 0, .int .i64 0], .int .i64 0, .int .i64 1], by simp [results, Tryz.results10, go_sem, z0, z1, z2, z3, z4, z5, z6], ?_⟩
  rw [← HRN.out, HP.out]
  exact ⟨rfl, by rw [HSW.out]; exact HBF.out⟩
 case pos =>
  subst hk0
  go_wp2_with fail
  refine (ltok_any t _ HT.out).mono ?_; rintro e W2 hret
  rcases hret with ⟨L, v, hl, rfl, hown, hb2⟩ | ⟨a, er, hl, her, rfl, hb2⟩
  case inr =>
   have HB2 := Lib.hid hb2
   have HRS2 := Lib.hid (HRS1.out.below HB2.out (by have := HG.out; have := HSZ.out; have := HB1.out.size; omega))
   have HP : Hid (parseR s t = .bad a er) := Lib.hid (by unfold parseR; rw [if_neg (by rw [HK.out]; decide), hl])
   have HER := Lib.hid her
   clear hb2 hl her
   have g0 : W2.cell? ⟨g, 0, none⟩ = some (.int .u32 0) := HRS2.out.1.cell 0
   have g1 : W2.cell? ⟨g, 1, none⟩ = some (.slice none 0 0) := HRS2.out.1.cell 1
   have g2 : W2.cell? ⟨g, 2, none⟩ = some (.slice none 0 0) := HRS2.out.1.cell 2
   have g3 : W2.cell? ⟨g, 3, none⟩ = some (.slice none 0 0) := HRS2.out.1.cell 3
   have g4 : W2.cell? ⟨g, 4, none⟩ = some (.int .i64 0) := HRS2.out.1.cell 4
   have p0 : W2.cell? ⟨g + 1, 0, none⟩ = some (.int .i64 0) := HRS2.out.2.1.cell 0
   have e0 : W2.cell? ⟨g + 1 + 1, 0, none⟩ = some (.int .i64 0) := HRS2.out.2.2.cell 0
   have fg : ∀ o, W2.frozen? ⟨g, o, none⟩ = false := fun o => HRS2.out.1.frozen o
   have fp : ∀ o, W2.frozen? ⟨g + 1, o, none⟩ = false := fun o => HRS2.out.2.1.frozen o
   have fe : ∀ o, W2.frozen? ⟨g + 1 + 1, o, none⟩ = false := fun o => HRS2.out.2.2.frozen o
   go_upto_region 4 with fail
   clear g0 g1 g2 g3 g4 p0 e0 fg fp fe
   have HRS3 := Lib.hid (HRS2.out.store2 a er)
   have HB3 : Hid (Below S w ((W2.setCell ⟨g + 1, 0, none⟩ (.int .i64 a)).setCell ⟨g + 1 + 1, 0, none⟩ (.int .i64 er))) := Lib.hid (below_store2 (HB0.out.trans ((HB1.out.mono (by have := HSZ.out; omega)).trans (HB2.out.mono (by have := HB1.out.size; have := HSZ.out; omega)))) (by have := HG.out; omega) _ _)
   generalize (W2.setCell ⟨g + 1, 0, none⟩ (.int .i64 a)).setCell ⟨g + 1 + 1, 0, none⟩ (.int .i64 er) = W3 at *
   have t1 : (er != 0) = true := by rw [bne_iff_ne]; exact HER.out
   have g0 : W3.cell? ⟨g, 0, none⟩ = some (.int .u32 0) := HRS3.out.1.cell 0
   have g1 : W3.cell? ⟨g, 1, none⟩ = some (.slice none 0 0) := HRS3.out.1.cell 1
   have g2 : W3.cell? ⟨g, 2, none⟩ = some (.slice none 0 0) := HRS3.out.1.cell 2
   have g3 : W3.cell? ⟨g, 3, none⟩ = some (.slice none 0 0) := HRS3.out.1.cell 3
   have g4 : W3.cell? ⟨g, 4, none⟩ = some (.int .i64 0) := HRS3.out.1.cell 4
   have p0 : W3.cell? ⟨g + 1, 0, none⟩ = some (.int .i64 a) := HRS3.out.2.1.cell 0
   have e0 : W3.cell? ⟨g + 1 + 1, 0, none⟩ = some (.int .i64 er) := HRS3.out.2.2.cell 0
   have fg : ∀ o, W3.frozen? ⟨g, o, none⟩ = false := fun o => HRS3.out.1.frozen o
   have fp : ∀ o, W3.frozen? ⟨g + 1, o, none⟩ = false := fun o => HRS3.out.2.1.frozen o
   have fe : ∀ o, W3.frozen? ⟨g + 1 + 1, o, none⟩ = false := fun o => HRS3.out.2.2.frozen o
   go_wp2_with fail
   go_region
   go_wp2_with fail
   have HF := Lib.hid (HRS3.out.store (.int .u32 0) (.slice none 0 0) (.slice none 0 0) (.slice none 0 0) (.int .i64 0) a er)
   have HBF : Hid (Below S w (((((((W3.setCell ⟨g, 0, none⟩ (.int .u32 0)).setCell ⟨g, 1, none⟩ (.slice none 0 0)).setCell ⟨g, 2, none⟩ (.slice none 0 0)).setCell ⟨g, 3, none⟩ (.slice none 0 0)).setCell ⟨g, 4, none⟩ (.int .i64 0)).setCell ⟨g + 1, 0, none⟩ (.int .i64 a)).setCell ⟨g + 1 + 1, 0, none⟩ (.int .i64 er))) := Lib.hid (below_store HB3.out (by have := HG.out; omega) _ _ _ _ _ _ _)
   generalize (((((((W3.setCell ⟨g, 0, none⟩ (.int .u32 0)).setCell ⟨g, 1, none⟩ (.slice none 0 0)).setCell ⟨g, 2, none⟩ (.slice none 0 0)).setCell ⟨g, 3, none⟩ (.slice none 0 0)).setCell ⟨g, 4, none⟩ (.int .i64 0)).setCell ⟨g + 1, 0, none⟩ (.int .i64 a)).setCell ⟨g + 1 + 1, 0, none⟩ (.int .i64 er)) = Wf at *
   clear g0 g1 g2 g3 g4 p0 e0 fg fp fe
   have HFD : Hid (Res Wf.drew g zeroQ a er) := HF
   have z0 : Wf.drew.cell? ⟨g, 0, none⟩ = some (.int .u32 0) := HFD.out.1.cell 0
   have z1 : Wf.drew.cell? ⟨g, 1, none⟩ = some (.slice none 0 0) := HFD.out.1.cell 1
   have z2 : Wf.drew.cell? ⟨g, 2, none⟩ = some (.slice none 0 0) := HFD.out.1.cell 2
   have z3 : Wf.drew.cell? ⟨g, 3, none⟩ = some (.slice none 0 0) := HFD.out.1.cell 3
   have z4 : Wf.drew.cell? ⟨g, 4, none⟩ = some (.int .i64 0) := HFD.out.1.cell 4
   have z5 : Wf.drew.cell? ⟨g + 1, 0, none⟩ = some (.int .i64 a) := HFD.out.2.1.cell 0
   have z6 : Wf.drew.cell? ⟨g + 1 + 1, 0, none⟩ = some (.int .i64 er) := HFD.out.2.2.cell 0
   refine ⟨.tuple #[.agg #[.int .u32 0, .slice none 0 0, .slice none 0 0, .slice none 0 0, .int .i64 0], .int .i64 a, .int .i64 er], by simp [results, Tryz.results10, go_sem, z0, z1, z2, z3, z4, z5, z6], ?_⟩
   rw [← HRN.out, HP.out]
   exact ⟨rfl, by rw [HSW.out]; exact blk_d HBF.out⟩
  case inl =>
   have HB2 := Lib.hid hb2
   have HOWN := Lib.hid hown
   have HRS2 := Lib.hid (HRS1.out.below HB2.out (by have := HG.out; have := HSZ.out; have := HB1.out.size; omega))
   have HP0 : Hid (parseR s t = match queryS (dimN s) (measN s) L with
    | .error f => .bad (tokAt L f.1).a f.2
    | .ok x => if qchk s x.2.qry ≠ 0 then .bad 0 (qchk s x.2.qry) else .ok x.2) := Lib.hid (by unfold parseR; rw [if_neg (by rw [HK.out]; decide), hl])
   have HTK := Lib.hid (lex_tokok hl)
   clear hb2 hl hown
   have g0 : W2.cell? ⟨g, 0, none⟩ = some (.int .u32 0) := HRS2.out.1.cell 0
   have g1 : W2.cell? ⟨g, 1, none⟩ = some (.slice none 0 0) := HRS2.out.1.cell 1
   have g2 : W2.cell? ⟨g, 2, none⟩ = some (.slice none 0 0) := HRS2.out.1.cell 2
   have g3 : W2.cell? ⟨g, 3, none⟩ = some (.slice none 0 0) := HRS2.out.1.cell 3
   have g4 : W2.cell? ⟨g, 4, none⟩ = some (.int .i64 0) := HRS2.out.1.cell 4
   have p0 : W2.cell? ⟨g + 1, 0, none⟩ = some (.int .i64 0) := HRS2.out.2.1.cell 0
   have e0 : W2.cell? ⟨g + 1 + 1, 0, none⟩ = some (.int .i64 0) := HRS2.out.2.2.cell 0
   have fg : ∀ o, W2.frozen? ⟨g, o, none⟩ = false := fun o => HRS2.out.1.frozen o
   have fp : ∀ o, W2.frozen? ⟨g + 1, o, none⟩ = false := fun o => HRS2.out.2.1.frozen o
   have fe : ∀ o, W2.frozen? ⟨g + 1 + 1, o, none⟩ = false := fun o => HRS2.out.2.2.frozen o
   go_upto_region 4 with fail
   clear g0 g1 g2 g3 g4 p0 e0 fg fp fe
   have HRS3 := Lib.hid (HRS2.out.store2 0 0)
   have HB3 : Hid (Below S w ((W2.setCell ⟨g + 1, 0, none⟩ (.int .i64 0)).setCell ⟨g + 1 + 1, 0, none⟩ (.int .i64 0))) := Lib.hid (below_store2 (HB0.out.trans ((HB1.out.mono (by have := HSZ.out; omega)).trans (HB2.out.mono (by have := HB1.out.size; have := HSZ.out; omega)))) (by have := HG.out; omega) _ _)
   have HK3 : Hid (Blk ((W2.setCell ⟨g + 1, 0, none⟩ (.int .i64 0)).setCell ⟨g + 1 + 1, 0, none⟩ (.int .i64 0)) S 26 #[.slice ad nd cd, .slice ai ni ci, .slice an nn cn, .slice av nv cv]) := Lib.hid ((((HK0.out.below HB1.out (by have := HSZ.out; omega)).below HB2.out (by have := HB1.out.size; have := HSZ.out; omega)).far (p := ⟨g + 1, 0, none⟩) (by have := HG.out; show S ≠ g + 1; omega) _).far (p := ⟨g + 1 + 1, 0, none⟩) (by have := HG.out; show S ≠ g + 1 + 1; omega) _)
   obtain ⟨ta, tc, rfl⟩ := HOWN.out.form
   have HO3 : Hid (OwnT ((W2.setCell ⟨g + 1, 0, none⟩ (.int .i64 0)).setCell ⟨g + 1 + 1, 0, none⟩ (.int .i64 0)) 0 98 (.slice ta L.length tc) L.length L) := Lib.hid (by
    have h1 := own_set (own_set HOWN.out (R := g + 1) (by have := HG.out; have := HSZ.out; have := HB1.out.size; omega) 0 (.int .i64 0)) (R := g + 1 + 1) (by have := HG.out; have := HSZ.out; have := HB1.out.size; omega) 0 (.int .i64 0)
    exact own_base h1 (Nat.zero_le _))
   generalize (W2.setCell ⟨g + 1, 0, none⟩ (.int .i64 0)).setCell ⟨g + 1 + 1, 0, none⟩ (.int .i64 0) = W3 at *
   obtain ⟨R, hR⟩ : ∃ R, W3.heap.size = R := ⟨_, rfl⟩
   have HR := Lib.hid hR
   have HGR : Hid (g + 2 < R) := Lib.hid (by rw [← hR]; exact HRS3.out.2.2.lt)
   have HSR : Hid (S < R) := Lib.hid (by rw [← hR]; exact HK3.out.lt)
   have HOK : Hid ((⟨W3, R, ⟨ad, nd, cd, ai, ni, ci, an, nn, cn, av, nv, cv⟩, s, ta, tc, L⟩ : RC).Ok) := Lib.hid ⟨HR.out, HSO.out _ HB3.out, HK.out, HO3.out, HTK.out⟩
   have HQ0 : Hid (QR ⟨W3, R, ⟨ad, nd, cd, ai, ni, ci, an, nn, cn, av, nv, cv⟩, s, ta, tc, L⟩ 0 QP.nul (.slice none 0 0) (.slice none 0 0) (.slice none 0 0) [] (W3.alloc (.cells #[.slice ad nd cd, .slice ai ni ci, .slice an nn cn, .slice av nv cv, .slice ta L.length tc, .int .i64 0, .int .u32 0, .slice none 0 0, .slice none 0 0, .slice none 0 0, .int .i64 0] 80))) := Lib.hid (by
    have hk := Blk.new W3 80 #[.slice ad nd cd, .slice ai ni ci, .slice an nn cn, .slice av nv cv, .slice ta L.length tc, .int .i64 0, .int .u32 0, .slice none 0 0, .slice none 0 0, .slice none 0 0, .int .i64 0]
    rw [HR.out] at hk
    refine ⟨(Below.refl _ _).alloc (Nat.le_of_eq HR.out.symm) _, hk, World.ownsRow_nil _ _ _ _, World.ownsRow_nil _ _ _ _, World.ownsRow_nil _ _ _ _, (fun f hf => nomatch hf), rfl, ⟨Nat.le_refl _, Nat.le_refl _, Nat.le_refl _⟩, ⟨Int.le_refl 0, ?_⟩, (fun f hf => nomatch hf), (fun f hf => nomatch hf), i64_small (x := 0) (by decide) (by decide), (fun f hf => nomatch hf)⟩
    show (0 : Int) < 2 ^ s.dims.length
    have := Nat.two_pow_pos s.dims.length
    have e : ((2 ^ s.dims.length : Nat) : Int) = 2 ^ s.dims.length := by rw [Int.natCast_pow]; rfl
    omega)
   have HQY := Lib.hid (pquery_any ⟨W3, R, ⟨ad, nd, cd, ai, ni, ci, an, nn, cn, av, nv, cv⟩, s, ta, tc, L⟩ HOK.out _ ⟨_, _, _, _, HQ0.out⟩)
   have k0 : W3.cell? ⟨S, 0, none⟩ = some (.slice ad nd cd) := HK3.out.cell 0
   have k1 : W3.cell? ⟨S, 1, none⟩ = some (.slice ai ni ci) := HK3.out.cell 1
   have k2 : W3.cell? ⟨S, 2, none⟩ = some (.slice an nn cn) := HK3.out.cell 2
   have k3 : W3.cell? ⟨S, 3, none⟩ = some (.slice av nv cv) := HK3.out.cell 3
   clear hR
   have g0 : W3.cell? ⟨g, 0, none⟩ = some (.int .u32 0) := HRS3.out.1.cell 0
   have g1 : W3.cell? ⟨g, 1, none⟩ = some (.slice none 0 0) := HRS3.out.1.cell 1
   have g2 : W3.cell? ⟨g, 2, none⟩ = some (.slice none 0 0) := HRS3.out.1.cell 2
   have g3 : W3.cell? ⟨g, 3, none⟩ = some (.slice none 0 0) := HRS3.out.1.cell 3
   have g4 : W3.cell? ⟨g, 4, none⟩ = some (.int .i64 0) := HRS3.out.1.cell 4
   have p0 : W3.cell? ⟨g + 1, 0, none⟩ = some (.int .i64 0) := HRS3.out.2.1.cell 0
   have e0 : W3.cell? ⟨g + 1 + 1, 0, none⟩ = some (.int .i64 0) := HRS3.out.2.2.cell 0
   have fg : ∀ o, W3.frozen? ⟨g, o, none⟩ = false := fun o => HRS3.out.1.frozen o
   have fp : ∀ o, W3.frozen? ⟨g + 1, o, none⟩ = false := fun o => HRS3.out.2.1.frozen o
   have fe : ∀ o, W3.frozen? ⟨g + 1 + 1, o, none⟩ = false := fun o => HRS3.out.2.2.frozen o
   dsimp only at HQY
   go_wp2_with fail
   clear g0 g1 g2 g3 g4 p0 e0 fg fp fe
   clear k0 k1 k2 k3
   rw [HR.out]
   rcases hq : queryS (dimN s) (measN s) L with f | ⟨i, q⟩
   ·rw [hq] at HQY
    have HP : Hid (parseR s t = .bad (tokAt L f.1).a f.2) := Lib.hid (by rw [HP0.out, hq])
    clear hq
    refine HQY.out.mono ?_; rintro e W4 ⟨rfl, hb4⟩
    have HB4 : Hid (Below R W3 W4) := Lib.hid hb4
    have HRS4 := Lib.hid (HRS3.out.below HB4.out HGR.out)
    clear hb4 HQY
    go_wp2_with fail
    refine leaves_cons (f := 26) (args := #[.pointer (some ⟨g, 0, none⟩), .pointer (some ⟨g + 1, 0, none⟩), .pointer (some ⟨g + 1 + 1, 0, none⟩)]) (by simp) (by simp [go_sem]) ?_
    refine (catch_fault g (tokAt L f.1).a f.2 0 0 _ HRS4.out).mono ?_
    rintro e u' Wf ⟨rfl, rfl, hres, hbf⟩
    have HF := Lib.hid hres
    have HBF := Lib.hid hbf
    clear hres hbf
    show Leaves _ _ _ _ [] .returning Wf
    have z0 : Wf.cell? ⟨g, 0, none⟩ = some (.int .u32 0) := HF.out.1.cell 0
    have z1 : Wf.cell? ⟨g, 1, none⟩ = some (.slice none 0 0) := HF.out.1.cell 1
    have z2 : Wf.cell? ⟨g, 2, none⟩ = some (.slice none 0 0) := HF.out.1.cell 2
    have z3 : Wf.cell? ⟨g, 3, none⟩ = some (.slice none 0 0) := HF.out.1.cell 3
    have z4 : Wf.cell? ⟨g, 4, none⟩ = some (.int .i64 0) := HF.out.1.cell 4
    have z5 : Wf.cell? ⟨g + 1, 0, none⟩ = some (.int .i64 (tokAt L f.1).a) := HF.out.2.1.cell 0
    have z6 : Wf.cell? ⟨g + 1 + 1, 0, none⟩ = some (.int .i64 f.2) := HF.out.2.2.cell 0
    refine ⟨.tuple #[.agg #[.int .u32 0, .slice none 0 0, .slice none 0 0, .slice none 0 0, .int .i64 0], .int .i64 (tokAt L f.1).a, .int .i64 f.2], by simp [results, Tryz.results10, go_sem, z0, z1, z2, z3, z4, z5, z6], ?_⟩
    rw [← HRN.out, HP.out]
    exact ⟨rfl, by rw [HSW.out]; exact HB3.out.trans ((HB4.out.mono (by have := HSR.out; omega)).trans (HBF.out.mono (by have := HG.out; omega)))⟩
   ·rw [hq] at HQY
    have HP1 : Hid (parseR s t = if qchk s q.qry ≠ 0 then .bad 0 (qchk s q.qry) else .ok q) := Lib.hid (by rw [HP0.out, hq])
    clear hq
    refine HQY.out.mono ?_; rintro e W4 ⟨rfl, vf, vc, vo, fl, hqr⟩
    have HQR := Lib.hid hqr
    have HB4 : Hid (Below R W3 W4) := Lib.hid hqr.bl
    have HRS4 := Lib.hid (HRS3.out.below HB4.out HGR.out)
    have HK4 := Lib.hid (HK3.out.below HB4.out HSR.out)
    obtain ⟨fa, fc, rfl⟩ := own_form hqr.rf
    obtain ⟨ca, cc, rfl⟩ := own_form hqr.rc
    obtain ⟨oa, oc, rfl⟩ := own_form hqr.ro
    have hrd : Blk W4 R 80 #[.slice ad nd cd, .slice ai ni ci, .slice an nn cn, .slice av nv cv, .slice ta L.length tc, .int .i64 (i : Int), .int .u32 q.group, .slice fa fl.length fc, .slice ca q.cols.length cc, .slice oa q.ord.length oc, .int .i64 q.limit] := hqr.rd
    have HQA : Hid (∀ w', Below W4.heap.size W4 w' → QryAt w' ⟨fa, fl.length, fc, ca, q.cols.length, cc, oa, q.ord.length, oc⟩ (q.at' fl)) := Lib.hid (fun w' hb => (qry_qo hqr (chk_dims HK.out).1 hqr.qo).below hb (Nat.le_refl _))
    have HFS := Lib.hid hqr.fs
    have HCK := Lib.hid (qchk_at s q hqr.fs)
    have k0 : W4.cell? ⟨S, 0, none⟩ = some (.slice ad nd cd) := HK4.out.cell 0
    have k1 : W4.cell? ⟨S, 1, none⟩ = some (.slice ai ni ci) := HK4.out.cell 1
    have k2 : W4.cell? ⟨S, 2, none⟩ = some (.slice an nn cn) := HK4.out.cell 2
    have k3 : W4.cell? ⟨S, 3, none⟩ = some (.slice av nv cv) := HK4.out.cell 3
    have q6 : W4.cell? ⟨R, 6, none⟩ = some (.int .u32 q.group) := hrd.cell 6
    have q7 : W4.cell? ⟨R, 7, none⟩ = some (.slice fa fl.length fc) := hrd.cell 7
    have q8 : W4.cell? ⟨R, 8, none⟩ = some (.slice ca q.cols.length cc) := hrd.cell 8
    have q9 : W4.cell? ⟨R, 9, none⟩ = some (.slice oa q.ord.length oc) := hrd.cell 9
    have q10 : W4.cell? ⟨R, 10, none⟩ = some (.int .i64 q.limit) := hrd.cell 10
    have HRD := Lib.hid hrd
    clear hqr hrd HQY
    go_upto_region 9 with fail
    go_still_tail 5, (by kernel_rfl)
    change wpList _ _ _ _ _ W4.drew
    clear k0 k1 k2 k3 q6 q7 q8 q9 q10
    have HB5 := Lib.hid (HB4.out.drew)
    have HQC := Lib.hid (qchk_any W4.drew ⟨ad, nd, cd, ai, ni, ci, an, nn, cn, av, nv, cv⟩ s ⟨fa, fl.length, fc, ca, q.cols.length, cc, oa, q.ord.length, oc⟩ (q.at' fl) (HSO.out _ (HB3.out.trans (HB5.out.mono (by have := HSR.out; omega)))) (HQA.out _ (Below.refl _ _).drew))
    rw [HCK.out] at HQC
    unfold SchL.val QryL.val at HQC
    dsimp only [QP.at'] at HQC
    go_wp2_with fail
    refine HQC.out.mono ?_; rintro e W6 ⟨rfl, hb6⟩
    have HB6 : Hid (Below W4.heap.size W4 W6) := Lib.hid (((Below.refl _ _).drew).trans hb6)
    have HRS6 := Lib.hid (HRS4.out.below HB6.out (by have := HRD.out.lt; have := HGR.out; omega))
    have HRD6 := Lib.hid (HRD.out.below HB6.out HRD.out.lt)
    have HBW : Hid (Below S w W6) := Lib.hid (HB3.out.trans ((HB4.out.mono (by have := HSR.out; omega)).trans (HB6.out.mono (by have := HSR.out; have := HRD.out.lt; omega))))
    obtain ⟨k, hk⟩ : ∃ k, qchk s q.qry = k := ⟨_, rfl⟩
    rw [hk] at HP1 ⊢
    clear hb6 HQC hk
    have g0 : W6.cell? ⟨g, 0, none⟩ = some (.int .u32 0) := HRS6.out.1.cell 0
    have g1 : W6.cell? ⟨g, 1, none⟩ = some (.slice none 0 0) := HRS6.out.1.cell 1
    have g2 : W6.cell? ⟨g, 2, none⟩ = some (.slice none 0 0) := HRS6.out.1.cell 2
    have g3 : W6.cell? ⟨g, 3, none⟩ = some (.slice none 0 0) := HRS6.out.1.cell 3
    have g4 : W6.cell? ⟨g, 4, none⟩ = some (.int .i64 0) := HRS6.out.1.cell 4
    have p0 : W6.cell? ⟨g + 1, 0, none⟩ = some (.int .i64 0) := HRS6.out.2.1.cell 0
    have e0 : W6.cell? ⟨g + 1 + 1, 0, none⟩ = some (.int .i64 0) := HRS6.out.2.2.cell 0
    have fg : ∀ o, W6.frozen? ⟨g, o, none⟩ = false := fun o => HRS6.out.1.frozen o
    have fp : ∀ o, W6.frozen? ⟨g + 1, o, none⟩ = false := fun o => HRS6.out.2.1.frozen o
    have fe : ∀ o, W6.frozen? ⟨g + 1 + 1, o, none⟩ = false := fun o => HRS6.out.2.2.frozen o
    by_cases hk0 : k = 0
    ·subst hk0
     have HP : Hid (parseR s t = .ok q) := Lib.hid (by rw [HP1.out, if_neg (by decide)])
     have q6 : W6.cell? ⟨R, 6, none⟩ = some (.int .u32 q.group) := HRD6.out.cell 6
     have q7 : W6.cell? ⟨R, 7, none⟩ = some (.slice fa fl.length fc) := HRD6.out.cell 7
     have q8 : W6.cell? ⟨R, 8, none⟩ = some (.slice ca q.cols.length cc) := HRD6.out.cell 8
     have q9 : W6.cell? ⟨R, 9, none⟩ = some (.slice oa q.ord.length oc) := HRD6.out.cell 9
     have q10 : W6.cell? ⟨R, 10, none⟩ = some (.int .i64 q.limit) := HRD6.out.cell 10
     go_wp2_with fail
     have HF := Lib.hid (HRS6.out.store (.int .u32 q.group) (.slice fa fl.length fc) (.slice ca q.cols.length cc) (.slice oa q.ord.length oc) (.int .i64 q.limit) 0 0)
     have HBF : Hid (Below S w (((((((W6.setCell ⟨g, 0, none⟩ (.int .u32 q.group)).setCell ⟨g, 1, none⟩ (.slice fa fl.length fc)).setCell ⟨g, 2, none⟩ (.slice ca q.cols.length cc)).setCell ⟨g, 3, none⟩ (.slice oa q.ord.length oc)).setCell ⟨g, 4, none⟩ (.int .i64 q.limit)).setCell ⟨g + 1, 0, none⟩ (.int .i64 0)).setCell ⟨g + 1 + 1, 0, none⟩ (.int .i64 0))) := Lib.hid (below_store HBW.out (by have := HG.out; omega) _ _ _ _ _ _ _)
     have HQF : Hid (QryAt (((((((W6.setCell ⟨g, 0, none⟩ (.int .u32 q.group)).setCell ⟨g, 1, none⟩ (.slice fa fl.length fc)).setCell ⟨g, 2, none⟩ (.slice ca q.cols.length cc)).setCell ⟨g, 3, none⟩ (.slice oa q.ord.length oc)).setCell ⟨g, 4, none⟩ (.int .i64 q.limit)).setCell ⟨g + 1, 0, none⟩ (.int .i64 0)).setCell ⟨g + 1 + 1, 0, none⟩ (.int .i64 0)) ⟨fa, fl.length, fc, ca, q.cols.length, cc, oa, q.ord.length, oc⟩ (q.at' fl)) := Lib.hid (by
      have h0 := HQR.out.qo.below HB6.out (Nat.le_refl _)
      have hg0 : g < R + 1 := by have := HGR.out; omega
      have hg1 : g + 1 < R + 1 := by have := HGR.out; omega
      have hg2 : g + 1 + 1 < R + 1 := by have := HGR.out; omega
      exact qry_qo HQR.out (chk_dims HK.out).1 (((((((h0.set hg0 0 _).set hg0 1 _).set hg0 2 _).set hg0 3 _).set hg0 4 _).set hg1 0 _).set hg2 0 _))
     generalize (((((((W6.setCell ⟨g, 0, none⟩ (.int .u32 q.group)).setCell ⟨g, 1, none⟩ (.slice fa fl.length fc)).setCell ⟨g, 2, none⟩ (.slice ca q.cols.length cc)).setCell ⟨g, 3, none⟩ (.slice oa q.ord.length oc)).setCell ⟨g, 4, none⟩ (.int .i64 q.limit)).setCell ⟨g + 1, 0, none⟩ (.int .i64 0)).setCell ⟨g + 1 + 1, 0, none⟩ (.int .i64 0)) = W7 at *
     clear q6 q7 q8 q9 q10
     clear g0 g1 g2 g3 g4 p0 e0 fg fp fe
     refine leaves_cons (f := 26) (args := #[.pointer (some ⟨g, 0, none⟩), .pointer (some ⟨g + 1, 0, none⟩), .pointer (some ⟨g + 1 + 1, 0, none⟩)]) (by simp) (by simp [go_sem]) ?_
     refine (catch_none g _).mono ?_
     rintro e u' Wf ⟨rfl, rfl, hbf⟩
     have HFF := Lib.hid (HF.out.below hbf HF.out.2.2.lt)
     have HBF2 := Lib.hid hbf
     have HSL : Hid (S ≤ W7.heap.size) := Lib.hid (by have := HF.out.1.lt; have := HG.out; omega)
     clear hbf
     show Leaves _ _ _ _ [] .returning Wf
     have z0 : Wf.cell? ⟨g, 0, none⟩ = some (.int .u32 q.group) := HFF.out.1.cell 0
     have z1 : Wf.cell? ⟨g, 1, none⟩ = some (.slice fa fl.length fc) := HFF.out.1.cell 1
     have z2 : Wf.cell? ⟨g, 2, none⟩ = some (.slice ca q.cols.length cc) := HFF.out.1.cell 2
     have z3 : Wf.cell? ⟨g, 3, none⟩ = some (.slice oa q.ord.length oc) := HFF.out.1.cell 3
     have z4 : Wf.cell? ⟨g, 4, none⟩ = some (.int .i64 q.limit) := HFF.out.1.cell 4
     have z5 : Wf.cell? ⟨g + 1, 0, none⟩ = some (.int .i64 0) := HFF.out.2.1.cell 0
     have z6 : Wf.cell? ⟨g + 1 + 1, 0, none⟩ = some (.int .i64 0) := HFF.out.2.2.cell 0
     refine ⟨.tuple #[.agg #[.int .u32 q.group, .slice fa fl.length fc, .slice ca q.cols.length cc, .slice oa q.ord.length oc, .int .i64 q.limit], .int .i64 0, .int .i64 0], by simp [results, Tryz.results10, go_sem, z0, z1, z2, z3, z4, z5, z6], ?_⟩
     rw [← HRN.out, HP.out]
     exact ⟨⟨fa, fl.length, fc, ca, q.cols.length, cc, oa, q.ord.length, oc⟩, fl, rfl, HQF.out.below HBF2.out (Nat.le_refl _), HFS.out, by rw [HSW.out]; exact HBF.out.trans (HBF2.out.mono HSL.out)⟩
    ·have t1 : ((k : Int) != 0) = true := by simp; omega
     have HP : Hid (parseR s t = .bad 0 k) := Lib.hid (by rw [HP1.out, if_pos hk0])
     go_wp2_with fail
     have HF := Lib.hid (HRS6.out.store (.int .u32 0) (.slice none 0 0) (.slice none 0 0) (.slice none 0 0) (.int .i64 0) 0 (k : Int))
     have HBF : Hid (Below S w (((((((W6.setCell ⟨g, 0, none⟩ (.int .u32 0)).setCell ⟨g, 1, none⟩ (.slice none 0 0)).setCell ⟨g, 2, none⟩ (.slice none 0 0)).setCell ⟨g, 3, none⟩ (.slice none 0 0)).setCell ⟨g, 4, none⟩ (.int .i64 0)).setCell ⟨g + 1, 0, none⟩ (.int .i64 0)).setCell ⟨g + 1 + 1, 0, none⟩ (.int .i64 (k : Int)))) := Lib.hid (below_store HBW.out (by have := HG.out; omega) _ _ _ _ _ _ _)
     generalize (((((((W6.setCell ⟨g, 0, none⟩ (.int .u32 0)).setCell ⟨g, 1, none⟩ (.slice none 0 0)).setCell ⟨g, 2, none⟩ (.slice none 0 0)).setCell ⟨g, 3, none⟩ (.slice none 0 0)).setCell ⟨g, 4, none⟩ (.int .i64 0)).setCell ⟨g + 1, 0, none⟩ (.int .i64 0)).setCell ⟨g + 1 + 1, 0, none⟩ (.int .i64 (k : Int))) = W7 at *
     clear g0 g1 g2 g3 g4 p0 e0 fg fp fe
     refine leaves_cons (f := 26) (args := #[.pointer (some ⟨g, 0, none⟩), .pointer (some ⟨g + 1, 0, none⟩), .pointer (some ⟨g + 1 + 1, 0, none⟩)]) (by simp) (by simp [go_sem]) ?_
     refine (catch_none g _).mono ?_
     rintro e u' Wf ⟨rfl, rfl, hbf⟩
     have HFF := Lib.hid (HF.out.below hbf HF.out.2.2.lt)
     have HBF2 := Lib.hid hbf
     have HSL : Hid (S ≤ W7.heap.size) := Lib.hid (by have := HF.out.1.lt; have := HG.out; omega)
     clear hbf
     show Leaves _ _ _ _ [] .returning Wf
     have z0 : Wf.cell? ⟨g, 0, none⟩ = some (.int .u32 0) := HFF.out.1.cell 0
     have z1 : Wf.cell? ⟨g, 1, none⟩ = some (.slice none 0 0) := HFF.out.1.cell 1
     have z2 : Wf.cell? ⟨g, 2, none⟩ = some (.slice none 0 0) := HFF.out.1.cell 2
     have z3 : Wf.cell? ⟨g, 3, none⟩ = some (.slice none 0 0) := HFF.out.1.cell 3
     have z4 : Wf.cell? ⟨g, 4, none⟩ = some (.int .i64 0) := HFF.out.1.cell 4
     have z5 : Wf.cell? ⟨g + 1, 0, none⟩ = some (.int .i64 0) := HFF.out.2.1.cell 0
     have z6 : Wf.cell? ⟨g + 1 + 1, 0, none⟩ = some (.int .i64 (k : Int)) := HFF.out.2.2.cell 0
     refine ⟨.tuple #[.agg #[.int .u32 0, .slice none 0 0, .slice none 0 0, .slice none 0 0, .int .i64 0], .int .i64 0, .int .i64 (k : Int)], by simp [results, Tryz.results10, go_sem, z0, z1, z2, z3, z4, z5, z6], ?_⟩
     rw [← HRN.out, HP.out]
     exact ⟨rfl, by rw [HSW.out]; exact HBF.out.trans (HBF2.out.mono HSL.out)⟩
end Go.Proofs.YtaofjnidniekjaaGreatDoor
