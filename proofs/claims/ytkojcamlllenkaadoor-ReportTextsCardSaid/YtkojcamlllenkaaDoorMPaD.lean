/- What the tokens of a text are like (plain): their kinds, numbers, sizes and places. No conditions but those stated. -/
import Derived.Test.YtkojcamlllenkaaDoorMPaB
import Derived.Test.YtkojcamlllenkaaDoorMLxA
import Derived.Test.YtkojcamlllenkaaDoorMPaC
import Derived.Test.YtkojcamlllenkaaDoorLexF
namespace Go.Proofs.YtkojcamlllenkaaDoor
open Go.RowKit

end Go.Proofs.YtkojcamlllenkaaDoor
/- The contract of package parse's Parse: it answers as the plain definition says. Conditions: those stated. -/
namespace Go.Proofs.YtkojcamlllenkaaDoor
open Go.RowKit

/-- a query, without places -/
def QP.qry (q : QP) : Qry := ⟨q.group, q.flts.map (fun f => ⟨f.1, f.2, none, 0, 0⟩), q.cols, q.ord, q.limit⟩
def QP.at' (q : QP) (fl : List Flt) : Qry := ⟨q.group, fl, q.cols, q.ord, q.limit⟩
theorem fltsN_same (ds : List (ByteArray × Int)) {a b : List Flt} (h : a.map (fun f => (f.dim, f.codes)) = b.map (fun f => (f.dim, f.codes))) : ∀ g i, fltsN ds a g i = fltsN ds b g i
 | 0, _ => rfl
 | g + 1, i => by
  have e : ((fltAt a i).dim, (fltAt a i).codes) = ((fltAt b i).dim, (fltAt b i).codes) := by
   have h1 : (a.map (fun f => (f.dim, f.codes)))[i]? = (b.map (fun f => (f.dim, f.codes)))[i]? := by rw [h]
   rw [List.getElem?_map, List.getElem?_map] at h1
   unfold fltAt
   rw [List.getD_eq_getElem?_getD, List.getD_eq_getElem?_getD]
   cases ha : a[i]? with
   | none => cases hb : b[i]? with
    | none => rfl
    | some y => rw [ha, hb] at h1; cases h1
   | some x => cases hb : b[i]? with
    | none => rw [ha, hb] at h1; cases h1
    | some y => rw [ha, hb] at h1; simpa using h1
  injection e with e1 e2
  rw [fltsN_succ, fltsN_succ, e1, e2, fltsN_same ds h g (i + 1)]
theorem fchk_same (s : Sch) {a b : List Flt} (h : a.map (fun f => (f.dim, f.codes)) = b.map (fun f => (f.dim, f.codes))) : fchk s a = fchk s b := by
 have hl : a.length = b.length := by have := congrArg List.length h; simpa using this
 unfold fchk
 rw [fltsN_same s.dims h, hl]
theorem qchk_at (s : Sch) (q : QP) {fl : List Flt} (h : fl.map (fun f => (f.dim, f.codes)) = q.flts) : qchk s (q.at' fl) = qchk s q.qry := by
 have e : fl.map (fun f => (f.dim, f.codes)) = q.qry.flts.map (fun f => (f.dim, f.codes)) := by
  rw [h]
  show _ = (q.flts.map (fun f => (⟨f.1, f.2, none, 0, 0⟩ : Flt))).map (fun f => (f.dim, f.codes))
  rw [List.map_map]
  exact (List.map_id _).symm
 unfold qchk
 rw [show (q.at' fl).flts = fl from rfl, fchk_same s e]
 rfl

end Go.Proofs.YtkojcamlllenkaaDoor
