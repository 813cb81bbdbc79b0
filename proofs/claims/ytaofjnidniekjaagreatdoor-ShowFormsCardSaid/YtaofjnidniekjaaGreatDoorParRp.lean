/- The laws of parse: ParseReads, ParseMay: the walks. Conditions: those stated. -/
import Derived.Test.YtaofjnidniekjaaGreatDoorMPr2
import Derived.Test.YtaofjnidniekjaaGreatDoorParRk
import Derived.Test.YtaofjnidniekjaaGreatDoorMRs1
import Derived.Test.YtaofjnidniekjaaGreatDoorMOpn
namespace Go.Proofs.YtaofjnidniekjaaGreatDoor
open Go.RowKit

theorem rparse_any (w : World) (l : SchL) (s : Sch) (h : SchAt w l s) (t : ByteArray) (ht : t.size ≤ maxLen) :
  Calls Tryz.prog 29 #[l.val, .string t] w (RParse w (parseR s t)) :=
 vparse_any w l s h t ht (fun w' m q hs hq => rqchk_any w' l s m q hs hq)
def ErrR (r : LexR) : Prop := match r with
 | .ok _ => True
 | .bad _ e => e ≠ 0
theorem lx_err (s : ByteArray) : ∀ (f a : Nat) (out : List Tok), ErrR (lx s f a out)
 | 0, a, out => by rw [lx]; trivial
 | f + 1, a, out => by
  rw [lx]
  split
  ·split
   ·exact lx_err s f _ _
   ·split
    ·split
     ·exact (by decide : (3 : Int) ≠ 0)
     ·exact lx_err s f _ _
    ·split
     ·split
      ·rename_i h; exact h
      ·split
       ·exact (by decide : (3 : Int) ≠ 0)
       ·exact lx_err s f _ _
     ·exact (by decide : (6 : Int) ≠ 0)
  ·trivial
theorem lexAll_err (s : ByteArray) : ErrR (lexAll s) := by
 unfold lexAll
 split
 ·exact (by decide : (4 : Int) ≠ 0)
 ·exact lx_err s _ _ _
theorem tokAt_in {s : ByteArray} {L : List Tok} (h : InR s (.ok L)) (i : Nat) : 0 ≤ (tokAt L i).a ∧ (tokAt L i).a ≤ (s.size : Int) := by
 unfold tokAt
 rw [List.getD_eq_getElem?_getD]
 cases hx : L[i]? with
 | none => exact ⟨Int.le_refl 0, Int.natCast_nonneg _⟩
 | some x => exact h x (List.mem_of_getElem? hx)
/-- what a reading may be -/
def MayR (s : Sch) (t : ByteArray) (r : PR) : Prop := match r with
 | .bad a er => er ≠ 0 ∧ 0 ≤ a ∧ a ≤ (t.size : Int)
 | .ok q => qchk s q.qry = 0
theorem parse_may (s : Sch) (t : ByteArray) : MayR s t (parseR s t) := by
 unfold parseR
 split
 ·exact ⟨by decide, Int.le_refl 0, Int.natCast_nonneg _⟩
 have h1 := lexAll_err t
 have h2 := lexAll_in t
 cases hl : lexAll t with
 | bad a er => rw [hl] at h1 h2; exact ⟨h1, h2⟩
 | ok L =>
  rw [hl] at h2
  dsimp only
  have h3 := query_says (dimN s) (measN s) L
  cases hq : queryS (dimN s) (measN s) L with
  | error f =>
   rw [hq] at h3
   exact ⟨by have := h3.2.2; show ((f.2 : Nat) : Int) ≠ 0; omega, tokAt_in h2 _⟩
  | ok x =>
   dsimp only
   split
   ·rename_i h
    exact ⟨by show ((qchk s x.2.qry : Nat) : Int) ≠ 0; omega, Int.le_refl 0, Int.natCast_nonneg _⟩
   ·rename_i h
    show qchk s x.2.qry = 0
    omega

end Go.Proofs.YtaofjnidniekjaaGreatDoor
