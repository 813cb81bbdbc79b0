/- Filters and queries that are alike are told so: the contracts of package bushelref28's Same and of package bushelref29's Same, of equal contents. No conditions but those stated. -/
import Derived.Test.YtaofjnidniekjaaGreatDoorMPr1
import Derived.Test.YtaofjnidniekjaaGreatDoorMPaD
namespace Go.Proofs.YtaofjnidniekjaaGreatDoor
open Go.RowKit

end Go.Proofs.YtaofjnidniekjaaGreatDoor
/- The chapter's example of parse: bushellaw36.awake. No conditions. -/
namespace Go.Proofs.YtaofjnidniekjaaGreatDoor
open Go.RowKit

/-- the example's schema and text -/
def exP : Sch := ⟨[(⟨#[97]⟩, 4), (⟨#[98]⟩, 4)], [⟨#[109]⟩], [], []⟩
theorem one_nameP {b : UInt8} (h : 97 ≤ b.toNat ∧ b.toNat ≤ 122) (hw : wordB ⟨#[b]⟩ = false) : nameB ⟨#[b]⟩ = true := by
 refine nameB_yes ⟨(show 1 ≤ 1 from Nat.le_refl _), (show 1 ≤ 16 by decide), fun _ => h, fun i hi => ?_, hw⟩
 have h0 : i < 1 := hi
 obtain rfl : i = 0 := by omega
 exact .inl h
theorem exP_ok : chkS exP = 0 := by
 refine chk_ok rfl ?_ ?_ (by decide) (by decide)
 ·show (if nameB ⟨#[97]⟩ = false then false else if nameB ⟨#[98]⟩ = false then false else if nameB ⟨#[109]⟩ = false then false else true) = true
  rw [one_nameP (by decide) (by decide), one_nameP (by decide) (by decide), one_nameP (by decide) (by decide)]
  rfl
 ·have h : TwiceIs exP.names (-1) := by
   refine .inl ⟨rfl, fun j hj => ?_⟩
   have hj2 : j < 3 := hj
   match j, hj2 with
   | 0, _ => exact fun h => by cases h
   | 1, _ => exact fun h => absurd (List.mem_singleton.1 h) (by decide)
   | 2, _ => exact fun h => (List.mem_cons.1 h).elim (fun h => absurd h (by decide)) (fun h => absurd (List.mem_singleton.1 h) (by decide))
  rw [(twR_is _).one h]
  decide
def exPL (s : Nat) : SchL := ⟨some ⟨s, 0, none⟩, 2, 2, some ⟨s + 1, 0, none⟩, 1, 1, none, 0, 0, none, 0, 0⟩
theorem exP_at {w : World} {s : Nat} (h1 : Blk w s 53 #[.string ⟨#[97]⟩, .int .i64 4, .string ⟨#[98]⟩, .int .i64 4]) (h2 : Blk w (s + 1) 9 #[.string ⟨#[109]⟩]) : SchAt w (exPL s) exP := by
 refine ⟨⟨rfl, Nat.le_refl _, by show 2 ≤ maxLen; unfold maxLen; omega, .inr ⟨s, 0, rfl, h1.lt, fun i hi => ?_⟩⟩, rfl, ⟨rfl, Nat.le_refl _, by show 1 ≤ maxLen; unfold maxLen; omega, .inr ⟨s + 1, 0, rfl, h2.lt, fun i hi => ?_⟩⟩,
  ⟨rfl, Nat.le_refl _, Nat.zero_le _, .inl rfl⟩, ⟨rfl, Nat.le_refl _, Nat.zero_le _, .inl rfl⟩, fun d hd => ?_, fun x hx => ?_, (fun x hx => by cases hx), (fun x hx => by cases hx)⟩
 ·have : i = 0 ∨ i = 1 ∨ i = 2 ∨ i = 3 := by simp only [exPL] at hi; omega
  rw [Nat.zero_add, h1.cell]
  rcases this with rfl | rfl | rfl | rfl <;> rfl
 ·obtain rfl : i = 0 := by simp only [exPL] at hi; omega
  exact h2.cell 0
 ·have : d = (⟨#[97]⟩, 4) ∨ d = (⟨#[98]⟩, 4) := by simpa [exP] using hd
  rcases this with rfl | rfl <;> exact ⟨by show 1 ≤ maxLen; unfold maxLen; omega, by decide, by decide⟩
 ·simp only [exP, List.mem_singleton] at hx
  subst hx
  show 1 ≤ maxLen; unfold maxLen; omega

end Go.Proofs.YtaofjnidniekjaaGreatDoor
