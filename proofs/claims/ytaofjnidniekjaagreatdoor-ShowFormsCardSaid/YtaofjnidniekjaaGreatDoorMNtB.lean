/- Contract of package nat's Text. Conditions: the words are below 2^32; at most 40000 of them. -/
import Derived.Test.YtaofjnidniekjaaGreatDoorMNatB
import Derived.Laws.BytesArg
import Derived.BigRegion
import Derived.Lib.Strings
namespace Go.Proofs.YtaofjnidniekjaaGreatDoor
open Go.RowKit

/-- digits as bytes -/
def chars (ds : List Int) : List Int := ds.map (48 + ·)
theorem chars_len (ds : List Int) : (chars ds).length = ds.length := by simp [chars]
/-- s is X in decimal digits -/
def IsText (X : Int) (s : ByteArray) : Prop := ∃ ds, Dig 10 ds ∧ Trimmed ds ∧ V 10 ds = X ∧ s = (if ds = [] then ⟨#[48]⟩ else strOfNums (chars ds).reverse)
theorem IsText.one {X : Int} {s t : ByteArray} (h : IsText X s) (k : IsText X t) : s = t := by
 obtain ⟨a, a1, a2, a3, rfl⟩ := h
 obtain ⟨b, b1, b2, b3, rfl⟩ := k
 rw [V_inj (B := 10) (by decide) a1 b1 a2 b2 (a3.trans b3.symm)]

end Go.Proofs.YtaofjnidniekjaaGreatDoor
/- Contract of package nat's Read. No conditions. -/
namespace Go.Proofs.YtaofjnidniekjaaGreatDoor
open Go.RowKit

/-- the j-th byte of a text, as a number -/
def sb (s : ByteArray) (j : Nat) : Int := ((s.data.toList.getD j 0).toNat : Int)
theorem sb_at {s : ByteArray} {j : Nat} (h : j < s.size) : sb s j = ((s[j]'h).toNat : Int) := by
 unfold sb
 have h2 : j < s.data.toList.length := by simpa using h
 rw [List.getD_eq_getElem?_getD, List.getElem?_eq_getElem h2]
 rfl
theorem isEmpty_of {s : ByteArray} : s.toList.isEmpty = decide (s.size = 0) := by
 have e : s.size = s.data.toList.length := by rw [Array.length_toList]; rfl
 rw [Lib.toList_data, e]
 cases s.data.toList <;> simp
end Go.Proofs.YtaofjnidniekjaaGreatDoor
