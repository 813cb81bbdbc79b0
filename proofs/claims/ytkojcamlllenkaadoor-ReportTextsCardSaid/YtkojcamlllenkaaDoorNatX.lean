/- The walk of the law NatTexts. No conditions. -/
import Derived.Test.YtkojcamlllenkaaDoorNatT
import Derived.Test.YtkojcamlllenkaaDoorRef02d
import Derived.Test.YtkojcamlllenkaaDoorRef02e
namespace Go.Proofs.YtkojcamlllenkaaDoor
open Go.RowKit

theorem sb_str {l : List Int} (h : ∀ c ∈ l, 0 ≤ c ∧ c < 256) (j : Nat) : sb (strOfNums l) j = l.getD j 0 := by
 unfold sb
 rw [strOfNums_data, List.getD_eq_getElem?_getD, List.getD_eq_getElem?_getD, List.getElem?_map]
 rcases Nat.lt_or_ge j l.length with h1 | h1
 ·have h2 := h _ (List.getElem_mem h1)
  rw [List.getElem?_eq_getElem h1]
  simp
  omega
 ·rw [List.getElem?_eq_none h1]
  rfl
theorem tv_congr {s t : ByteArray} : ∀ (n : Nat), (∀ j, j < n → sb s j = sb t j) → tv s n = tv t n
 | 0, _ => rfl
 | n + 1, h => by
  show tv s n * 10 + (sb s n - 48) = tv t n * 10 + (sb t n - 48)
  rw [tv_congr n fun j hj => h j (by omega), h n (by omega)]
theorem chars_rng {ds : List Int} (h : Dig 10 ds) : ∀ c ∈ (chars ds).reverse, 48 ≤ c ∧ c ≤ 57 := by
 intro c hc
 simp only [chars, List.mem_reverse, List.mem_map] at hc
 obtain ⟨d, hd, rfl⟩ := hc
 have := h d hd
 omega
theorem tv_chars : ∀ (ds : List Int), Dig 10 ds → tv (strOfNums (chars ds).reverse) ds.length = V 10 ds
 | [], _ => rfl
 | d :: ds, h => by
  have h1 : Dig 10 ds := fun x hx => h x (List.mem_cons_of_mem _ hx)
  have ih := tv_chars ds h1
  have r1 := chars_rng h
  have e : (chars (d :: ds)).reverse = (chars ds).reverse ++ [48 + d] := by simp [chars]
  rw [e] at r1
  have g : ∀ j, sb (strOfNums ((chars ds).reverse ++ [48 + d])) j = ((chars ds).reverse ++ [48 + d]).getD j 0 := sb_str fun c hc => by have := r1 c hc; omega
  have g2 : ∀ j, sb (strOfNums (chars ds).reverse) j = (chars ds).reverse.getD j 0 := sb_str fun c hc => by have := chars_rng h1 c hc; omega
  have hl : (chars ds).reverse.length = ds.length := by rw [List.length_reverse, chars_len]
  rw [V_cons, e]
  show tv _ ds.length * 10 + (sb _ ds.length - 48) = _
  rw [tv_congr (t := strOfNums (chars ds).reverse) ds.length fun j hj => by rw [g, g2, getD_append_lt (by omega)], ih, g]
  have e2 : ((chars ds).reverse ++ [48 + d]).getD ds.length 0 = 48 + d := by
   have h3 := @getD_snoc (chars ds).reverse (48 + d)
   rw [hl] at h3
   exact h3
  rw [e2]
  omega
/-- a number's text is one, and says the number -/
theorem IsText.ok {X : Int} {s : ByteArray} (h : IsText X s) (hX : X < 10 ^ 250) : OkText s ∧ tv s s.size = X := by
 obtain ⟨ds, hd, ht, hv, hs⟩ := h
 by_cases h0 : ds = []
 ·subst h0
  rw [if_pos rfl] at hs
  subst hs
  refine ⟨⟨by decide, by decide, fun h => absurd h.2 (by decide), fun j hj => ?_⟩, ?_⟩
  ·have : j = 0 := by have h1 : j < 1 := hj; omega
   subst this
   exact ⟨by decide, by decide⟩
  ·rw [← hv]; rfl
 ·rw [if_neg h0] at hs
  have hsz : s.size = ds.length := by rw [hs, strOfNums_size, List.length_reverse, chars_len]
  have hlen : 0 < ds.length := List.length_pos_iff.2 h0
  have hge := V_ge (B := 10) (by decide) hd ht h0
  have hle : ds.length ≤ 250 := by
   rcases Nat.lt_or_ge 250 ds.length with h1 | h1
   ·have h2 : (10 : Int) ^ 250 ≤ 10 ^ (ds.length - 1) := ipow_le (by decide) (by omega)
    rw [hv] at hge
    omega
   ·exact h1
  have g : ∀ j, sb s j = (chars ds).reverse.getD j 0 := fun j => by rw [hs]; exact sb_str (fun c hc => by have := chars_rng hd c hc; omega) j
  have hl : (chars ds).reverse.length = ds.length := by rw [List.length_reverse, chars_len]
  have hr : ∀ j, j < ds.length → 48 ≤ sb s j ∧ sb s j ≤ 57 := fun j hj => by
   rw [g]
   exact chars_rng hd _ (getD_mem (by omega))
  refine ⟨⟨by omega, by omega, fun h => ?_, fun j hj => hr j (by omega)⟩, ?_⟩
  ·have h1 := h.1
   rw [g, List.getD_eq_getElem?_getD, List.getElem?_reverse (by rw [chars_len]; omega), chars_len] at h1
   rcases ht with h2 | h2
   ·exact h0 h2
   ·apply h2
    rw [List.getD_eq_getElem?_getD]
    unfold chars at h1
    rw [List.getElem?_map, show ds.length - 1 - 0 = ds.length - 1 from by omega, List.getElem?_eq_getElem (by omega)] at h1
    rw [List.getElem?_eq_getElem (by omega)]
    simp at h1 ⊢
    omega
  ·rw [hsz, ← hv, hs]
   exact tv_chars ds hd
end Go.Proofs.YtkojcamlllenkaaDoor
