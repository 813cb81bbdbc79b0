/- Contract of package nat's move. Conditions: the words are below 2^32; at most 100000 of them; the shift below 32. -/
import Derived.Test.YtkojcamlllenkaaDoorMNatA
import Derived.Deep.DeepCutAuto
namespace Go.Proofs.YtkojcamlllenkaaDoor
open Go.RowKit

end Go.Proofs.YtkojcamlllenkaaDoor
/- Contracts of package nat's take and give: both change one block in place. Conditions: the words are below 2^32. -/
namespace Go.Proofs.YtkojcamlllenkaaDoor
open Go.RowKit

/-- block g begins with the numbers xs of kind k; what follows is anything -/
def ArrP (k : IntKind) (e : TypeId) (w : World) (g : Nat) (xs : List Int) : Prop := ∃ r : List Value, w.heap[g]? = some (.cells (xs.map (Value.int k) ++ r).toArray e (0, 0))
theorem ArrP.cell {k : IntKind} {e : TypeId} {w : World} {g : Nat} {xs : List Int} (h : ArrP k e w g xs) {i : Nat} (hi : i < xs.length) : w.cell? ⟨g, i, none⟩ = some (.int k (xs.getD i 0)) := by
 obtain ⟨r, h⟩ := h
 rw [cell_of_row w g i _ e (0, 0) h]
 rw [List.getElem?_toArray, List.getElem?_append_left (by simpa using hi)]
 simp [hi]
theorem ArrP.frozen {k : IntKind} {e : TypeId} {w : World} {g : Nat} {xs : List Int} (h : ArrP k e w g xs) (i : Nat) : w.frozen? ⟨g, i, none⟩ = false := by
 obtain ⟨r, h⟩ := h
 simp [World.frozen?, h]
theorem ArrP.set {k : IntKind} {e : TypeId} {w : World} {g : Nat} {xs : List Int} (h : ArrP k e w g xs) {i : Nat} (hi : i < xs.length) (d : Int) : ArrP k e (w.setCell ⟨g, i, none⟩ (.int k d)) g (xs.set i d) := by
 obtain ⟨r, h⟩ := h
 refine ⟨r, ?_⟩
 show (w.setCell ⟨g, i, none⟩ (.int k d)).heap[g]? = _
 simp [World.setCell, Array.getElem?_modify, h, List.map_set]
 rw [List.set_append_left _ _ (by simpa using hi)]
theorem OwnK.part {k : IntKind} {w : World} {B g n cap : Nat} {e : TypeId} {xs : List Int} (h : OwnK k w B e (.slice (some ⟨g, 0, none⟩) n cap) n xs) : ArrP k e w g xs := by
 rcases h.2 with ⟨h1, _⟩ | ⟨g', cap', cur, h1, hg, hh, h3, h4, h5, h6⟩
 ·cases h1
 ·cases h1
  refine ⟨cur.toList.drop (n * 1), ?_⟩
  rw [hh, ← h6, List.take_append_drop]

end Go.Proofs.YtkojcamlllenkaaDoor
/- Contract of package nat's word: one word of a quotient. Conditions: the words are below 2^32; the divisor has two words or more, and its highest is not 0. -/
namespace Go.Proofs.YtkojcamlllenkaaDoor
open Go.RowKit

end Go.Proofs.YtkojcamlllenkaaDoor
/- Contract of package nat's word. Conditions: the words are below 2^32; the divisor has two words or more, and its highest is not 0. -/
namespace Go.Proofs.YtkojcamlllenkaaDoor
open Go.RowKit

end Go.Proofs.YtkojcamlllenkaaDoor
/- Contract of package nat's Shr. Conditions: the words are below 2^32; at most 100000 of them. Any shift. -/
namespace Go.Proofs.YtkojcamlllenkaaDoor
open Go.RowKit

end Go.Proofs.YtkojcamlllenkaaDoor
/- Contracts of package nat's Bits, Of, Uint. Conditions: the words are below 2^32; at most 100000 of them. -/
namespace Go.Proofs.YtkojcamlllenkaaDoor
open Go.RowKit

/-- one word's number, trim -/
def ws (v : Int) : List Int := [v % 4294967296, v / 4294967296]
theorem ws_dig {v : Int} (h0 : 0 ≤ v) (h1 : v < 18446744073709551616) : Dig 4294967296 (ws v) := by
 intro d hd
 simp [ws] at hd
 omega
theorem ws_V {v : Int} : V 4294967296 (ws v) = v := by
 simp [ws, V, vf]
 omega
theorem RetNat.from {w w1 w2 : World} {z : Int} {e : Ending} (h : RetNat w1 z e w2) (hb : Below w.heap.size w w1) : RetNat w z e w2 := by
 obtain ⟨a, n, c, rfl, h1, h2, h3⟩ := h
 exact ⟨a, n, c, rfl, h1, hb.trans (h2.mono hb.size), h3.mono hb.size⟩

theorem nof_any (v : Int) (w : World) (h0 : 0 ≤ v) (h1 : v < 18446744073709551616) :
  Calls Tryd.prog 32 #[.int .u64 v] w (RetNat w v) := by
 have HD := Lib.hid (ws_dig h0 h1)
 have HV := Lib.hid (ws_V (v := v))
 go_enter Tryd.func32, Tryd.ntmps32
 go_wp2_with fail
 have hb : Below w.heap.size w (w.alloc (.cells #[.int .u32 (v % 4294967296), .int .u32 (v / 4294967296)] 27)) := (Below.refl _ _).alloc (Nat.le_refl _) _
 have harr : Arr .u32 27 (w.alloc (.cells #[.int .u32 (v % 4294967296), .int .u32 (v / 4294967296)] 27)) w.heap.size (ws v) := by
  show (w.alloc _).heap[w.heap.size]? = _
  rw [heap_alloc_new]
  simp [ws]
 refine (trim_any _ _ _ _ _ (harr.full (by simp [ws])) HD.out (by simp [ws])).mono ?_
 rw [HV.out]
 rintro e w2 h
 have H := Lib.hid (h.from hb)
 obtain ⟨a, n, c, rfl, -⟩ := h
 clear hb harr
 go_wp2_with fail
 go_ret
 exact H.out

end Go.Proofs.YtkojcamlllenkaaDoor
/- Contract of package nat's Div: plain laws and the small cases. Conditions: the words are below 2^32; at most 90000 of them. -/
namespace Go.Proofs.YtkojcamlllenkaaDoor
open Go.RowKit

end Go.Proofs.YtkojcamlllenkaaDoor
/- Contract of package nat's Div: the long division. Conditions: the words are below 2^32; at most 90000 of them. -/
namespace Go.Proofs.YtkojcamlllenkaaDoor
open Go.RowKit

end Go.Proofs.YtkojcamlllenkaaDoor
/- Contract of package nat's Root. Conditions: the words are below 2^32; at most 40000 of them. -/
namespace Go.Proofs.YtkojcamlllenkaaDoor
open Go.RowKit

theorem NatC.len {w : World} {a : Option Addr} {n c k : Nat} {z : Int} (h : NatC w a n c z) (hz : z < 4294967296 ^ k) : n ≤ k := by
 obtain ⟨xs, hr, hd, ht, hv⟩ := h
 rcases Nat.lt_or_ge k n with h | h
 ·have h1 := V_ge (B := 4294967296) (by decide) hd ht (fun e => by have := hr.1; rw [e] at this; simp at this; omega)
  have h2 : (4294967296 : Int) ^ k ≤ 4294967296 ^ (xs.length - 1) := ipow_le (by decide) (by have := hr.1; omega)
  omega
 ·exact h
theorem NatC.tl {w : World} {a : Option Addr} {n c : Nat} {z : Int} (h : NatC w a n c z) : ∃ xs, RowK .u32 w a n c xs ∧ Dig 4294967296 xs ∧ V 4294967296 xs = z ∧ tl xs = n := by
 obtain ⟨xs, hr, hd, ht, hv⟩ := h
 exact ⟨xs, hr, hd, hv, by rw [tl_of_trim ht, hr.1]⟩
end Go.Proofs.YtkojcamlllenkaaDoor
/- Contracts of package nat's Shl and Noughts. Conditions: the words are below 2^32; at most 80000 of them. -/
namespace Go.Proofs.YtkojcamlllenkaaDoor
open Go.RowKit

end Go.Proofs.YtkojcamlllenkaaDoor
/- Contracts of package nat's Shl and Shr at any count, a number's bit by its words. Conditions: at most 80000 words. -/
namespace Go.Proofs.YtkojcamlllenkaaDoor
open Go.RowKit

end Go.Proofs.YtkojcamlllenkaaDoor
