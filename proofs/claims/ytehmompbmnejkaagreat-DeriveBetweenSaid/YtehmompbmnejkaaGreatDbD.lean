/- Facts: what their cells hold; facts that come in. No conditions. -/
import Derived.Test.YtehmompbmnejkaaGreatMOpn
import Derived.Test.YtehmompbmnejkaaGreatMEx3
namespace Go.Proofs.YtehmompbmnejkaaGreat
open Go.RowKit

structure FacL where
 ca : Option Addr
 cn : Nat
 cc : Nat
 ia : Option Addr
 im : Nat
 ic : Nat
 na : Option Addr
 nn : Nat
 nc : Nat
structure FacV where
 codes : List Int
 ints : List Int
 nums : List Nat
abbrev FacZ := FacL × FacV
def FacL.val (l : FacL) : Value := .agg #[.slice l.ca l.cn l.cc, .slice l.ia l.im l.ic, .slice l.na l.nn l.nc]
def FactAt (w : World) (l : FacL) (f : FacV) : Prop :=
 RowK .i64 w l.ca l.cn l.cc f.codes ∧ RowK .i64 w l.ia l.im l.ic f.ints ∧ FRow w l.na l.nn l.nc f.nums ∧ (∀ c ∈ f.codes, -9223372036854775808 ≤ c ∧ c ≤ 9223372036854775807) ∧ (∀ c ∈ f.ints, -9223372036854775808 ≤ c ∧ c ≤ 9223372036854775807) ∧ ∀ x ∈ f.nums, x < 18446744073709551616
theorem FactAt.below {w w' : World} {l : FacL} {f : FacV} {B : Nat} (h : FactAt w l f) (hb : Below B w w') (hB : w.heap.size ≤ B) : FactAt w' l f := ⟨h.1.below hb hB, h.2.1.below hb hB, h.2.2.1.below hb hB, h.2.2.2⟩
/-- facts as they lie in memory -/
def factCells : List FacZ → List Value
 | [] => []
 | z :: r => .slice z.1.ca z.1.cn z.1.cc :: .slice z.1.ia z.1.im z.1.ic :: .slice z.1.na z.1.nn z.1.nc :: factCells r
def FactsAt (w : World) (a : Option Addr) (n c : Nat) (zs : List FacZ) : Prop := RowG 3 w a n c (factCells zs) ∧ zs.length = n ∧ ∀ z ∈ zs, FactAt w z.1 z.2
theorem FactsAt.below {w w' : World} {a : Option Addr} {n c B : Nat} {zs : List FacZ} (h : FactsAt w a n c zs) (hb : Below B w w') (hB : w.heap.size ≤ B) : FactsAt w' a n c zs :=
 ⟨h.1.below hb hB, h.2.1, fun z hz => (h.2.2 z hz).below hb hB⟩
def fAt (zs : List FacZ) (j : Nat) : FacZ := zs.getD j (⟨none, 0, 0, none, 0, 0, none, 0, 0⟩, ⟨[], [], []⟩)
theorem fAt_mem {zs : List FacZ} {j : Nat} (h : j < zs.length) : fAt zs j ∈ zs := by
 unfold fAt; rw [List.getD_eq_getElem?_getD, List.getElem?_eq_getElem h]; exact List.getElem_mem h
theorem factCells_get : ∀ {zs : List FacZ} {i : Nat}, i < zs.length → (factCells zs).getD (i * 3) undef = .slice (fAt zs i).1.ca (fAt zs i).1.cn (fAt zs i).1.cc ∧ (factCells zs).getD (i * 3 + 1) undef = .slice (fAt zs i).1.ia (fAt zs i).1.im (fAt zs i).1.ic ∧ (factCells zs).getD (i * 3 + 2) undef = .slice (fAt zs i).1.na (fAt zs i).1.nn (fAt zs i).1.nc
 | [], _, h => by simp at h
 | d :: ds, 0, _ => ⟨rfl, rfl, rfl⟩
 | d :: ds, i + 1, h => by
  have h2 := factCells_get (zs := ds) (i := i) (by simpa using h)
  rw [show (i + 1) * 3 = i * 3 + 1 + 1 + 1 from by omega]
  simpa [factCells, fAt] using h2
section
variable {H : Type} {enc : TypeId × Value → H} {w : World} {base : Nat} {spare : Nat → Bool} {held : Bool}
theorem factCells_flat : ∀ zs : List FacZ, factCells zs = zs.flatMap fun z => [.slice z.1.ca z.1.cn z.1.cc, .slice z.1.ia z.1.im z.1.ic, .slice z.1.na z.1.nn z.1.nc]
 | [] => rfl
 | z :: zs => by rw [List.flatMap_cons, ← factCells_flat zs]; rfl
theorem Trd.f64s {t e : TypeId} {P : Program} {cs : List Value} (ht : P.underlying t = some (.slice e)) (he : P.underlying e = some (.float .f64)) (hz : P.cellsOf e = 1) (hsp : ∀ b, spare b = true) (h : Trd enc P w base spare held t cs) :
  ∃ (a : Option Addr) (n c : Nat) (zs : List Nat), cs = [.slice a n c] ∧ FRow w a n c zs ∧ ∀ z ∈ zs, z < 18446744073709551616 := by
 obtain ⟨a, n, c, zs, h1, hl, h3, h4⟩ := h.slice (fun z : Nat => [.float .f64 z]) (fun z => z < 18446744073709551616) ht hz (by decide) (fun _ => rfl) (fun cs hc => hc.flt he) hsp
 refine ⟨a, n, c, zs, h1, ⟨hl, h3.2.1, h3.2.2.1, ?_⟩, h4⟩
 have hfl : ∀ zs : List Nat, (zs.flatMap fun z => [Value.float .f64 z]) = zs.map fun z => Value.float .f64 z := fun zs => by
  induction zs with
  | nil => rfl
  | cons z zs ih => rw [List.flatMap_cons, ih]; rfl
 rcases h3.2.2.2 with h5 | ⟨b, off, h5, h6, h7⟩
 ·exact .inl (by have := h3.2.1; omega)
 ·refine .inr ⟨b, off, h5, h6, fun i hi => ?_⟩
  rw [h7 i (by omega), hfl]
  simp [List.getD_eq_getElem?_getD, hl, hi]
theorem opn_fact {cs : List Value} (hsp : ∀ b, spare b = true) (h : Trd enc Tryz.prog w base spare held 54 cs) : ∃ z : FacZ, cs = [.slice z.1.ca z.1.cn z.1.cc, .slice z.1.ia z.1.im z.1.ic, .slice z.1.na z.1.nn z.1.nc] ∧ FactAt w z.1 z.2 := by
 obtain ⟨hl, hf⟩ := h.struct Tryz.underlying54
 rw [show Tryz.prog.cellsOf 54 = 3 from by kernel_rfl] at hl
 obtain ⟨ca, cn, cc, cs1, p0, h02, h03⟩ := (hf 0 _ rfl).i64s Tryz.underlying50 Tryz.underlying3 (by kernel_rfl) hsp
 replace p0 : (cs.drop 0).take 1 = [.slice ca cn cc] := cut_is p0 (show Tryz.prog.cellsOf 50 = 1 from by kernel_rfl)
 obtain ⟨ia, im, ic, is, p1, h12, h13⟩ := (hf 1 _ rfl).i64s Tryz.underlying51 Tryz.underlying2 (by kernel_rfl) hsp
 replace p1 : (cs.drop 1).take 1 = [.slice ia im ic] := cut_is p1 (show Tryz.prog.cellsOf 51 = 1 from by kernel_rfl)
 obtain ⟨na, nn, nc, ns, p2, h22, h23⟩ := (hf 2 _ rfl).f64s Tryz.underlying52 Tryz.underlying35 (by kernel_rfl) hsp
 replace p2 : (cs.drop 2).take 1 = [.slice na nn nc] := cut_is p2 (show Tryz.prog.cellsOf 52 = 1 from by kernel_rfl)
 have g := glue (glue (glue (off := 0) (A := []) rfl p0) p1) p2
 rw [List.take_of_length_le (by omega)] at g
 exact ⟨(⟨ca, cn, cc, ia, im, ic, na, nn, nc⟩, ⟨cs1, is, ns⟩), g, h02, h12, h22, h03, h13, h23⟩
theorem opn_facts {cs : List Value} (hsp : ∀ b, spare b = true) (h : Trd enc Tryz.prog w base spare held 27 cs) : ∃ (a : Option Addr) (n c : Nat) (zs : List FacZ), cs = [.slice a n c] ∧ FactsAt w a n c zs := by
 obtain ⟨a, n, c, zs, h1, h2, h3, h4⟩ := h.slice (fun z : FacZ => [.slice z.1.ca z.1.cn z.1.cc, .slice z.1.ia z.1.im z.1.ic, .slice z.1.na z.1.nn z.1.nc]) (fun z => FactAt w z.1 z.2) Tryz.underlying27 (sz := 3) (by kernel_rfl) (by decide) (fun _ => rfl) (fun cs hc => opn_fact hsp hc) hsp
 exact ⟨a, n, c, zs, h1, by rw [factCells_flat]; exact h3, h2, h4⟩
end
end Go.Proofs.YtehmompbmnejkaaGreat
