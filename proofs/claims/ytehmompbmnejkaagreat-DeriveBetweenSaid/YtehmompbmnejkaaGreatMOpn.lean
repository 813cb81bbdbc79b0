/- What the cells of an argument hold, read off the datum that it is: numbers, texts, slices, structs. No conditions. -/
import Derived.Test.YtehmompbmnejkaaGreatRowG
import Derived.Test.YtehmompbmnejkaaGreatMNum
import Derived.Test.YtehmompbmnejkaaGreatSchA
import Derived.Laws.Cover2
import Derived.ChangeSlices
import Derived.ChangeArms
namespace Go.Proofs.YtehmompbmnejkaaGreat
open Go.RowKit

section
variable {H : Type} {enc : TypeId × Value → H} {P : Program} {w : World} {base : Nat} {spare : Nat → Bool} {held : Bool}
/-- these cells are some datum of the type -/
def Trd (enc : TypeId × Value → H) (P : Program) (w : World) (base : Nat) (spare : Nat → Bool) (held : Bool) (t : TypeId) (cs : List Value) : Prop := ∃ fuel x, DataW.trod enc P w base spare held fuel t cs = some x
theorem Trd.int {t : TypeId} {k : IntKind} {cs : List Value} (ht : P.underlying t = some (.int k)) (h : Trd enc P w base spare held t cs) : ∃ n, cs = [.int k n] ∧ (Lit.int k n).wf = true := by
 obtain ⟨fuel, x, h⟩ := h
 cases fuel with
 | zero => simp [DataW.trod] at h
 | succ n =>
  unfold DataW.trod at h
  rw [ht] at h
  split at h <;> simp_all
theorem Trd.i64 {t : TypeId} {cs : List Value} (ht : P.underlying t = some (.int .i64)) (h : Trd enc P w base spare held t cs) : ∃ n : Int, cs = [.int .i64 n] ∧ (-9223372036854775808 ≤ n ∧ n ≤ 9223372036854775807) := by
 obtain ⟨n, e, hw⟩ := h.int ht
 simp [Lit.wf, IntKind.min, IntKind.max, IntKind.signed, IntKind.bits] at hw
 exact ⟨n, e, by omega, by omega⟩
theorem Trd.u32 {t : TypeId} {cs : List Value} (ht : P.underlying t = some (.int .u32)) (h : Trd enc P w base spare held t cs) : ∃ n : Int, cs = [.int .u32 n] ∧ (0 ≤ n ∧ n ≤ 4294967295) := by
 obtain ⟨n, e, hw⟩ := h.int ht
 simp [Lit.wf, IntKind.min, IntKind.max, IntKind.signed, IntKind.bits] at hw
 exact ⟨n, e, by omega, by omega⟩
theorem Trd.str {t : TypeId} {cs : List Value} (ht : P.underlying t = some .string) (h : Trd enc P w base spare held t cs) : ∃ s, cs = [.string s] ∧ s.size ≤ maxLen := by
 obtain ⟨fuel, x, h⟩ := h
 cases fuel with
 | zero => simp [DataW.trod] at h
 | succ n =>
  unfold DataW.trod at h
  rw [ht] at h
  split at h <;> simp_all
theorem Trd.flt {t : TypeId} {cs : List Value} (ht : P.underlying t = some (.float .f64)) (h : Trd enc P w base spare held t cs) : ∃ b : Nat, cs = [.float .f64 b] ∧ b < 18446744073709551616 := by
 obtain ⟨fuel, x, h⟩ := h
 cases fuel with
 | zero => simp [DataW.trod] at h
 | succ n =>
  unfold DataW.trod at h
  rw [ht] at h
  split at h <;> simp_all
  rename_i hk
  subst hk
  simpa [Lit.wf] using h.1.2
theorem cells_are {a : Addr} {n : Nat} {cs : List Value} (h : w.cells? base a n = some cs) : cs.length = n ∧ ∀ i, i < n → w.cell? (a.add i) = some (cs.getD i undef) := by
 unfold World.cells? at h
 split at h
 ·have hl := mapM_some_length h
  rw [List.length_range] at hl
  refine ⟨hl, fun i hi => ?_⟩
  have := mapM_some_get h i i (by simp [hi])
  rw [this, List.getD_eq_getElem?_getD, List.getElem?_eq_getElem (by omega)]
  rfl
 ·cases h
/-- a slice whose elements are, each, the cells of some z of which R holds -/
theorem Trd.slice {A : Type} {t e : TypeId} {sz : Nat} {cs : List Value} (en : A → List Value) (R : A → Prop) (ht : P.underlying t = some (.slice e)) (hz : P.cellsOf e = sz) (hsz : 0 < sz) (hen : ∀ z, (en z).length = sz)
  (hel : ∀ cs, Trd enc P w base spare held e cs → ∃ z, cs = en z ∧ R z) (hsp : ∀ b, spare b = true) (h : Trd enc P w base spare held t cs) :
  ∃ (a : Option Addr) (n c : Nat) (zs : List A), cs = [.slice a n c] ∧ zs.length = n ∧ RowG sz w a n c (zs.flatMap en) ∧ ∀ z ∈ zs, R z := by
 obtain ⟨fuel, x, h⟩ := h
 rcases DataW.trod_slice ht h with ⟨rfl, _⟩ | ⟨a, n, c, elems, rest, m, _, rfl, _, hb, hl, hm, hlen, hc, hrest, _⟩
 ·exact ⟨none, 0, 0, [], rfl, rfl, ⟨by simp, Nat.le_refl _, Nat.zero_le _, .inl rfl⟩, (fun z hz => by cases hz)⟩
 ·rw [hz] at hc
  have key : ∀ k, k ≤ n → ∃ zs : List A, zs.length = k ∧ (∀ i, i < k * sz → w.cell? (a.add i) = some ((zs.flatMap en).getD i undef)) ∧ (zs.flatMap en).length = k * sz ∧ ∀ z ∈ zs, R z := by
   intro k
   induction k with
   | zero => exact fun _ => ⟨[], rfl, fun i hi => by omega, by simp, fun z hz => by cases hz⟩
   | succ k ih =>
    intro hk
    obtain ⟨zs, h1, h2, h3, h4⟩ := ih (by omega)
    have hy := hc k (by omega)
    rw [List.getElem?_eq_getElem (by omega), Option.bind_eq_some_iff] at hy
    obtain ⟨ces, hce, hy⟩ := hy
    obtain ⟨z, rfl, hR⟩ := hel ces ⟨_, _, hy⟩
    obtain ⟨hn, hcell⟩ := cells_are hce
    refine ⟨zs ++ [z], by simp [h1], fun i hi => ?_, ?_, fun y hy => ?_⟩
    ·rw [List.flatMap_append, List.flatMap_singleton]
     rcases Nat.lt_or_ge i (k * sz) with h5 | h5
     ·rw [List.getD_eq_getElem?_getD, List.getElem?_append_left (by omega), ← List.getD_eq_getElem?_getD]
      exact h2 i h5
     ·have h6 : i - k * sz < sz := by rw [Nat.succ_mul] at hi; omega
      have h7 := hcell (i - k * sz) h6
      rw [List.getD_eq_getElem?_getD, List.getElem?_append_right (by omega), h3, ← List.getD_eq_getElem?_getD, ← h7]
      congr 1
      unfold Addr.add
      by_cases e1 : k * sz = 0
      ·rw [if_pos e1, e1, Nat.sub_zero]
      ·rw [if_neg e1, if_neg (by omega)]
       by_cases e2 : i - k * sz = 0
       ·rw [if_pos e2]; congr 1; omega
       ·rw [if_neg e2]
        show (⟨a.block, a.off + i, none⟩ : Addr) = ⟨a.block, a.off + k * sz + (i - k * sz), none⟩
        congr 1; omega
    ·rw [List.flatMap_append, List.flatMap_singleton, List.length_append, h3, hen, Nat.succ_mul]
    ·rw [List.mem_append, List.mem_singleton] at hy
     rcases hy with hy | rfl
     ·exact h4 y hy
     ·exact hR
  obtain ⟨zs, h1, h2, h3, h4⟩ := key n (Nat.le_refl _)
  refine ⟨some a, n, c, zs, rfl, h1, ⟨h3, hl, hm, ?_⟩, h4⟩
  rcases Nat.eq_zero_or_pos n with h0 | h0
  ·subst h0
   rcases Nat.eq_zero_or_pos c with hc0 | hc0
   ·exact .inl hc0
   ·have hr := (hrest (hsp _)).2 0 (by omega)
    rw [hz, List.getElem?_eq_getElem (by have := (hrest (hsp _)).1; omega), Option.bind_eq_some_iff] at hr
    obtain ⟨ces, hce, -⟩ := hr
    have hc1 := (cells_are hce).2 0 hsz
    rw [Nat.zero_add, Nat.zero_mul] at hc1
    obtain ⟨b, off, spot⟩ := a
    have hs0 : spot = none := by simpa [Addr.add] using World.cell?_spot hc1
    subst hs0
    exact .inr ⟨b, off, rfl, World.block_lt_of_cell? w _ hc1, fun i hi => by omega⟩
  ·have hc0 := h2 0 (Nat.mul_pos h0 hsz)
   obtain ⟨b, off, spot⟩ := a
   have hsp : spot = none := by simpa [Addr.add] using World.cell?_spot hc0
   subst hsp
   refine .inr ⟨b, off, rfl, World.block_lt_of_cell? w _ hc0, fun i hi => ?_⟩
   have := h2 i hi
   by_cases hi0 : i = 0
   ·subst hi0; simpa [Addr.add] using this
   ·simpa [Addr.add, hi0] using this
theorem Trd.struct {t : TypeId} {fs : Array Field} {cs : List Value} (ht : P.underlying t = some (.struct fs)) (h : Trd enc P w base spare held t cs) :
  cs.length = P.cellsOf t ∧ ∀ (i : Nat) (f : Field), fs[i]? = some f → Trd enc P w base spare held f.type ((cs.drop f.offset).take (P.cellsOf f.type)) := by
 obtain ⟨fuel, x, h⟩ := h
 obtain ⟨xs, n, -, -, hl, hx, hf⟩ := DataW.trod_struct ht h
 refine ⟨hl, fun i f hi => ?_⟩
 have hlt : i < fs.size := (Array.getElem?_eq_some_iff.1 hi).1
 have := hf i f hi
 rw [List.getElem?_eq_getElem (by omega)] at this
 exact ⟨n, _, this⟩
theorem glue {cs A p : List Value} {off len : Nat} (h : cs.take off = A) (hp : (cs.drop off).take len = p) : cs.take (off + len) = A ++ p := by rw [List.take_add, h, hp]
theorem cut_is {cs p : List Value} {o k s : Nat} (h : (cs.drop o).take k = p) (e : k = s) : (cs.drop o).take s = p := e ▸ h
theorem flat_one {A : Type} (f : A → Value) : ∀ zs : List A, (zs.flatMap fun z => [f z]) = zs.map f
 | [] => rfl
 | z :: zs => by rw [List.flatMap_cons, flat_one f zs]; rfl
theorem Trd.of {t : TypeId} {v : Value} {d : DataW H} {p : List MemPlace} (h : DataW.Trod enc P w base spare held t v d p) : Trd enc P w base spare held t v.cells.toList := by
 obtain ⟨fuel, h⟩ := h
 exact ⟨fuel, _, h⟩
theorem agg_of {v : Value} {cs : List Value} {r : Reach} {t : TypeId} (hw : Value.okWide P w r base t v) (ht : (∃ fs, P.underlying t = some (.struct fs)) ∨ ∃ n e, P.underlying t = some (.array n e)) (h : v.cells.toList = cs) : v = .agg cs.toArray := by
 unfold Value.okWide at hw
 rcases ht with ⟨fs, ht⟩ | ⟨n, e, ht⟩
 all_goals
  rw [ht] at hw
  obtain ⟨xs, rfl, -, -⟩ := hw
  subst h
  rfl
end
end Go.Proofs.YtehmompbmnejkaaGreat
/- A schema, and a column, that come in: what their cells hold. No conditions. -/
namespace Go.Proofs.YtehmompbmnejkaaGreat
open Go.RowKit

section
variable {H : Type} {enc : TypeId × Value → H} {w : World} {base : Nat} {spare : Nat → Bool} {held : Bool}
theorem Trd.strs {t e : TypeId} {P : Program} {cs : List Value} (ht : P.underlying t = some (.slice e)) (he : P.underlying e = some .string) (hz : P.cellsOf e = 1) (hsp : ∀ b, spare b = true) (h : Trd enc P w base spare held t cs) :
  ∃ (a : Option Addr) (n c : Nat) (zs : List ByteArray), cs = [.slice a n c] ∧ zs.length = n ∧ RowS w a n c zs ∧ ∀ z ∈ zs, z.size ≤ maxLen := by
 obtain ⟨a, n, c, zs, h1, h2, h3, h4⟩ := h.slice (fun z : ByteArray => [.string z]) (fun z => z.size ≤ maxLen) ht hz (by decide) (fun _ => rfl) (fun cs hc => hc.str he) hsp
 exact ⟨a, n, c, zs, h1, h2, RowS.of_g (by rw [← flat_one]; exact h3), h4⟩
theorem row_ints {k : IntKind} {sz : Nat} {a : Option Addr} {n c : Nat} {zs : List Int} (hs : sz = 1) (hl : zs.length = n) (h : RowG sz w a n c (zs.flatMap fun z => [.int k z])) : RowK k w a n c zs := by
 subst hs
 obtain ⟨h1, h2, h3, h4⟩ := h
 refine ⟨hl, h2, h3, ?_⟩
 rcases h4 with h4 | ⟨b, off, e, hlt, hc⟩
 ·exact .inl h4
 ·refine .inr ⟨b, off, e, hlt, fun i hi => ?_⟩
  rw [hc i (by omega), flat_one]
  simp [List.getD_eq_getElem?_getD, hl, hi]
theorem Trd.u32s {t e : TypeId} {P : Program} {cs : List Value} (ht : P.underlying t = some (.slice e)) (he : P.underlying e = some (.int .u32)) (hz : P.cellsOf e = 1) (hsp : ∀ b, spare b = true) (h : Trd enc P w base spare held t cs) :
  ∃ (a : Option Addr) (n c : Nat) (zs : List Int), cs = [.slice a n c] ∧ RowK .u32 w a n c zs ∧ ∀ z ∈ zs, 0 ≤ z ∧ z ≤ 4294967295 := by
 obtain ⟨a, n, c, zs, h1, h2, h3, h4⟩ := h.slice (fun z : Int => [.int .u32 z]) (fun z => 0 ≤ z ∧ z ≤ 4294967295) ht hz (by decide) (fun _ => rfl) (fun cs hc => hc.u32 he) hsp
 exact ⟨a, n, c, zs, h1, row_ints rfl h2 h3, h4⟩
theorem Trd.i64s {t e : TypeId} {P : Program} {cs : List Value} (ht : P.underlying t = some (.slice e)) (he : P.underlying e = some (.int .i64)) (hz : P.cellsOf e = 1) (hsp : ∀ b, spare b = true) (h : Trd enc P w base spare held t cs) :
  ∃ (a : Option Addr) (n c : Nat) (zs : List Int), cs = [.slice a n c] ∧ RowK .i64 w a n c zs ∧ ∀ z ∈ zs, -9223372036854775808 ≤ z ∧ z ≤ 9223372036854775807 := by
 obtain ⟨a, n, c, zs, h1, h2, h3, h4⟩ := h.slice (fun z : Int => [.int .i64 z]) (fun z => -9223372036854775808 ≤ z ∧ z ≤ 9223372036854775807) ht hz (by decide) (fun _ => rfl) (fun cs hc => hc.i64 he) hsp
 exact ⟨a, n, c, zs, h1, row_ints rfl h2 h3, h4⟩
theorem opn_dim {cs : List Value} (h : Trd enc Tryz.prog w base spare held 56 cs) : ∃ z : ByteArray × Int, cs = [.string z.1, .int .i64 z.2] ∧ (z.1.size ≤ maxLen ∧ -9223372036854775808 ≤ z.2 ∧ z.2 ≤ 9223372036854775807) := by
 obtain ⟨hl, hf⟩ := h.struct Tryz.underlying56
 rw [show Tryz.prog.cellsOf 56 = 2 from by kernel_rfl] at hl
 obtain ⟨s, p0, hs⟩ := (hf 0 _ rfl).str Tryz.underlying9
 replace p0 : (cs.drop 0).take 1 = [.string s] := cut_is p0 (show Tryz.prog.cellsOf 9 = 1 from by kernel_rfl)
 obtain ⟨n, p1, hn⟩ := (hf 1 _ rfl).i64 Tryz.underlying3
 replace p1 : (cs.drop 1).take 1 = [.int .i64 n] := cut_is p1 (show Tryz.prog.cellsOf 3 = 1 from by kernel_rfl)
 have g := glue (glue (off := 0) (A := []) rfl p0) p1
 rw [List.take_of_length_le (by omega)] at g
 exact ⟨(s, n), g, hs, hn⟩
theorem dimCells_flat : ∀ ds : List (ByteArray × Int), dimCells ds = ds.flatMap fun z => [.string z.1, .int .i64 z.2]
 | [] => rfl
 | d :: ds => by rw [List.flatMap_cons, ← dimCells_flat ds]; rfl
theorem opn_schema {cs : List Value} (hsp : ∀ b, spare b = true) (h : Trd enc Tryz.prog w base spare held 26 cs) : ∃ (l : SchL) (s : Sch), cs = [.slice l.ad l.nd l.cd, .slice l.ai l.ni l.ci, .slice l.an l.nn l.cn, .slice l.av l.nv l.cv] ∧ SchAt w l s := by
 obtain ⟨hl, hf⟩ := h.struct Tryz.underlying26
 rw [show Tryz.prog.cellsOf 26 = 4 from by kernel_rfl] at hl
 obtain ⟨ad, nd, cd, ds, p0, h01, h02, h03⟩ := (hf 0 _ rfl).slice (fun z : ByteArray × Int => [.string z.1, .int .i64 z.2]) _ Tryz.underlying22 (sz := 2) (by kernel_rfl) (by decide) (fun _ => rfl) (fun cs hc => opn_dim hc) hsp
 replace p0 : (cs.drop 0).take 1 = [.slice ad nd cd] := cut_is p0 (show Tryz.prog.cellsOf 22 = 1 from by kernel_rfl)
 obtain ⟨ai, ni, ci, is, p1, h11, h12, h13⟩ := (hf 1 _ rfl).strs Tryz.underlying23 Tryz.underlying9 (by kernel_rfl) hsp
 replace p1 : (cs.drop 1).take 1 = [.slice ai ni ci] := cut_is p1 (show Tryz.prog.cellsOf 23 = 1 from by kernel_rfl)
 obtain ⟨an, nn, cn, ns, p2, h21, h22, h23⟩ := (hf 2 _ rfl).strs Tryz.underlying23 Tryz.underlying9 (by kernel_rfl) hsp
 replace p2 : (cs.drop 2).take 1 = [.slice an nn cn] := cut_is p2 (show Tryz.prog.cellsOf 23 = 1 from by kernel_rfl)
 obtain ⟨av, nv, cv, vs, p3, h32, h33⟩ := (hf 3 _ rfl).u32s Tryz.underlying24 Tryz.underlying34 (by kernel_rfl) hsp
 replace p3 : (cs.drop 3).take 1 = [.slice av nv cv] := cut_is p3 (show Tryz.prog.cellsOf 24 = 1 from by kernel_rfl)
 have g := glue (glue (glue (glue (off := 0) (A := []) rfl p0) p1) p2) p3
 rw [List.take_of_length_le (by omega)] at g
 exact ⟨⟨ad, nd, cd, ai, ni, ci, an, nn, cn, av, nv, cv⟩, ⟨ds, is, ns, vs⟩, g, by rw [dimCells_flat]; exact h02, h01, h12, h22, h32, h03, h13, h23, h33⟩
end
end Go.Proofs.YtehmompbmnejkaaGreat
