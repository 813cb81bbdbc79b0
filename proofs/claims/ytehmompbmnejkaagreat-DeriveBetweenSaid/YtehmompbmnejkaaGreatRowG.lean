/- Rows whose elements take any number of cells, and the append of one element, or of a row, to a row of the call's own. Conditions: the result takes at most 2^47 bytes. -/
import Derived.Test.YtehmompbmnejkaaGreatStrs
import Derived.Deep.AppendLies
namespace Go.Proofs.YtehmompbmnejkaaGreat
open Go.RowKit

/-- the slice (a, n, cap) of elements of sz cells holds the cells cs -/
def RowG (sz : Nat) (w : World) (a : Option Addr) (n cap : Nat) (cs : List Value) : Prop :=
 cs.length = n * sz ∧ n ≤ cap ∧ cap ≤ maxLen ∧ (cap = 0 ∨ ∃ b off, a = some ⟨b, off, none⟩ ∧ b < w.heap.size ∧ ∀ i, i < n * sz → w.cell? ⟨b, off + i, none⟩ = some (cs.getD i undef))
theorem RowG.below {sz : Nat} {w w' : World} {a : Option Addr} {n cap : Nat} {cs : List Value} {B : Nat} (h : RowG sz w a n cap cs) (hb : Below B w w') (hB : w.heap.size ≤ B) : RowG sz w' a n cap cs := by
 obtain ⟨h1, h2, h3, h4⟩ := h
 refine ⟨h1, h2, h3, ?_⟩
 rcases h4 with h4 | ⟨b, off, e, hlt, hc⟩
 ·exact .inl h4
 ·refine .inr ⟨b, off, e, by have := hb.size; omega, fun i hi => ?_⟩
  rw [hb.cell (p := ⟨b, off + i, none⟩) (by show b < B; omega)]
  exact hc i hi
theorem RowG.nil {sz : Nat} {w : World} {cap : Nat} {cs : List Value} {n : Nat} (h : RowG sz w none n cap cs) : n = 0 ∧ cap = 0 ∧ cs = [] := by
 obtain ⟨h1, h2, h3, h4⟩ := h
 have h0 : cap = 0 := by
  rcases h4 with h4 | ⟨b, off, e, -⟩
  ·exact h4
  ·cases e
 have hn : n = 0 := by omega
 subst hn
 exact ⟨rfl, h0, List.length_eq_zero_iff.1 (by simpa using h1)⟩
theorem RowG.at {sz : Nat} {w : World} {a : Option Addr} {n cap : Nat} {cs : List Value} (h : RowG sz w a n cap cs) (hn : 0 < n) : ∃ b off, a = some ⟨b, off, none⟩ ∧ b < w.heap.size ∧ ∀ i, i < n * sz → w.cell? ⟨b, off + i, none⟩ = some (cs.getD i undef) := by
 rcases h.2.2.2 with h0 | h0
 ·have := h.2.1; omega
 ·exact h0
theorem getD_str {xs : List ByteArray} {i : Nat} (hi : i < xs.length) : (xs.map Value.string).getD i undef = .string (xs.getD i ByteArray.empty) := by
 simp [List.getD_eq_getElem?_getD, hi]
/-- a slice of strings is such a row -/
theorem RowS.g {w : World} {a : Option Addr} {n cap : Nat} {xs : List ByteArray} (h : RowS w a n cap xs) : RowG 1 w a n cap (xs.map Value.string) := by
 obtain ⟨h1, h2, h3, h4⟩ := h
 refine ⟨by simp [h1], h2, h3, ?_⟩
 rcases h4 with h4 | ⟨b, off, e, hlt, hc⟩
 ·exact .inl h4
 ·exact .inr ⟨b, off, e, hlt, fun i hi => by rw [Nat.mul_one] at hi; rw [hc i hi, getD_str (by omega)]⟩
/-- a row of the call's own is such a row -/
theorem RowG.of_own {sz : Nat} {w : World} {B : Nat} {e : TypeId} {a : Option Addr} {n c : Nat} {cs : List Value} (h : w.ownsRow B e sz (.slice a n c) n cs) : RowG sz w a n c cs := by
 refine ⟨h.1, ?_⟩
 rcases h.2 with ⟨h1, h2⟩ | ⟨g, cap, cur, h1, hg, hh, h2, h3, h4, h5⟩
 ·cases h1; exact ⟨Nat.le_refl _, Nat.zero_le _, .inl rfl⟩
 ·cases h1
  refine ⟨h2, h3, .inr ⟨g, 0, rfl, (Array.getElem?_eq_some_iff.1 hh).1, fun i hi => ?_⟩⟩
  rw [cell_of_row w g (0 + i) cur e (0, 0) hh, ← h5, Nat.zero_add, ← Array.getElem?_toList, List.getD_eq_getElem?_getD, List.getElem?_take_of_lt hi]
  have hl : i < cur.toList.length := by
   rw [Array.length_toList, h4]
   exact Nat.lt_of_lt_of_le hi (Nat.mul_le_mul_right _ h2)
  rw [List.getElem?_eq_getElem hl]
  rfl
theorem own_form {w : World} {B sz n : Nat} {e : TypeId} {v : Value} {cs : List Value} (h : w.ownsRow B e sz v n cs) : ∃ a c, v = .slice a n c := by
 rcases h.2 with ⟨rfl, rfl⟩ | ⟨g, cap, cur, rfl, _⟩
 ·exact ⟨none, 0, rfl⟩
 ·exact ⟨_, cap, rfl⟩
theorem own_below {w w' : World} {B N sz n : Nat} {e : TypeId} {v : Value} {cs : List Value} (h : w.ownsRow B e sz v n cs) (hb : Below N w w') (hN : w.heap.size ≤ N) : w'.ownsRow B e sz v n cs := by
 obtain ⟨h1, h2⟩ := h
 refine ⟨h1, ?_⟩
 rcases h2 with h2 | ⟨g, cap, cur, hv, hg, hh, r⟩
 ·exact .inl h2
 ·refine .inr ⟨g, cap, cur, hv, hg, ?_, r⟩
  rw [hb.block g (by have := (Array.getElem?_eq_some_iff.1 hh).1; omega)]; exact hh
section
variable {t e : TypeId} {z : Value} {sz bytes : Nat}
theorem run_append_rowG (hinfo : (Tryz.prog.info? e).map (fun i => (i.zero, i.size, i.bytes)) = some (some z, sz, bytes)) (hzs : z.cells.size = sz) (hsz : 0 < sz) (ht : Tryz.prog.underlying t = some (.slice e)) (ty : TypeId)
  (w : World) (B : Nat) (v : Value) (n : Nat) (cs : List Value) (hown : w.ownsRow B e sz v n cs) (a : Option Addr) (m c : Nat) (ds : List Value) (hr : RowG sz w a m c ds) (h1 : ∀ u ∈ ds, u.oneCell' = true) (hlen : (n + m) * bytes ≤ 140737488355328) (hmx : n + m ≤ maxLen) (hB : B ≤ w.heap.size) :
  ∃ v' w', (Builtin.append_ #[t, t] ty #[v, .slice a m c]).run Tryz.prog w = .ok v' w' ∧ w'.ownsRow B e sz v' (n + m) (cs ++ ds) ∧ w.grownBy w' v.ownBlock := by
 obtain ⟨i0, hi, hz0, hz1, hz2⟩ := info_parts hinfo
 cases a with
 | none =>
  obtain ⟨rfl, rfl, rfl⟩ := hr.nil
  have hrun := run_append_owned_none (P := Tryz.prog) (w := w) B t ty e i0 sz ht hi v n _ hown
  exact ⟨v, w, hrun, by simpa using hown, ⟨rfl, rfl, rfl, Nat.le_refl _, fun _ _ _ => rfl⟩⟩
 | some ad =>
  have hnews : ∀ j u, ds[j]? = some u → w.cell? (ad.add j) = some u := by
   intro j u hu
   have hj : j < ds.length := by
    rcases Nat.lt_or_ge j ds.length with h | h
    ·exact h
    ·rw [List.getElem?_eq_none h] at hu; simp at hu
   have hjm : j < m * sz := by rw [← hr.1]; exact hj
   rcases hr.2.2.2 with h0 | ⟨b, off, hab, _, hc⟩
   ·have := hr.2.1
    have hm : m = 0 := by omega
    rw [hm, Nat.zero_mul] at hjm; omega
   ·cases hab
    have := hc j hjm
    rw [List.getD_eq_getElem?_getD, hu] at this
    by_cases hj0 : j = 0
    ·subst hj0; simpa [Addr.add] using this
    ·simpa [Addr.add, hj0] using this
  obtain ⟨v', w', hrun, h2, h3, _⟩ := run_append_own (P := Tryz.prog) w B t ty e i0 z sz bytes ht hi hz0 hz1 hz2 hzs hsz v n _ hown ad m c ds hr.1 hnews h1 hmx hlen hB
  exact ⟨v', w', hrun, h2, h3⟩
/-- at the list of a plain region's operations -/
theorem wpList_append_rowG (hinfo : (Tryz.prog.info? e).map (fun i => (i.zero, i.size, i.bytes)) = some (some z, sz, bytes)) (hzs : z.cells.size = sz) (hsz : 0 < sz) (ht : Tryz.prog.underlying t = some (.slice e))
  {ops : Array Oper} {rest : List Oper} {o : Oper} {a : Act} {Q : Exit → Act → World → Prop} (hgd : o.guard = none) (s x : Operand)
  (ho : o.op = .call { callee := .builtin .append, args := #[s, x], argTypes := #[t, t] })
  (w : World) (B : Nat) (v : Value) (n : Nat) (cs : List Value) (na : Option Addr) (m c : Nat) (ds : List Value) (hs : a.eval s = v) (hx : a.eval x = .slice na m c) (hown : w.ownsRow B e sz v n cs) (hr : RowG sz w na m c ds) (h1 : ∀ u ∈ ds, u.oneCell' = true) (hlen : (n + m) * bytes ≤ 140737488355328) (hmx : n + m ≤ maxLen) (hB : B ≤ w.heap.size)
  (h : ∀ v' w', w'.ownsRow B e sz v' (n + m) (cs ++ ds) → w.grownBy w' v.ownBlock → (∀ w0, Below B w0 w → Below B w0 w') → wpList Tryz.prog ops Q rest (a.put o.dst v') w') : wpList Tryz.prog ops Q (o :: rest) a w := by
 refine wpList_plain hgd fun K hK => ?_
 obtain ⟨v', w', hrun, h2, h3⟩ := run_append_rowG hinfo hzs hsz ht o.type w B v n cs hown na m c ds hr h1 hlen hmx hB
 unfold Oper.wp execOp
 simp only [ho, resolve, invoke, builtin, Sem.run_bind, Sem.run_pure, Result.andThen_ok, List.map_toArray, List.map_cons, List.map_nil, hs, hx, hrun]
 exact hK _ _ (h v' w' h2 h3 fun w0 hb => hb.grown h3 hB fun k' hk => (World.ownsRow.lt hown k' hk).1)
/-- one element, laid into a block of its own, is appended -/
theorem wpList_append_oneG (hinfo : (Tryz.prog.info? e).map (fun i => (i.zero, i.size, i.bytes)) = some (some z, sz, bytes)) (hzs : z.cells.size = sz) (hsz : 0 < sz) (ht : Tryz.prog.underlying t = some (.slice e))
  {ops : Array Oper} {rest : List Oper} {o : Oper} {a : Act} {Q : Exit → Act → World → Prop} (hgd : o.guard = none) (s x : Operand)
  (ho : o.op = .call { callee := .builtin .append, args := #[s, x], argTypes := #[t, t] })
  (wr : World) (T : TypeId) (us : Array Value) (B : Nat) (v : Value) (n : Nat) (cs : List Value) (H : Nat) (hH : wr.heap.size = H) (hus : us.size = sz) (hs : a.eval s = v) (hx : a.eval x = .slice (some ⟨H, 0, none⟩) 1 1) (hown : wr.ownsRow B e sz v n cs) (h1 : ∀ u ∈ us, u.oneCell' = true) (hlen : (n + 1) * bytes ≤ 140737488355328) (hmx : n + 1 ≤ maxLen) (hB : B ≤ wr.heap.size)
  (h : ∀ v' w', w'.ownsRow B e sz v' (n + 1) (cs ++ us.toList) → wr.grownBy w' v.ownBlock → (∀ w0, Below B w0 wr → Below B w0 w') → wpList Tryz.prog ops Q rest (a.put o.dst v') w') : wpList Tryz.prog ops Q (o :: rest) a (wr.alloc (.cells us T)) := by
 subst hH
 refine wpList_append_rowG hinfo hzs hsz ht hgd s x ho (wr.alloc (.cells us T)) B v n cs _ 1 1 us.toList hs hx (World.ownsRow.alloc hown _) ⟨by rw [Array.length_toList, hus, Nat.one_mul], Nat.le_refl _, by unfold maxLen; omega, .inr ⟨wr.heap.size, 0, rfl, by simp, fun i hi => ?_⟩⟩ (fun u hu => h1 u (Array.mem_toList_iff.1 hu)) hlen hmx (by simp; omega) fun v' w' h2 h3 h4 => ?_
 ·rw [Nat.one_mul, ← hus] at hi
  rw [cell_of_row _ wr.heap.size (0 + i) us T (0, 0) (heap_alloc_new wr _), Nat.zero_add, List.getD_eq_getElem?_getD, Array.getElem?_toList, Array.getElem?_eq_getElem hi]
  rfl
 ·have h5 : wr.grownBy w' v.ownBlock := ⟨h3.os, h3.tape, h3.output, by have := h3.size; simp at this; omega, fun k hk hne => by
   rw [h3.block k (by simp; omega) hne]; exact Below.heap_alloc _ _ _ hk⟩
  exact h v' w' h2 h5 fun w0 hb => h4 w0 (hb.alloc hB _)
end
end Go.Proofs.YtehmompbmnejkaaGreat
