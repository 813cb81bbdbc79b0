/- One law for an append of whatever row to a row of the call's own. Condition: at most 2^43 elements. -/
import Derived.Test.YtkojcamlllenkaaDoorMNum
import Derived.Test.YtkojcamlllenkaaDoorMReg
namespace Go.Proofs.YtkojcamlllenkaaDoor
open Go.RowKit

theorem run_append_row (k : IntKind) (t e : TypeId) (bytes : Nat) (hinfo : (Tryd.prog.info? e).map (fun i => (i.zero, i.size, i.bytes)) = some (some (.int k 0), 1, bytes)) (hb8 : bytes ≤ 8) (ht : Tryd.prog.underlying t = some (.slice e)) (ty : TypeId)
  (w : World) (B : Nat) (v : Value) (n : Nat) (xs : List Int) (hown : OwnK k w B e v n xs) (a : Option Addr) (m c : Nat) (ys : List Int) (hr : RowK k w a m c ys) (ha : a = none → m = 0 ∧ c = 0) (hlen : n + m ≤ 8796093022208) (hB : B ≤ w.heap.size) :
  ∃ v' w', (Builtin.append_ #[t, t] ty #[v, .slice a m c]).run Tryd.prog w = .ok v' w' ∧ OwnK k w' B e v' (n + m) (xs ++ ys) ∧ w.grownBy w' v.ownBlock := by
 obtain ⟨i0, hi, hz0, hz1, hz2⟩ := info_parts hinfo
 cases a with
 | none =>
  obtain ⟨rfl, rfl⟩ := ha rfl
  have : ys = [] := by have := hr.1; exact List.length_eq_zero_iff.1 this
  subst this
  have hrun := run_append_owned_none (P := Tryd.prog) (w := w) B t ty e i0 1 ht hi v n _ hown
  exact ⟨v, w, hrun, by simpa using hown, ⟨rfl, rfl, rfl, Nat.le_refl _, fun _ _ _ => rfl⟩⟩
 | some ad =>
  have hnews : ∀ j u, (ys.map (Value.int k))[j]? = some u → w.cell? (ad.add j) = some u := by
   intro j u hu
   rw [List.getElem?_map] at hu
   have hj : j < ys.length := by
    rcases Nat.lt_or_ge j ys.length with h | h
    ·exact h
    ·rw [List.getElem?_eq_none h] at hu; simp at hu
   rw [List.getElem?_eq_getElem hj] at hu
   simp only [Option.map_some, Option.some.injEq] at hu
   have hm := hr.1
   rcases hr.2.2.2 with h0 | ⟨b, off, hab, _, hc⟩
   ·have := hr.2.1; omega
   ·cases hab
    have := hc j (by omega)
    rw [List.getD_eq_getElem?_getD, List.getElem?_eq_getElem hj] at this
    rw [← hu]
    by_cases hj0 : j = 0
    ·subst hj0; simpa [Addr.add] using this
    ·simpa [Addr.add, hj0] using this
  have h1 : ∀ u ∈ ys.map (Value.int k), u.oneCell' = true := by
   intro u hu
   obtain ⟨z, _, rfl⟩ := List.mem_map.1 hu
   rfl
  have hbytes : (n + m) * bytes ≤ 140737488355328 := by
   have : (n + m) * bytes ≤ (n + m) * 8 := Nat.mul_le_mul_left _ hb8
   omega
  obtain ⟨v', w', hrun, h2, h3, _⟩ := run_append_own (P := Tryd.prog) w B t ty e i0 (.int k 0) 1 bytes ht hi hz0 hz1 hz2 rfl (by decide) v n _ hown ad m c (ys.map (Value.int k)) (by rw [List.length_map, hr.1, Nat.mul_one]) hnews h1 (by unfold maxLen; omega) hbytes hB
  exact ⟨v', w', hrun, by unfold OwnK; rw [List.map_append]; exact h2, h3⟩

/-- at the list of a plain region's operations -/
theorem wpList_append_row (k : IntKind) (t e : TypeId) (bytes : Nat) (hinfo : (Tryd.prog.info? e).map (fun i => (i.zero, i.size, i.bytes)) = some (some (.int k 0), 1, bytes)) (hb8 : bytes ≤ 8) (ht : Tryd.prog.underlying t = some (.slice e))
  {ops : Array Oper} {rest : List Oper} {o : Oper} {a : Act} {Q : Exit → Act → World → Prop} (hgd : o.guard = none) (s x : Operand)
  (ho : o.op = .call { callee := .builtin .append, args := #[s, x], argTypes := #[t, t] })
  (w : World) (B : Nat) (v : Value) (n : Nat) (xs : List Int) (na : Option Addr) (m c : Nat) (ys : List Int) (hs : a.eval s = v) (hx : a.eval x = .slice na m c) (hown : OwnK k w B e v n xs) (hr : RowK k w na m c ys) (ha : na = none → m = 0 ∧ c = 0) (hlen : n + m ≤ 8796093022208) (hB : B ≤ w.heap.size)
  (h : ∀ v' w', OwnK k w' B e v' (n + m) (xs ++ ys) → w.grownBy w' v.ownBlock → (∀ w0, Below B w0 w → Below B w0 w') → wpList Tryd.prog ops Q rest (a.put o.dst v') w') : wpList Tryd.prog ops Q (o :: rest) a w := by
 refine wpList_plain hgd fun K hK => ?_
 obtain ⟨v', w', hrun, h2, h3⟩ := run_append_row k t e bytes hinfo hb8 ht o.type w B v n xs hown na m c ys hr ha hlen hB
 unfold Oper.wp execOp
 simp only [ho, resolve, invoke, builtin, Sem.run_bind, Sem.run_pure, Result.andThen_ok, List.map_toArray, List.map_cons, List.map_nil, hs, hx, hrun]
 exact hK _ _ (h v' w' h2 h3 fun w0 hb => hb.grown h3 hB fun k' hk => (World.ownsRow.lt hown k' hk).1)
end Go.Proofs.YtkojcamlllenkaaDoor
/- Contract of package bushelref01's Div. Conditions: the divisor is not 0; the numbers together lie below 1000^1000000. -/
namespace Go.Proofs.YtkojcamlllenkaaDoor
open Go.RowKit

/-- the number of a list with one more digit ahead -/
theorem V_cons {B : Int} {d : Int} : ∀ (ys : List Int), V B (d :: ys) = d + B * V B ys := by
 intro ys
 have key : ∀ n, vf B (fun i => (d :: ys).getD i 0) (n + 1) = d + B * vf B (fun i => ys.getD i 0) n := by
  intro n
  induction n with
  | zero => simp [vf]
  | succ n ih =>
   show vf B _ (n + 1) + (d :: ys).getD (n + 1) 0 * B ^ (n + 1) = d + B * (vf B _ n + ys.getD n 0 * B ^ n)
   rw [ih, Int.mul_add, List.getD_cons_succ, Int.pow_succ, Int.mul_comm B (ys.getD n 0 * B ^ n), Int.mul_assoc]; omega
 show vf B _ (ys.length + 1) = _
 rw [key]; rfl
theorem RowK.none {k : IntKind} {w : World} {n c : Nat} {xs : List Int} (h : RowK k w none n c xs) : n = 0 ∧ c = 0 := by
 rcases h.2.2.2 with h0 | ⟨b, off, e, _⟩
 ·exact ⟨by have := h.2.1; omega, h0⟩
 ·cases e
theorem RowK.none' {k : IntKind} {w : World} {a : Option Addr} {n c : Nat} {xs : List Int} (h : RowK k w a n c xs) : a = Option.none → n = 0 ∧ c = 0 := fun e => by subst e; exact h.none

end Go.Proofs.YtkojcamlllenkaaDoor
/- Contract of package bushelref01's Power. Conditions: the count is not below 0; all powers up to it lie below 1000^1000000. -/
namespace Go.Proofs.YtkojcamlllenkaaDoor
open Go.RowKit

end Go.Proofs.YtkojcamlllenkaaDoor
