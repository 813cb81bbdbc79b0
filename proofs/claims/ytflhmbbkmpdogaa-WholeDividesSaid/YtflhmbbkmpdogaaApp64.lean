/- One law for 'out = append(out, x)' on a []int of the call's own, and what is known of it afterwards. Condition: the slice has at most 2^43 elements. -/
import Derived.Test.YtflhmbbkmpdogaaRows64
namespace Go.Proofs.Ytflhmbbkmpdogaa
open Go.RowKit

theorem info_int : (Try.prog.info? 3).map (fun i => (i.zero, i.size, i.bytes)) = some (some (.int .i64 0), 1, 8) := by kernel_rfl

theorem grown_alloc {w : World} {o : Obj} {w' : World} {row : Option Nat} (h : (w.alloc o).grownBy w' row) : w.grownBy w' row :=
  ⟨h.os, h.tape, h.output, by have := h.size; simp at this; omega, fun k hk hne => by
    rw [h.block k (by simp; omega) hne]; exact Below.heap_alloc _ _ _ hk⟩

/-- the slice value v of n elements of kind k owns the numbers xs, in a block from B on -/
def OwnK (k : IntKind) (w : World) (B : Nat) (e : TypeId) (v : Value) (n : Nat) (xs : List Int) : Prop := w.ownsRow B e 1 v n (xs.map (Value.int k))
theorem OwnK.nil (k : IntKind) (w : World) (B : Nat) (e : TypeId) : OwnK k w B e (.slice none 0 0) 0 [] := World.ownsRow_nil _ _ _ _
theorem OwnK.len {k : IntKind} {w : World} {B : Nat} {e : TypeId} {v : Value} {n : Nat} {xs : List Int} (h : OwnK k w B e v n xs) : xs.length = n := by simpa using h.1

theorem OwnK.form {k : IntKind} {w : World} {B : Nat} {e : TypeId} {v : Value} {n : Nat} {xs : List Int} (h : OwnK k w B e v n xs) : ∃ a c, v = .slice a n c := by
  rcases h.2 with ⟨rfl, rfl⟩ | ⟨g, cap, cur, rfl, _⟩
  · exact ⟨none, 0, rfl⟩
  · exact ⟨_, cap, rfl⟩
theorem OwnK.row {k : IntKind} {w : World} {B : Nat} {e : TypeId} {a : Option Addr} {n c : Nat} {xs : List Int} (h : OwnK k w B e (.slice a n c) n xs) : RowK k w a n c xs := by
  obtain ⟨a', c', e, hr⟩ := RowK.of_own h
  cases e; exact hr
theorem OwnK.set_below {k : IntKind} {w : World} {B : Nat} {e : TypeId} {v : Value} {n : Nat} {xs : List Int} (h : OwnK k w B e v n xs) {p : Addr} (hp : p.block < B) (u : Value) : OwnK k (w.setCell p u) B e v n xs :=
  ownsRow_setCell_below h hp u

theorem append1_i64 {ops : Array Oper} {rest : List Oper} {o : Oper} {a : Act} {Q : Exit → Act → World → Prop} (hgd : o.guard = none) (s x : Operand)
    (ho : o.op = .call { callee := .builtin .append, args := #[s, x], argTypes := #[24, 24] }) (B : Nat) (wr : World) (v : Value) (n : Nat) (xs : List Int) (d : Int)
    (hs : a.eval s = v) (hx : a.eval x = .slice (some ⟨wr.heap.size, 0, none⟩) 1 1) (hown : OwnK .i64 wr B 3 v n xs) (hn : n ≤ 8796093022208) (hB : B ≤ wr.heap.size)
    (h : ∀ v' w', OwnK .i64 w' B 3 v' (n + 1) (xs ++ [d]) → wr.grownBy w' v.ownBlock → (∀ w0, Below B w0 wr → Below B w0 w') → wpList Try.prog ops Q rest (a.put o.dst v') w') :
    wpList Try.prog ops Q (o :: rest) a (wr.alloc (.cells #[.int .i64 d] 3)) := by
  obtain ⟨i0, hi, hz0, hz1, hz2⟩ := info_parts info_int
  refine wpList_append_own _ hgd s x 24 ho B 3 i0 (.int .i64 0) 1 8 Try.underlying24 hi hz0 hz1 hz2 rfl (by decide) v n _ hs (World.ownsRow.alloc hown _) ⟨wr.heap.size, 0, none⟩ 1 1 [.int .i64 d] hx rfl ?c1 ?c2 ?c3 ?c4 ?c5 ?_
  case c1 =>
    intro j u hj
    match j, hj with
    | 0, hj => simp at hj; subst hj; simp [Addr.add]
  case c2 => intro u hu; simp at hu; subst hu; rfl
  case c3 => unfold maxLen; omega
  case c4 => omega
  case c5 => simp; omega
  intro v' w' h1 h2 _
  have h3 := grown_alloc h2
  refine h v' w' (by unfold OwnK; rw [List.map_append]; exact h1) h3 fun w0 hb => hb.grown h3 hB fun k hk => (World.ownsRow.lt hown k hk).1

/-- a call's answer: a slice that holds digits of the number z; nothing that was there has changed -/
def RetDig (w : World) (l : Nat) (z : Int) (e : Ending) (w' : World) : Prop :=
  ∃ a n c xs, e = .returned (.slice a n c) ∧ RowK .i64 w' a n c xs ∧ n = l ∧ Dig 1000 xs ∧ V 1000 xs = z ∧ Below w.heap.size w w'

theorem RetDig.of_own {w w' : World} {e : TypeId} {v : Value} {n : Nat} {xs : List Int} {z : Int} (h : OwnK .i64 w' w.heap.size e v n xs) (hd : Dig 1000 xs) (hz : V 1000 xs = z) (hb : Below w.heap.size w w') :
    RetDig w n z (.returned v) w' := by
  obtain ⟨a, c, rfl, hr⟩ := RowK.of_own h
  exact ⟨a, n, c, xs, rfl, hr, rfl, hd, hz, hb⟩
end Go.Proofs.Ytflhmbbkmpdogaa
