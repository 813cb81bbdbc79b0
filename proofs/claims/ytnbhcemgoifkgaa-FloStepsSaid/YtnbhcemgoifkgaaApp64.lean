/- One law for 'out = append(out, x)' on a []int of the call's own, and what is known of it afterwards. Condition: the slice has at most 2^43 elements. -/
import Derived.Deep.AppendLies
import Derived.Test.YtnbhcemgoifkgaaRef01a
namespace Go.Proofs.Ytnbhcemgoifkgaa
open Go.RowKit

theorem info_int : (Try.prog.info? 3).map (fun i => (i.zero, i.size, i.bytes)) = some (some (.int .i64 0), 1, 8) := by kernel_rfl

theorem grown_alloc {w : World} {o : Obj} {w' : World} {row : Option Nat} (h : (w.alloc o).grownBy w' row) : w.grownBy w' row :=
  ⟨h.os, h.tape, h.output, by have := h.size; simp at this; omega, fun k hk hne => by
    rw [h.block k (by simp; omega) hne]; exact Below.heap_alloc _ _ _ hk⟩

/-- the slice value v of n elements of kind k owns the numbers xs, in a block from B on -/
def OwnK (k : IntKind) (w : World) (B : Nat) (e : TypeId) (v : Value) (n : Nat) (xs : List Int) : Prop := w.ownsRow B e 1 v n (xs.map (Value.int k))
theorem OwnK.nil (k : IntKind) (w : World) (B : Nat) (e : TypeId) : OwnK k w B e (.slice none 0 0) 0 [] := World.ownsRow_nil _ _ _ _
theorem OwnK.len {k : IntKind} {w : World} {B : Nat} {e : TypeId} {v : Value} {n : Nat} {xs : List Int} (h : OwnK k w B e v n xs) : xs.length = n := by simpa using h.1

theorem OwnK.form {k : IntKind} {w : World} {B : Nat} {e : TypeId} {v : Value} {n : Nat} {xs : List Int} (h : OwnK k w B e v n xs) : ∃ a c, v = .slice a n c := by
  rcases h.2 with ⟨rfl, rfl⟩ | ⟨g, cap, cur, rfl, _⟩
  · exact ⟨none, 0, rfl⟩
  · exact ⟨_, cap, rfl⟩
theorem OwnK.row {k : IntKind} {w : World} {B : Nat} {e : TypeId} {a : Option Addr} {n c : Nat} {xs : List Int} (h : OwnK k w B e (.slice a n c) n xs) : RowK k w a n c xs := by
  obtain ⟨a', c', e, hr⟩ := RowK.of_own h
  cases e; exact hr
theorem OwnK.fresh {k : IntKind} {w : World} {B : Nat} {e : TypeId} {a : Option Addr} {n c : Nat} {xs : List Int} (h : OwnK k w B e (.slice a n c) n xs) : Fresh B a := by
  rcases h.2 with ⟨h1, _⟩ | ⟨g, cap, cur, h1, hg, _⟩
  · cases h1; exact Fresh.nil
  · cases h1; exact Fresh.at hg
theorem OwnK.set_below {k : IntKind} {w : World} {B : Nat} {e : TypeId} {v : Value} {n : Nat} {xs : List Int} (h : OwnK k w B e v n xs) {p : Addr} (hp : p.block < B) (u : Value) : OwnK k (w.setCell p u) B e v n xs :=
  ownsRow_setCell_below h hp u

theorem OwnK.below {k : IntKind} {w w' : World} {B N : Nat} {e : TypeId} {v : Value} {n : Nat} {xs : List Int} (h : OwnK k w B e v n xs) (hb : Below N w w') (hN : w.heap.size ≤ N) : OwnK k w' B e v n xs := by
  obtain ⟨h1, h2⟩ := h
  refine ⟨h1, ?_⟩
  rcases h2 with h2 | ⟨g, cap, cur, hv, hg, hh, r⟩
  · exact .inl h2
  · refine .inr ⟨g, cap, cur, hv, hg, ?_, r⟩
    rw [hb.block g (by have := (Array.getElem?_eq_some_iff.1 hh).1; omega)]; exact hh

theorem append1 (k : IntKind) (t e : TypeId) (bytes : Nat) (hinfo : (Try.prog.info? e).map (fun i => (i.zero, i.size, i.bytes)) = some (some (.int k 0), 1, bytes)) (hb8 : bytes ≤ 8) (ht : Try.prog.underlying t = some (.slice e))
    {ops : Array Oper} {rest : List Oper} {o : Oper} {a : Act} {Q : Exit → Act → World → Prop} (hgd : o.guard = none) (s x : Operand)
    (ho : o.op = .call { callee := .builtin .append, args := #[s, x], argTypes := #[t, t] }) (B : Nat) (wr : World) (v : Value) (n : Nat) (xs : List Int) (d : Int)
    (hs : a.eval s = v) (hx : a.eval x = .slice (some ⟨wr.heap.size, 0, none⟩) 1 1) (hown : OwnK k wr B e v n xs) (hn : n ≤ 8796093022208) (hB : B ≤ wr.heap.size)
    (h : ∀ g cap w', OwnK k w' B e (.slice (some ⟨g, 0, none⟩) (n + 1) cap) (n + 1) (xs ++ [d]) → wr.grownBy w' v.ownBlock → (∀ w0, Below B w0 wr → Below B w0 w') → (v.ownBlock = some g ∨ wr.heap.size ≤ g) → wpList Try.prog ops Q rest (a.put o.dst (.slice (some ⟨g, 0, none⟩) (n + 1) cap)) w') :
    wpList Try.prog ops Q (o :: rest) a (wr.alloc (.cells #[.int k d] e)) := by
  obtain ⟨i0, hi, hz0, hz1, hz2⟩ := info_parts hinfo
  refine wpList_append_lies _ hgd s x t ho B e i0 (.int k 0) 1 bytes ht hi hz0 hz1 hz2 rfl (by decide) v n _ hs (World.ownsRow.alloc hown _) ⟨wr.heap.size, 0, none⟩ 1 1 [.int k d] hx rfl ?c1 ?c2 (by decide) ?c3 ?c4 ?c5 _ rfl ?_
  case c1 =>
    intro j u hj
    match j, hj with
    | 0, hj => simp at hj; subst hj; simp [Addr.add]
  case c2 => intro u hu; simp at hu; subst hu; rfl
  case c3 => unfold maxLen; omega
  case c4 =>
    have : (n + 1) * bytes ≤ (n + 1) * 8 := Nat.mul_le_mul_left _ hb8
    omega
  case c5 => simp; omega
  intro g cap w' h1 h2 h4 _
  have h3 := grown_alloc h2
  refine h g cap w' (by unfold OwnK; rw [List.map_append]; exact h1) h3 (fun w0 hb => hb.grown h3 hB fun k hk => (World.ownsRow.lt hown k hk).1) ?_
  rcases h4 with h4 | h4
  · exact .inl h4
  · right; simp at h4; omega

theorem append1_i64 {ops : Array Oper} {rest : List Oper} {o : Oper} {a : Act} {Q : Exit → Act → World → Prop} (hgd : o.guard = none) (s x : Operand)
    (ho : o.op = .call { callee := .builtin .append, args := #[s, x], argTypes := #[25, 25] }) (B : Nat) (wr : World) (v : Value) (n : Nat) (xs : List Int) (d : Int)
    (hs : a.eval s = v) (hx : a.eval x = .slice (some ⟨wr.heap.size, 0, none⟩) 1 1) (hown : OwnK .i64 wr B 3 v n xs) (hn : n ≤ 8796093022208) (hB : B ≤ wr.heap.size)
    (h : ∀ v' w', OwnK .i64 w' B 3 v' (n + 1) (xs ++ [d]) → wr.grownBy w' v.ownBlock → (∀ w0, Below B w0 wr → Below B w0 w') → wpList Try.prog ops Q rest (a.put o.dst v') w') :
    wpList Try.prog ops Q (o :: rest) a (wr.alloc (.cells #[.int .i64 d] 3)) :=
  append1 .i64 25 3 8 info_int (by decide) Try.underlying25 hgd s x ho B wr v n xs d hs hx hown hn hB fun g cap w' h1 h2 h3 _ => h _ w' h1 h2 h3

theorem RowK.lt {k : IntKind} {w : World} {a : Option Addr} {n cap : Nat} {xs : List Int} (h : RowK k w a n cap xs) : cap = 0 ∨ ∀ x, a = some x → x.block < w.heap.size := by
  rcases h.2.2.2 with h0 | ⟨b, off, rfl, hb, _⟩
  · exact .inl h0
  · exact .inr fun x hx => by cases hx; exact hb
theorem NumC.lt {w : World} {neg : Bool} {a : Option Addr} {n cap : Nat} {z : Int} (h : NumC w neg a n cap z) : cap = 0 ∨ ∀ x, a = some x → x.block < w.heap.size := by
  obtain ⟨xs, h1, _⟩ := h
  exact h1.lt
/-- a row in another block than the one that may have been written stays -/
theorem RowK.grown {k : IntKind} {w w' : World} {a : Option Addr} {n cap : Nat} {xs : List Int} {row : Option Nat} (h : RowK k w a n cap xs) (hg : w.grownBy w' row) (hne : cap = 0 ∨ ∀ x, a = some x → some x.block ≠ row) : RowK k w' a n cap xs := by
  obtain ⟨h1, h2, h3, h4⟩ := h
  refine ⟨h1, h2, h3, ?_⟩
  rcases h4 with h4 | ⟨b, off, e, hlt, hc⟩
  · exact .inl h4
  rcases hne with h0 | hne
  · exact .inl h0
  · have hb := hg.block b hlt (hne _ e)
    refine .inr ⟨b, off, e, by have := hg.size; omega, fun i hi => ?_⟩
    rw [World.cell?_of_block (w := w) (a := ⟨b, off + i, none⟩) hb]
    exact hc i hi
theorem NumC.grown {w w' : World} {neg : Bool} {a : Option Addr} {n cap : Nat} {z : Int} {row : Option Nat} (h : NumC w neg a n cap z) (hg : w.grownBy w' row) (hne : cap = 0 ∨ ∀ x, a = some x → some x.block ≠ row) : NumC w' neg a n cap z := by
  obtain ⟨xs, h1, h2⟩ := h
  exact ⟨xs, h1.grown hg hne, h2⟩
/-- a call's answer: a slice that holds digits of the number z; nothing that was there has changed -/
def RetDig (w : World) (l : Nat) (z : Int) (e : Ending) (w' : World) : Prop :=
  ∃ a n c xs, e = .returned (.slice a n c) ∧ RowK .i64 w' a n c xs ∧ n = l ∧ Dig 1000 xs ∧ V 1000 xs = z ∧ Below w.heap.size w w' ∧ Fresh w.heap.size a

theorem RetDig.of_own {w w' : World} {e : TypeId} {v : Value} {n : Nat} {xs : List Int} {z : Int} (h : OwnK .i64 w' w.heap.size e v n xs) (hd : Dig 1000 xs) (hz : V 1000 xs = z) (hb : Below w.heap.size w w') :
    RetDig w n z (.returned v) w' := by
  obtain ⟨a, c, rfl, hr⟩ := RowK.of_own h
  exact ⟨a, n, c, xs, rfl, hr, rfl, hd, hz, hb, h.fresh⟩
end Go.Proofs.Ytnbhcemgoifkgaa
