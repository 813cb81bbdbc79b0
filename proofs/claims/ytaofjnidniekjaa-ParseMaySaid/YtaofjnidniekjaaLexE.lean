/- Cutting a text into tokens, plainly; slices of tokens of the call's own, and one law for their append. Conditions: those stated. -/
import Derived.Test.YtaofjnidniekjaaLexD
import Derived.Deep.AppendLies
namespace Go.Proofs.Ytaofjnidniekjaa
open Go.RowKit

structure Tok where
  k : Int
  t : ByteArray
  n : Int
  a : Int
def Tok.cells (x : Tok) : List Value := [.int .i64 x.k, .string x.t, .int .i64 x.n, .int .i64 x.a]
inductive LexR where
  | ok (l : List Tok)
  | bad (a er : Int)

/-- where a run ends -/
def rEndF (s : ByteArray) : Nat → Nat → Nat
  | 0, e => e
  | f + 1, e => if h : e < s.size then (if runB s[e] then rEndF s f (e + 1) else e) else e
def rEnd (s : ByteArray) (a : Nat) : Nat := rEndF s (s.size - a) a
theorem rEndF_ge (s : ByteArray) : ∀ f e, e ≤ rEndF s f e
  | 0, e => Nat.le_refl _
  | f + 1, e => by
    unfold rEndF
    split
    · split
      · have := rEndF_ge s f (e + 1); omega
      · omega
    · omega
theorem rEndF_le (s : ByteArray) : ∀ f e, e ≤ s.size → rEndF s f e ≤ s.size
  | 0, e, h => h
  | f + 1, e, h => by
    unfold rEndF
    split
    · split
      · exact rEndF_le s f (e + 1) (by omega)
      · exact h
    · exact h
theorem rEndF_run (s : ByteArray) : ∀ f e i, e ≤ i → i < rEndF s f e → ∀ h : i < s.size, runB s[i] = true
  | 0, e, i, h1, h2, _ => by unfold rEndF at h2; omega
  | f + 1, e, i, h1, h2, h => by
    unfold rEndF at h2
    split at h2
    · split at h2
      · rename_i hr
        by_cases he : i = e
        · subst he; exact hr
        · exact rEndF_run s f (e + 1) i (by omega) h2 h
      · omega
    · omega
theorem rEndF_step {s : ByteArray} {f e : Nat} (h : e < s.size) (hr : runB s[e] = true) : rEndF s (f + 1) e = rEndF s f (e + 1) := by
  rw [rEndF, dif_pos h, if_pos hr]
theorem rEndF_stop {s : ByteArray} {f e : Nat} (h : e < s.size) (hr : runB s[e] = false) : rEndF s f e = e := by
  cases f
  · rfl
  · rw [rEndF, dif_pos h, if_neg (by rw [hr]; decide)]
theorem rEndF_end {s : ByteArray} {f e : Nat} (h : s.size ≤ e) : rEndF s f e = e := by
  cases f
  · rfl
  · rw [rEndF, dif_neg (by omega)]
theorem rEnd_step {s : ByteArray} {a : Nat} (h : a < s.size) (hr : runB s[a] = true) : rEnd s a = rEndF s (s.size - (a + 1)) (a + 1) := by
  unfold rEnd
  rw [show s.size - a = (s.size - (a + 1)) + 1 from by omega, rEndF_step h hr]

theorem ext_size {s : ByteArray} {a e : Nat} (h : e ≤ s.size) : (s.extract a e).size = e - a := by
  rw [ByteArray.size_extract]; omega
theorem ext_get {s : ByteArray} {a e i : Nat} (h : e ≤ s.size) (hi : i < (s.extract a e).size) : (s.extract a e)[i] = s[a + i]'(by rw [ext_size h] at hi; omega) := by
  rw [ByteArray.getElem_extract]
theorem run_ext {s : ByteArray} {a : Nat} (h : a < s.size) : (s.extract a (rEnd s a)).data.toList.all runB = true := by
  have hle : rEnd s a ≤ s.size := rEndF_le s _ _ (by omega)
  rw [all_iff]
  intro i hi
  rw [ext_get hle hi]
  rw [ext_size hle] at hi
  exact rEndF_run s (s.size - a) a (a + i) (by omega) (by unfold rEnd at hi; omega) _

def isBlank (c : UInt8) : Prop := c = 32 ∨ c = 10
def isSign (c : UInt8) : Prop := c = 40 ∨ c = 41 ∨ c = 44 ∨ c = 61
instance (c : UInt8) : Decidable (isBlank c) := by unfold isBlank; infer_instance
instance (c : UInt8) : Decidable (isSign c) := by unfold isSign; infer_instance

/-- the tokens from place a on, behind those that were cut -/
def lx (s : ByteArray) : Nat → Nat → List Tok → LexR
  | 0, _, out => .ok (out ++ [⟨0, ⟨#[]⟩, 0, s.size⟩])
  | f + 1, a, out =>
    if h : a < s.size then
      if isBlank s[a] then lx s f (a + 1) out
      else if isSign s[a] then
        (if out.length = 1000 then .bad a 3 else lx s f (a + 1) (out ++ [⟨4, s.extract a (a + 1), 0, a⟩]))
      else if runB s[a] then
        (if (runR (s.extract a (rEnd s a))).1 ≠ 0 then .bad a (runR (s.extract a (rEnd s a))).1
         else if out.length = 1000 then .bad a 3
         else lx s f (rEnd s a) (out ++ [⟨(runR (s.extract a (rEnd s a))).2.1, s.extract a (rEnd s a), (runR (s.extract a (rEnd s a))).2.2, a⟩]))
      else .bad a 6
    else .ok (out ++ [⟨0, ⟨#[]⟩, 0, s.size⟩])
def lexAll (s : ByteArray) : LexR := if 4096 < s.size then .bad 0 4 else lx s s.size 0 []

section
variable {s : ByteArray} {f a : Nat} {out : List Tok}
theorem lx_end (h : s.size ≤ a) : lx s f a out = .ok (out ++ [⟨0, ⟨#[]⟩, 0, s.size⟩]) := by
  cases f
  · rfl
  · rw [lx, dif_neg (by omega)]
theorem lx_blank (h : a < s.size) (hb : isBlank s[a]) : lx s (f + 1) a out = lx s f (a + 1) out := by
  rw [lx, dif_pos h, if_pos hb]
theorem lx_sign (h : a < s.size) (hb : ¬ isBlank s[a]) (hs : isSign s[a]) (ho : ¬ out.length = 1000) : lx s (f + 1) a out = lx s f (a + 1) (out ++ [⟨4, s.extract a (a + 1), 0, a⟩]) := by
  rw [lx, dif_pos h, if_neg hb, if_pos hs, if_neg ho]
theorem lx_sign_many (h : a < s.size) (hb : ¬ isBlank s[a]) (hs : isSign s[a]) (ho : out.length = 1000) : lx s (f + 1) a out = .bad a 3 := by
  rw [lx, dif_pos h, if_neg hb, if_pos hs, if_pos ho]
theorem lx_run (h : a < s.size) (hb : ¬ isBlank s[a]) (hs : ¬ isSign s[a]) (hr : runB s[a] = true) {k n : Int} (hR : runR (s.extract a (rEnd s a)) = (0, k, n)) (ho : ¬ out.length = 1000) :
    lx s (f + 1) a out = lx s f (rEnd s a) (out ++ [⟨k, s.extract a (rEnd s a), n, a⟩]) := by
  rw [lx, dif_pos h, if_neg hb, if_neg hs, if_pos hr, hR, if_neg (by simp), if_neg ho]
theorem lx_run_many (h : a < s.size) (hb : ¬ isBlank s[a]) (hs : ¬ isSign s[a]) (hr : runB s[a] = true) {k n : Int} (hR : runR (s.extract a (rEnd s a)) = (0, k, n)) (ho : out.length = 1000) :
    lx s (f + 1) a out = .bad a 3 := by
  rw [lx, dif_pos h, if_neg hb, if_neg hs, if_pos hr, hR, if_neg (by simp), if_pos ho]
theorem lx_run_bad (h : a < s.size) (hb : ¬ isBlank s[a]) (hs : ¬ isSign s[a]) (hr : runB s[a] = true) {er k n : Int} (hR : runR (s.extract a (rEnd s a)) = (er, k, n)) (he : er ≠ 0) :
    lx s (f + 1) a out = .bad a er := by
  rw [lx, dif_pos h, if_neg hb, if_neg hs, if_pos hr, hR, if_pos he]
theorem lx_bad (h : a < s.size) (hb : ¬ isBlank s[a]) (hs : ¬ isSign s[a]) (hr : runB s[a] = false) : lx s (f + 1) a out = .bad a 6 := by
  rw [lx, dif_pos h, if_neg hb, if_neg hs, if_neg (by rw [hr]; decide)]
end

/-- the slice value v of n tokens owns them, in a block from B on -/
def OwnT (w : World) (B : Nat) (e : TypeId) (v : Value) (n : Nat) (xs : List Tok) : Prop := w.ownsRow B e 4 v n (xs.flatMap Tok.cells)
theorem OwnT.nil (w : World) (B : Nat) (e : TypeId) : OwnT w B e (.slice none 0 0) 0 [] := World.ownsRow_nil _ _ _ _
theorem OwnT.form {w : World} {B : Nat} {e : TypeId} {v : Value} {n : Nat} {xs : List Tok} (h : OwnT w B e v n xs) : ∃ a c, v = .slice a n c := by
  rcases h.2 with ⟨rfl, rfl⟩ | ⟨g, cap, cur, rfl, _⟩
  · exact ⟨none, 0, rfl⟩
  · exact ⟨_, cap, rfl⟩
theorem OwnT.below {w w' : World} {B N : Nat} {e : TypeId} {v : Value} {n : Nat} {xs : List Tok} (h : OwnT w B e v n xs) (hb : Below N w w') (hN : w.heap.size ≤ N) : OwnT w' B e v n xs := by
  obtain ⟨h1, h2⟩ := h
  refine ⟨h1, ?_⟩
  rcases h2 with h2 | ⟨g, cap, cur, hv, hg, hh, r⟩
  · exact .inl h2
  · refine .inr ⟨g, cap, cur, hv, hg, ?_, r⟩
    rw [hb.block g (by have := (Array.getElem?_eq_some_iff.1 hh).1; omega)]; exact hh
theorem OwnT.lt {w : World} {B : Nat} {e : TypeId} {v : Value} {n : Nat} {xs : List Tok} (h : OwnT w B e v n xs) {g : Nat} (hg : v.ownBlock = some g) : B ≤ g ∧ g < w.heap.size := World.ownsRow.lt h g hg

theorem OwnT.alloc {w : World} {B : Nat} {e : TypeId} {v : Value} {n : Nat} {xs : List Tok} (h : OwnT w B e v n xs) (o : Obj) : OwnT (w.alloc o) B e v n xs := World.ownsRow.alloc h o
theorem OwnT.far {w : World} {B : Nat} {e : TypeId} {v : Value} {n : Nat} {xs : List Tok} (h : OwnT w B e v n xs) {p : Addr} (hp : ∀ g, v.ownBlock = some g → g ≠ p.block) (u : Value) : OwnT (w.setCell p u) B e v n xs := by
  obtain ⟨h1, h2⟩ := h
  refine ⟨h1, ?_⟩
  rcases h2 with h2 | ⟨g, cap, cur, hv, hg, hh, r⟩
  · exact .inl h2
  · refine .inr ⟨g, cap, cur, hv, hg, ?_, r⟩
    rw [Below.heap_setCell _ _ _ _ (hp g (by rw [hv]; rfl))]; exact hh

theorem flat_get : ∀ (xs : List Tok) (i : Nat) (j : Nat), j < 4 → ∀ x, xs[i]? = some x → (xs.flatMap Tok.cells)[i * 4 + j]? = x.cells[j]?
  | [], _, _, _, _, h => by simp at h
  | y :: ys, 0, j, hj, x, h => by
    simp only [List.getElem?_cons_zero, Option.some.injEq] at h
    subst h
    rw [List.flatMap_cons, Nat.zero_mul, Nat.zero_add, List.getElem?_append_left (by simpa [Tok.cells] using hj)]
  | y :: ys, i + 1, j, hj, x, h => by
    rw [List.flatMap_cons, List.getElem?_append_right (by simp [Tok.cells]; omega)]
    have : (i + 1) * 4 + j - y.cells.length = i * 4 + j := by simp [Tok.cells]; omega
    rw [this]
    exact flat_get ys i j hj x (by simpa using h)

/-- the cells of the token at place i -/
theorem OwnT.cell {w : World} {B : Nat} {e : TypeId} {a : Option Addr} {n c : Nat} {xs : List Tok} (h : OwnT w B e (.slice a n c) n xs) {i : Nat} {x : Tok} (hi : xs[i]? = some x) :
    ∃ g, a = some ⟨g, 0, none⟩ ∧ n ≤ c ∧ g < w.heap.size ∧ ∀ j u, x.cells[j]? = some u → w.cell? ⟨g, i * 4 + j, none⟩ = some u := by
  obtain ⟨h1, h2⟩ := h
  have hlt : i < xs.length := (List.getElem?_eq_some_iff.1 hi).1
  rcases h2 with ⟨h2, h3⟩ | ⟨g, cap, cur, hv, hg, hh, hn, hm, hs, ht⟩
  · exfalso
    have h4 := flat_get xs i 0 (by omega) x hi
    have h5 := (List.getElem?_eq_some_iff.1 (h4.trans (by rfl : x.cells[0]? = some (.int .i64 x.k)))).1
    rw [h1, h3] at h5
    omega
  · cases hv
    refine ⟨g, rfl, hn, (Array.getElem?_eq_some_iff.1 hh).1, fun j u hu => ?_⟩
    have hj : j < 4 := by
      have := (List.getElem?_eq_some_iff.1 hu).1
      simpa [Tok.cells] using this
    have h4 := flat_get xs i j hj x hi
    rw [hu] at h4
    rw [cell_of_row w g _ cur e (0, 0) hh]
    have h5 : (cur.toList.take (n * 4))[i * 4 + j]? = (xs.flatMap Tok.cells)[i * 4 + j]? := by rw [ht]
    rw [h4, List.getElem?_take] at h5
    split at h5
    · rw [← Array.getElem?_toList]; exact h5
    · cases h5
theorem OwnT.len {w : World} {B : Nat} {e : TypeId} {v : Value} {n : Nat} {xs : List Tok} (h : OwnT w B e v n xs) : xs.length = n := by
  have h1 := h.1
  have : ∀ ys : List Tok, (ys.flatMap Tok.cells).length = ys.length * 4 := by
    intro ys
    induction ys with
    | nil => rfl
    | cons y ys ih => rw [List.flatMap_cons, List.length_append, ih, List.length_cons]; simp [Tok.cells]; omega
  rw [this] at h1
  omega

theorem grownT_alloc {w : World} {o : Obj} {w' : World} {row : Option Nat} (h : (w.alloc o).grownBy w' row) : w.grownBy w' row :=
  ⟨h.os, h.tape, h.output, by have := h.size; simp at this; omega, fun k hk hne => by
    rw [h.block k (by simp; omega) hne]; exact Below.heap_alloc _ _ _ hk⟩

theorem appendT (t e : TypeId) (hinfo : (Try.prog.info? e).map (fun i => (i.zero, i.size, i.bytes)) = some (some (.agg #[.int .i64 0, .string ⟨#[]⟩, .int .i64 0, .int .i64 0]), 4, 40)) (ht : Try.prog.underlying t = some (.slice e))
    {ops : Array Oper} {rest : List Oper} {o : Oper} {a : Act} {Q : Exit → Act → World → Prop} (hgd : o.guard = none) (s x : Operand)
    (ho : o.op = .call { callee := .builtin .append, args := #[s, x], argTypes := #[t, t] }) (B : Nat) (wr : World) (v : Value) (n : Nat) (xs : List Tok) (d : Tok)
    (hs : a.eval s = v) (hz : Nat) (hx : a.eval x = .slice (some ⟨hz, 0, none⟩) 1 1) (hzz : wr.heap.size = hz) (hown : OwnT wr B e v n xs) (hn : n ≤ 100000) (hB : B ≤ wr.heap.size)
    (h : ∀ v' w', OwnT w' B e v' (n + 1) (xs ++ [d]) → (∀ w0, Below B w0 wr → Below B w0 w') → wr.grownBy w' v.ownBlock → wpList Try.prog ops Q rest (a.put o.dst v') w') :
    wpList Try.prog ops Q (o :: rest) a (wr.alloc (.cells #[.int .i64 d.k, .string d.t, .int .i64 d.n, .int .i64 d.a] e)) := by
  subst hzz
  obtain ⟨i0, hi, hz0, hz1, hz2⟩ := info_parts hinfo
  refine wpList_append_lies _ hgd s x t ho B e i0 _ 4 40 ht hi hz0 hz1 hz2 rfl (by decide) v n _ hs (World.ownsRow.alloc hown _) ⟨wr.heap.size, 0, none⟩ 1 1 d.cells hx rfl ?c1 ?c2 (by decide) ?c3 ?c4 ?c5 _ rfl ?_
  case c1 =>
    intro j u hj
    have hc : (wr.alloc (.cells #[.int .i64 d.k, .string d.t, .int .i64 d.n, .int .i64 d.a] e)).cell? ⟨wr.heap.size, j, none⟩ = some u := by
      rw [cell_of_row _ _ _ _ e (0, 0) (heap_alloc_new wr _)]
      unfold Tok.cells at hj
      match j, hj with
      | 0, hj => simpa using hj
      | 1, hj => simpa using hj
      | 2, hj => simpa using hj
      | 3, hj => simpa using hj
      | j + 4, hj => simp at hj
    unfold Addr.add
    split
    · rename_i h0; rw [h0] at hc; exact hc
    · simpa using hc
  case c2 => intro u hu; unfold Tok.cells at hu; simp at hu; rcases hu with rfl | rfl | rfl | rfl <;> rfl
  case c3 => unfold maxLen; omega
  case c4 => omega
  case c5 => simp; omega
  intro g cap w' h1 h2 h4 _
  have h3 := grownT_alloc h2
  exact h _ w' (by unfold OwnT; rw [List.flatMap_append]; simpa using h1) (fun w0 hb => hb.grown h3 hB fun k hk => (World.ownsRow.lt hown k hk).1) h3

/-- a call's answer: the tokens, or the place and the error -/
def RetLex (T : TypeId) (w : World) (R : LexR) (e : Ending) (w' : World) : Prop :=
  (∃ l v, R = .ok l ∧ e = .returned (.tuple #[v, .int .i64 0, .int .i64 0]) ∧ OwnT w' w.heap.size T v l.length l ∧ Below w.heap.size w w') ∨
  (∃ a er, R = .bad a er ∧ er ≠ 0 ∧ e = .returned (.tuple #[.slice none 0 0, .int .i64 a, .int .i64 er]) ∧ Below w.heap.size w w')
end Go.Proofs.Ytaofjnidniekjaa
