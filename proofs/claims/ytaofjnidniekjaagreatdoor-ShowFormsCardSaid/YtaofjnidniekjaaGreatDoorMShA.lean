/- A text that is put together of tokens and blanks is cut into these tokens (plain). No conditions. -/
import Derived.Test.YtaofjnidniekjaaGreatDoorMLxA
import Derived.Test.YtaofjnidniekjaaGreatDoorMPaA
namespace Go.Proofs.YtaofjnidniekjaaGreatDoor
open Go.RowKit

/-- the text of tokens (some) and blanks (none) -/
def putT : List (Option Tok) → List UInt8
 | [] => []
 | none :: r => 32 :: putT r
 | some x :: r => x.t.data.toList ++ putT r
theorem putT_append : ∀ (a b : List (Option Tok)), putT (a ++ b) = putT a ++ putT b
 | [], _ => rfl
 | none :: a, b => by rw [List.cons_append, putT, putT, putT_append a b]; rfl
 | some x :: a, b => by rw [List.cons_append, putT, putT, putT_append a b, List.append_assoc]
/-- a word, a name or a number may end here -/
def runEnd : List (Option Tok) → Prop
 | [] => True
 | none :: _ => True
 | some y :: _ => y.k = 4
def SepT : List (Option Tok) → Prop
 | [] => True
 | none :: r => SepT r
 | some x :: r => (x.k = 4 ∨ runEnd r) ∧ SepT r
theorem runEnd_append {a b : List (Option Tok)} (ha : runEnd a) (hb : runEnd b) : runEnd (a ++ b) := by
 cases a with
 | nil => exact hb
 | cons x a => cases x <;> exact ha
theorem SepT_append {b : List (Option Tok)} (hb : SepT b) (hr : runEnd b) : ∀ {a : List (Option Tok)}, SepT a → SepT (a ++ b)
 | [], _ => hb
 | none :: a, ha => SepT_append hb hr (a := a) ha
 | some _ :: _, ha => ⟨ha.1.imp id fun h => runEnd_append h hr, SepT_append hb hr ha.2⟩
theorem rEndF_to {t : ByteArray} : ∀ (u : List UInt8) (a f : Nat) (r : List UInt8), t.data.toList.drop a = u ++ r → (∀ x ∈ u, runB x = true) → (r = [] ∨ ∃ c r', r = c :: r' ∧ runB c = false) → u.length ≤ f → rEndF t f a = a + u.length
 | [], a, f, r, h, _, hc, _ => by
  rcases hc with rfl | ⟨c, r', rfl, hc⟩
  ·have : t.size ≤ a := by
    have := congrArg List.length h
    rw [List.length_drop] at this; simp at this; omega
   exact rEndF_end this
  ·obtain ⟨hlt, e⟩ := get_drop h
   exact rEndF_stop hlt (by rw [e]; exact hc)
 | x :: u, a, f, r, h, hu, hc, hf => by
  obtain ⟨hlt, e⟩ := get_drop h
  obtain ⟨g, rfl⟩ : ∃ g, f = g + 1 := ⟨f - 1, by rw [List.length_cons] at hf; omega⟩
  rw [rEndF_step hlt (by rw [e]; exact hu x List.mem_cons_self)]
  have h2 : t.data.toList.drop (a + 1) = u ++ r := drop_more (u := [x]) h
  rw [rEndF_to u (a + 1) g r h2 (fun y hy => hu y (List.mem_cons_of_mem _ hy)) hc (by rw [List.length_cons] at hf; omega), List.length_cons]
  omega
theorem good_sign {x : Tok} (h : Good x) (hk : x.k = 4) : ∃ c, isSign c ∧ x.t = ⟨#[c]⟩ := by
 rcases h with ⟨_, _, h⟩ | ⟨_, _, hR⟩
 ·exact h
 ·rcases runR_kind _ _ _ hR with h | h | h <;> omega
theorem runEnd_to {xs : List (Option Tok)} (hg : ∀ x, some x ∈ xs → Good x) (h : runEnd xs) : putT xs = [] ∨ ∃ c r', putT xs = c :: r' ∧ runB c = false := by
 cases xs with
 | nil => exact .inl rfl
 | cons x r => cases x with
  | none => exact .inr ⟨32, _, rfl, by decide⟩
  | some y =>
   obtain ⟨c, hc, ht⟩ := good_sign (hg y List.mem_cons_self) h
   refine .inr ⟨c, putT r, ?_, by rcases hc with rfl | rfl | rfl | rfl <;> decide⟩
   rw [putT, ht]; rfl

theorem lx_put (t : ByteArray) : ∀ (xs : List (Option Tok)) (a f : Nat) (out L : List Tok), (∀ x, some x ∈ xs → Good x) → SepT xs →
    t.data.toList.drop a = putT xs → t.size ≤ a + f → lx t f a out = .ok L → ∃ ys, L = out ++ ys ++ [⟨0, ⟨#[]⟩, 0, t.size⟩] ∧ ys.map core = (xs.filterMap id).map core
  | [], a, f, out, L, _, _, hd, hf, hL => by
    have h3 : t.size ≤ a := by
      have := congrArg List.length hd
      rw [List.length_drop] at this; simp [putT] at this; omega
    rw [lx_end h3] at hL
    injection hL with hL
    exact ⟨[], by rw [← hL]; simp, rfl⟩
  | none :: xs, a, f, out, L, hg, hs, hd, hf, hL => by
    rw [putT] at hd
    obtain ⟨hlt, e⟩ := get_drop hd
    have h2 : t.data.toList.drop (a + 1) = putT xs := drop_more (u := [32]) hd
    obtain ⟨g, rfl⟩ : ∃ g, f = g + 1 := ⟨f - 1, by omega⟩
    rw [lx_blank hlt (by rw [e]; exact .inl rfl)] at hL
    exact lx_put t xs (a + 1) g out L (fun x hx => hg x (List.mem_cons_of_mem _ hx)) hs h2 (by omega) hL
  | some x :: xs, a, f, out, L, hg, hs, hd, hf, hL => by
    have hx := hg x List.mem_cons_self
    have hxs : ∀ y, some y ∈ xs → Good y := fun y hy => hg y (List.mem_cons_of_mem _ hy)
    obtain ⟨hs1, hs2⟩ := hs
    rw [putT] at hd
    rcases hx with ⟨hk, hn, c, hc, ht⟩ | ⟨h0, hall, hR⟩
    · rw [ht] at hd
      have hd1 : t.data.toList.drop a = c :: putT xs := hd
      obtain ⟨hlt, e⟩ := get_drop hd1
      have hd2 : t.data.toList.drop (a + 1) = putT xs := drop_more (u := [c]) hd1
      obtain ⟨g, rfl⟩ : ∃ g, f = g + 1 := ⟨f - 1, by omega⟩
      have hnb : ¬ isBlank t[a] := by rw [e]; rcases hc with rfl | rfl | rfl | rfl <;> decide
      by_cases ho : out.length = 1000
      · rw [lx_sign_many hlt hnb (by rw [e]; exact hc) ho] at hL; cases hL
      rw [lx_sign hlt hnb (by rw [e]; exact hc) ho] at hL
      obtain ⟨ys, h1, h2⟩ := lx_put t xs (a + 1) g _ L hxs hs2 hd2 (by omega) hL
      refine ⟨⟨4, t.extract a (a + 1), 0, a⟩ :: ys, by rw [h1]; simp, ?_⟩
      rw [List.map_cons, h2, ext_one hlt, e]
      show _ = core x :: _
      unfold core
      rw [hk, hn, ht]
    · have hre : runEnd xs := hs1.resolve_left (fun h => by rcases runR_kind _ _ _ hR with h' | h' | h' <;> omega)
      have hu : ∀ y ∈ x.t.data.toList, runB y = true := List.all_eq_true.1 hall
      obtain ⟨c, u, hcu⟩ : ∃ c u, x.t.data.toList = c :: u := by
        cases hh : x.t.data.toList with
        | nil => have : x.t.data.toList.length = x.t.size := by simp
                 rw [hh] at this; simp at this; omega
        | cons c u => exact ⟨c, u, rfl⟩
      have hd1 : t.data.toList.drop a = c :: (u ++ putT xs) := by rw [hd, hcu]; rfl
      obtain ⟨hlt, e⟩ := get_drop hd1
      have hrc : runB c = true := hu c (by rw [hcu]; exact List.mem_cons_self)
      obtain ⟨hnb, hns⟩ := run_noblank hrc
      have hlen : x.t.data.toList.length = x.t.size := by simp
      have htl : t.data.toList.length = t.size := by simp
      have hsz : a + x.t.size ≤ t.size := by
        have := congrArg List.length hd
        rw [List.length_drop, List.length_append, hlen, htl] at this; omega
      have hE : rEnd t a = a + x.t.size := by
        unfold rEnd
        rw [rEndF_to x.t.data.toList a (t.size - a) _ hd hu (runEnd_to hxs hre) (by omega), hlen]
      have hext : t.extract a (rEnd t a) = x.t := by
        apply ba_ext
        rw [ext_list, hE, hd, show a + x.t.size - a = x.t.data.toList.length from by omega, List.take_left]
      have hd2 : t.data.toList.drop (a + x.t.size) = putT xs := by rw [← hlen]; exact drop_more hd
      obtain ⟨g, rfl⟩ : ∃ g, f = g + 1 := ⟨f - 1, by omega⟩
      by_cases ho : out.length = 1000
      · rw [lx_run_many hlt (by rw [e]; exact hnb) (by rw [e]; exact hns) (by rw [e]; exact hrc) (by rw [hext]; exact hR) ho] at hL; cases hL
      rw [lx_run hlt (by rw [e]; exact hnb) (by rw [e]; exact hns) (by rw [e]; exact hrc) (by rw [hext]; exact hR) ho, hE] at hL
      obtain ⟨ys, h1, h2⟩ := lx_put t xs (a + x.t.size) g _ L hxs hs2 hd2 (by omega) hL
      refine ⟨⟨x.k, t.extract a (a + x.t.size), x.n, a⟩ :: ys, by rw [h1]; simp, ?_⟩
      rw [List.map_cons, h2]
      rw [hE] at hext
      show _ = core x :: _
      unfold core
      rw [hext]
/-- a text of tokens and blanks that is cut at all is cut into these tokens -/
theorem lex_put (t : ByteArray) (xs : List (Option Tok)) (L : List Tok) (hg : ∀ x, some x ∈ xs → Good x) (hs : SepT xs) (ht : t.data.toList = putT xs) (h : lexAll t = .ok L) :
  ∃ ys, L = ys ++ [⟨0, ⟨#[]⟩, 0, t.size⟩] ∧ ys.map core = (xs.filterMap id).map core := by
 unfold lexAll at h
 split at h
 ·cases h
 ·obtain ⟨ys, h1, h2⟩ := lx_put t xs 0 t.size [] L hg hs (by rw [List.drop_zero]; exact ht) (by omega) h
  exact ⟨ys, by rw [h1]; rfl, h2⟩
end Go.Proofs.YtaofjnidniekjaaGreatDoor
/- What a query's text is, and that it is read as the query (plain), first part: tokens, columns, lists. No conditions but those stated. -/
namespace Go.Proofs.YtaofjnidniekjaaGreatDoor
open Go.RowKit

def tW (w : List UInt8) : Tok := ⟨1, ⟨⟨w⟩⟩, 0, 0⟩
def tG (c : UInt8) : Tok := ⟨4, ⟨#[c]⟩, 0, 0⟩
def tN (s : ByteArray) : Tok := ⟨2, s, 0, 0⟩
def tD (T : Int → ByteArray) (n : Int) : Tok := ⟨3, T n, n, 0⟩
/-- the tokens xs lie in L from place i on -/
def AtT (L : List Tok) (i : Nat) (xs : List Tok) : Prop := ∃ r, (L.drop i).map core = xs.map core ++ r
theorem AtT.left {L : List Tok} {i : Nat} {xs ys : List Tok} (h : AtT L i (xs ++ ys)) : AtT L i xs := by
 obtain ⟨r, h⟩ := h
 exact ⟨ys.map core ++ r, by rw [h, List.map_append, List.append_assoc]⟩
theorem AtT.right {L : List Tok} {i : Nat} {xs ys : List Tok} (h : AtT L i (xs ++ ys)) : AtT L (i + xs.length) ys := by
 obtain ⟨r, h⟩ := h
 refine ⟨r, ?_⟩
 rw [← List.drop_drop, List.map_drop, h, List.map_append, List.append_assoc]
 have : xs.length = (xs.map core).length := by rw [List.length_map]
 rw [this, List.drop_left]
theorem AtT.head {L : List Tok} {i : Nat} {x : Tok} {xs : List Tok} (h : AtT L i (x :: xs)) : core (tokAt L i) = core x := by
 obtain ⟨r, h⟩ := h
 have h1 : ((L.drop i).map core)[0]? = some (core x) := by rw [h]; rfl
 rw [List.getElem?_map, List.getElem?_drop, Nat.add_zero] at h1
 unfold tokAt
 rw [List.getD_eq_getElem?_getD]
 cases hx : L[i]? with
 | none => rw [hx] at h1; cases h1
 | some y => rw [hx] at h1; simpa using h1
theorem AtT.tail {L : List Tok} {i : Nat} {x : Tok} {xs : List Tok} (h : AtT L i (x :: xs)) : AtT L (i + 1) xs := AtT.right (xs := [x]) h
theorem core_k {x y : Tok} (h : core x = core y) : x.k = y.k ∧ x.t = y.t ∧ x.n = y.n := by
 unfold core at h
 injection h with h1 h2
 injection h2 with h2 h3
 exact ⟨h1, h2, h3⟩
theorem word_yes {L : List Tok} {i : Nat} {x : Tok} {xs : List Tok} (h : AtT L i (x :: xs)) (hk : x.k = 1 ∨ x.k = 4) {w : List UInt8} (hw : x.t.data.toList = w) : wordAt L i w = true := by
 obtain ⟨h1, h2, -⟩ := core_k h.head
 unfold wordAt
 rw [h1, h2]
 exact decide_eq_true ⟨hk, hw⟩
theorem word_no {L : List Tok} {i : Nat} {x : Tok} {xs : List Tok} (h : AtT L i (x :: xs)) {w : List UInt8} (hw : (x.k ≠ 1 ∧ x.k ≠ 4) ∨ x.t.data.toList ≠ w) : wordAt L i w = false := by
 obtain ⟨h1, h2, -⟩ := core_k h.head
 unfold wordAt
 rw [h1, h2]
 exact decide_eq_false (fun hh => hw.elim (fun k => hh.1.elim k.1 k.2) (fun k => k hh.2))
theorem want_yes {L : List Tok} {i : Nat} {x : Tok} {xs : List Tok} (h : AtT L i (x :: xs)) (hk : x.k = 1 ∨ x.k = 4) {w : List UInt8} (hw : x.t.data.toList = w) : wantS L i w = .ok (i + 1) := by
 unfold wantS; rw [word_yes h hk hw]; rfl
theorem num_yes {L : List Tok} {i : Nat} {T : Int → ByteArray} {n : Int} {xs : List Tok} (h : AtT L i (tD T n :: xs)) : numT L i = .ok (i + 1, n) := by
 obtain ⟨h1, -, h3⟩ := core_k h.head
 unfold numT
 rw [if_pos (show (tokAt L i).k = 3 from h1), h3]; rfl
theorem name_yes {L : List Tok} {i : Nat} {s : ByteArray} {xs : List Tok} (h : AtT L i (tN s :: xs)) {names : List ByteArray} {d : Nat} (hd : place names s = d) : nameS names L i = .ok (i + 1, d) := by
 obtain ⟨h1, h2, -⟩ := core_k h.head
 unfold nameS
 have h2 : (tokAt L i).t = s := h2
 rw [if_pos (show (tokAt L i).k = 2 from h1), h2, hd, if_neg (by omega)]
 rfl
/-- a column's tokens -/
def shCol (meas : List ByteArray) (c : Int × Int) : List Tok := if c.1 = 0 then [tW [99, 111, 117, 110, 116]] else [tW (aggW.getD c.1.toNat []), tG 40, tN (meas.getD c.2.toNat ByteArray.empty), tG 41]
theorem col_read {L : List Tok} {meas : List ByteArray} {c : Int × Int} {i : Nat} (q : QP) (h : AtT L i (shCol meas c)) (hk : 0 ≤ c.1 ∧ c.1 ≤ 6) (h0 : c.1 = 0 → c.2 = 0) (hm : c.1 ≠ 0 → place meas (meas.getD c.2.toNat ByteArray.empty) = c.2) (hc : 0 ≤ c.2) : colS meas L i q = .ok (i + (shCol meas c).length, { q with cols := q.cols ++ [c] }) := by
 obtain ⟨k, m⟩ := c
 dsimp only at hk h0 hm hc
 obtain ⟨j, rfl⟩ : ∃ j : Nat, k = (j : Int) := ⟨k.toNat, by omega⟩
 obtain ⟨n, rfl⟩ : ∃ j : Nat, m = (j : Int) := ⟨m.toNat, by omega⟩
 by_cases hj : j = 0
 ·subst hj
  obtain rfl : n = 0 := by have := h0 rfl; omega
  have hx : shCol meas (((0 : Nat) : Int), ((0 : Nat) : Int)) = [tW [99, 111, 117, 110, 116]] := rfl
  rw [hx] at h ⊢
  have hw : kindAt L i aggW 0 = some 0 := by
   unfold aggW kindAt
   rw [word_yes h (.inl rfl) (w := [99, 111, 117, 110, 116]) rfl, if_pos rfl]
  unfold colS
  rw [hw]
  rfl
 ·have hx : shCol meas ((j : Int), (n : Int)) = [tW (aggW.getD j []), tG 40, tN (meas.getD n ByteArray.empty), tG 41] := by
   unfold shCol
   rw [if_neg (by dsimp only; omega)]
   rfl
  rw [hx] at h ⊢
  have hp := hm (by omega)
  have hw : kindAt L i aggW 0 = some j := by
   have hj6 : j = 1 ∨ j = 2 ∨ j = 3 ∨ j = 4 ∨ j = 5 ∨ j = 6 := by omega
   unfold aggW
   have hn : ∀ w, (aggW.getD j []) ≠ w → wordAt L i w = false := fun w hne => word_no h (.inr hne)
   have hy : wordAt L i (aggW.getD j []) = true := word_yes h (.inl rfl) rfl
   rcases hj6 with rfl | rfl | rfl | rfl | rfl | rfl
   all_goals
    simp only [aggW, List.getD_cons_zero, List.getD_cons_succ] at hn hy
    simp only [kindAt]
    repeat (first | rw [hy, if_pos rfl] | rw [hn _ (by decide), if_neg (by decide)])
  obtain ⟨k, rfl⟩ : ∃ k, j = k + 1 := ⟨j - 1, by omega⟩
  unfold colS
  rw [hw]
  dsimp only
  rw [want_yes h.tail (.inr rfl) (w := [40]) rfl]
  show (nameS meas L (i + 1 + 1) >>= _) = _
  rw [name_yes h.tail.tail hp]
  show (wantS L (i + 1 + 1 + 1) [41] >>= _) = _
  rw [want_yes h.tail.tail.tail (.inr rfl) (w := [41]) rfl]
  rfl
/-- lists of tokens with one between -/
def sepL (b : Tok) : List (List Tok) → List Tok
 | [] => []
 | [x] => x
 | x :: y :: r => x ++ b :: sepL b (y :: r)
theorem list_read {σ α : Type} (one : Nat → σ → Except (Nat × Nat) (Nat × σ)) (E : α → List Tok) (push : σ → α → σ) (R : List α → σ → Prop) (L : List Tok) (bt : Tok) (b : List UInt8) (hbk : bt.k = 1 ∨ bt.k = 4) (hbw : bt.t.data.toList = b)
  (C : Nat → Prop) (hC : ∀ j xs, AtT L j (bt :: xs) → C j)
  (h1 : ∀ x l i q, R (x :: l) q → AtT L i (E x) → C (i + (E x).length) → one i q = .ok (i + (E x).length, push q x) ∧ R l (push q x)) :
  ∀ (l : List α) (x : α) (f i : Nat) (q : σ), l.length < f → R (x :: l) q → AtT L i (sepL bt ((x :: l).map E)) → wordAt L (i + (sepL bt ((x :: l).map E)).length) b = false → C (i + (sepL bt ((x :: l).map E)).length) →
   listS one L b f i q = .ok (i + (sepL bt ((x :: l).map E)).length, (x :: l).foldl push q)
 | [], x, f, i, q, hf, hR, hA, hw, hc => by
  obtain ⟨g, rfl⟩ : ∃ g, f = g + 1 := ⟨f - 1, by simp at hf; omega⟩
  have hA' : AtT L i (E x) := hA
  obtain ⟨h2, -⟩ := h1 x [] i q hR hA' hc
  have hw' : wordAt L (i + (E x).length) b = false := hw
  unfold listS
  rw [h2]
  show (if wordAt L (i + (E x).length) b = true then _ else _) = _
  rw [if_neg (by rw [hw']; decide)]
  rfl
 | y :: l, x, f, i, q, hf, hR, hA, hw, hc => by
  obtain ⟨g, rfl⟩ : ∃ g, f = g + 1 := ⟨f - 1, by simp at hf; omega⟩
  have hs : sepL bt ((x :: y :: l).map E) = E x ++ bt :: sepL bt ((y :: l).map E) := rfl
  rw [hs] at hA hw hc ⊢
  have hB : AtT L (i + (E x).length) (bt :: sepL bt ((y :: l).map E)) := hA.right
  obtain ⟨h2, h3⟩ := h1 x (y :: l) i q hR hA.left (hC _ _ hB)
  have hlen : i + (E x ++ bt :: sepL bt ((y :: l).map E)).length = i + (E x).length + 1 + (sepL bt ((y :: l).map E)).length := by
   rw [List.length_append, List.length_cons]; omega
  rw [hlen] at hw hc ⊢
  have h4 := list_read one E push R L bt b hbk hbw C hC h1 l y g (i + (E x).length + 1) (push q x) (by rw [List.length_cons] at hf; omega) h3 hB.tail hw hc
  rw [listS, h2]
  show (if wordAt L (i + (E x).length) b = true then listS one L b g (i + (E x).length + 1) (push q x) else _) = _
  rw [if_pos (word_yes hB hbk hbw), h4]
  rfl
/-- the order's tokens -/
def shOrd (T : Int → ByteArray) (o : Int × Bool) : List Tok := tD T (o.1 + 1) :: (if o.2 then [tW [100, 101, 115, 99]] else [])
theorem ord_read {L : List Tok} {T : Int → ByteArray} {o : Int × Bool} {i : Nat} (q : QP) (h : AtT L i (shOrd T o)) (hd : wordAt L (i + (shOrd T o).length) [100, 101, 115, 99] = false) (ha : wordAt L (i + (shOrd T o).length) [97, 115, 99] = false) :
  ordS L i q = .ok (i + (shOrd T o).length, { q with ord := q.ord ++ [o] }) := by
 obtain ⟨c, d⟩ := o
 unfold ordS
 rw [num_yes h]
 have e : c + 1 - 1 = c := by omega
 cases d with
 | false =>
  have hd' : wordAt L (i + 1) [100, 101, 115, 99] = false := hd
  have ha' : wordAt L (i + 1) [97, 115, 99] = false := ha
  show (if wordAt L (i + 1) [100, 101, 115, 99] = true then _ else if wordAt L (i + 1) [97, 115, 99] = true then _ else _) = _
  rw [if_neg (by rw [hd']; decide), if_neg (by rw [ha']; decide)]
  show Except.ok (i + 1, { q with ord := q.ord ++ [(c + 1 - 1, false)] }) = _
  rw [e]
  rfl
 | true =>
  have hw : wordAt L (i + 1) [100, 101, 115, 99] = true := word_yes (x := tW [100, 101, 115, 99]) (xs := []) h.tail (.inl rfl) rfl
  show (if wordAt L (i + 1) [100, 101, 115, 99] = true then _ else _) = _
  rw [if_pos hw]
  show Except.ok (i + 1 + 1, { q with ord := q.ord ++ [(c + 1 - 1, true)] }) = _
  rw [e]
  rfl
/-- a filter's tokens -/
def shCond (T : Int → ByteArray) (dims : List ByteArray) (f : Int × List Int) : List Tok :=
 tN (dims.getD f.1.toNat ByteArray.empty) :: (match f.2 with
  | [n] => [tG 61, tD T n]
  | l => tW [105, 110] :: tG 40 :: (sepL (tG 44) (l.map fun n => [tD T n]) ++ [tG 41]))
/-- numsS as a list of numbers -/
theorem nums_read {L : List Tok} {T : Int → ByteArray} : ∀ (l : List Int) (x : Int) (f i : Nat) (acc : List Int), l.length < f → AtT L i (sepL (tG 44) ((x :: l).map fun n => [tD T n])) → wordAt L (i + (sepL (tG 44) ((x :: l).map fun n => [tD T n])).length) [44] = false →
  numsS L f i acc = .ok (i + (sepL (tG 44) ((x :: l).map fun n => [tD T n])).length, acc ++ x :: l)
 | [], x, f, i, acc, hf, hA, hw => by
  obtain ⟨g, rfl⟩ : ∃ g, f = g + 1 := ⟨f - 1, by simp at hf; omega⟩
  have hA' : AtT L i [tD T x] := hA
  have hw' : wordAt L (i + 1) [44] = false := hw
  unfold numsS
  rw [num_yes hA']
  show (if wordAt L (i + 1) [44] = true then _ else _) = _
  rw [if_neg (by rw [hw']; decide)]
  rfl
 | y :: l, x, f, i, acc, hf, hA, hw => by
  obtain ⟨g, rfl⟩ : ∃ g, f = g + 1 := ⟨f - 1, by simp at hf; omega⟩
  have hs : sepL (tG 44) ((x :: y :: l).map fun n => [tD T n]) = tD T x :: tG 44 :: sepL (tG 44) ((y :: l).map fun n => [tD T n]) := rfl
  rw [hs] at hA hw ⊢
  have hB := hA.tail
  have hlen : i + (tD T x :: tG 44 :: sepL (tG 44) ((y :: l).map fun n => [tD T n])).length = i + 1 + 1 + (sepL (tG 44) ((y :: l).map fun n => [tD T n])).length := by
   rw [List.length_cons, List.length_cons]; omega
  rw [hlen] at hw ⊢
  have h4 := nums_read l y g (i + 1 + 1) (acc ++ [x]) (by rw [List.length_cons] at hf; omega) hB.tail hw
  rw [numsS, num_yes hA]
  show (if wordAt L (i + 1) [44] = true then numsS L g (i + 1 + 1) (acc ++ [x]) else _) = _
  rw [if_pos (word_yes hB (.inr rfl) (w := [44]) rfl), h4, List.append_assoc]
  rfl
theorem AtT.len {L : List Tok} {i : Nat} {xs : List Tok} (h : AtT L i xs) : xs.length ≤ L.length - i := by
 obtain ⟨r, h⟩ := h
 have := congrArg List.length h
 rw [List.length_map, List.length_drop, List.length_append, List.length_map] at this
 omega
theorem sepL_len {α : Type} (b : Tok) (t : α → Tok) : ∀ (l : List α), l.length ≤ (sepL b (l.map fun x => [t x])).length
 | [] => Nat.le_refl _
 | [x] => Nat.le_refl _
 | x :: y :: l => by
  have h := sepL_len b t (y :: l)
  exact Nat.le_trans (Nat.succ_le_succ h) (Nat.le_succ _)
theorem cond_read {L : List Tok} {T : Int → ByteArray} {dims : List ByteArray} {f : Int × List Int} {i : Nat} (q : QP) (h : AtT L i (shCond T dims f)) (hp : place dims (dims.getD f.1.toNat ByteArray.empty) = f.1) (h0 : 0 ≤ f.1) :
  condS dims L i q = .ok (i + (shCond T dims f).length, { q with flts := q.flts ++ [f] }) := by
 obtain ⟨d, cs⟩ := f
 obtain ⟨k, rfl⟩ : ∃ k : Nat, d = (k : Int) := ⟨d.toNat, by dsimp only at h0; omega⟩
 dsimp only at hp
 have hn := name_yes h (d := k) hp
 unfold condS
 rw [hn]
 match cs, h with
 | [n], h =>
  have hx : shCond T dims ((k : Int), [n]) = [tN (dims.getD k ByteArray.empty), tG 61, tD T n] := rfl
  rw [hx] at h ⊢
  show (if wordAt L (i + 1) [61] = true then _ else _) = _
  rw [if_pos (word_yes h.tail (.inr rfl) (w := [61]) rfl)]
  show (numT L (i + 1 + 1) >>= _) = _
  rw [num_yes h.tail.tail]
  rfl
 | [], h =>
  have hx : shCond T dims ((k : Int), []) = [tN (dims.getD k ByteArray.empty), tW [105, 110], tG 40, tG 41] := rfl
  rw [hx] at h ⊢
  show (if wordAt L (i + 1) [61] = true then _ else _) = _
  rw [if_neg (by rw [word_no h.tail (w := [61]) (.inr (by decide))]; decide)]
  show (wantS L (i + 1) [105, 110] >>= _) = _
  rw [want_yes h.tail (.inl rfl) (w := [105, 110]) rfl]
  show (wantS L (i + 1 + 1) [40] >>= _) = _
  rw [want_yes h.tail.tail (.inr rfl) (w := [40]) rfl]
  show (if wordAt L (i + 1 + 1 + 1) [41] = true then _ else _) = _
  rw [if_pos (word_yes h.tail.tail.tail (.inr rfl) (w := [41]) rfl)]
  rfl
 | x :: y :: l, h =>
  have hx : shCond T dims ((k : Int), x :: y :: l) = tN (dims.getD k ByteArray.empty) :: tW [105, 110] :: tG 40 :: (sepL (tG 44) ((x :: y :: l).map fun n => [tD T n]) ++ [tG 41]) := rfl
  rw [hx] at h ⊢
  show (if wordAt L (i + 1) [61] = true then _ else _) = _
  rw [if_neg (by rw [word_no h.tail (w := [61]) (.inr (by decide))]; decide)]
  show (wantS L (i + 1) [105, 110] >>= _) = _
  rw [want_yes h.tail (.inl rfl) (w := [105, 110]) rfl]
  show (wantS L (i + 1 + 1) [40] >>= _) = _
  rw [want_yes h.tail.tail (.inr rfl) (w := [40]) rfl]
  have hA := h.tail.tail.tail
  have hA1 : AtT L (i + 1 + 1 + 1) (tD T x :: tG 44 :: sepL (tG 44) ((y :: l).map fun n => [tD T n])) := hA.left
  show (if wordAt L (i + 1 + 1 + 1) [41] = true then _ else _) = _
  rw [if_neg (by rw [word_no hA1 (w := [41]) (.inl ⟨by show (3 : Int) ≠ 1; decide, by show (3 : Int) ≠ 4; decide⟩)]; decide)]
  have hl : (y :: l).length < L.length := by
   have h1 := hA.left.len
   have h2 := sepL_len (tG 44) (tD T) (x :: y :: l)
   rw [List.length_cons] at h2
   omega
  have hr := hA.right
  show (numsS L L.length (i + 1 + 1 + 1) [] >>= _) = _
  rw [nums_read (y :: l) x L.length (i + 1 + 1 + 1) [] hl hA.left (word_no hr (w := [44]) (.inr (by decide)))]
  show (wantS L (i + 1 + 1 + 1 + (sepL (tG 44) ((x :: y :: l).map fun n => [tD T n])).length) [41] >>= _) = _
  rw [want_yes hr (.inr rfl) (w := [41]) rfl]
  show Except.ok (i + 1 + 1 + 1 + (sepL (tG 44) ((x :: y :: l).map fun n => [tD T n])).length + 1, _) = _
  have hlen : i + (tN (dims.getD k ByteArray.empty) :: tW [105, 110] :: tG 40 :: (sepL (tG 44) ((x :: y :: l).map fun n => [tD T n]) ++ [tG 41])).length = i + 1 + 1 + 1 + (sepL (tG 44) ((x :: y :: l).map fun n => [tD T n])).length + 1 := by
   rw [List.length_cons, List.length_cons, List.length_cons, List.length_append]
   show i + ((sepL (tG 44) ((x :: y :: l).map fun n => [tD T n])).length + 1 + 1 + 1 + 1) = _
   omega
  rw [hlen]
  rfl
end Go.Proofs.YtaofjnidniekjaaGreatDoor
/- What a query's text is, and that it is read as the query (plain), second part: groups, parts, the whole. No conditions but those stated. -/
namespace Go.Proofs.YtaofjnidniekjaaGreatDoor
open Go.RowKit

/-- the dimensions of a group -/
def gList (G n : Nat) : List Nat := (List.range n).filter fun d => decide (G / 2 ^ d % 2 = 1)
theorem gList_succ (G n : Nat) : gList G (n + 1) = gList G n ++ (if G / 2 ^ n % 2 = 1 then [n] else []) := by
 unfold gList
 rw [List.range_succ, List.filter_append]
 congr 1
 by_cases h : G / 2 ^ n % 2 = 1
 ·rw [if_pos h, List.filter_cons_of_pos (by simp [h])]; rfl
 ·rw [if_neg h, List.filter_cons_of_neg (by simp [h])]; rfl
theorem gList_lt {G n d : Nat} (h : d ∈ gList G n) : d < n := by
 unfold gList at h
 exact List.mem_range.1 (List.mem_filter.1 h).1
def gPush (q : QP) (d : Nat) : QP := { q with group := q.group + 2 ^ d }
theorem gPush_fold : ∀ (l : List Nat) (q : QP), l.foldl gPush q = { q with group := l.foldl (fun a d => a + 2 ^ d) q.group }
 | [], _ => rfl
 | d :: l, q => by rw [List.foldl_cons, gPush_fold l, List.foldl_cons]; rfl
theorem gList_sum (G : Nat) : ∀ n, (gList G n).foldl (fun (a : Int) d => a + 2 ^ d) 0 = ((G % 2 ^ n : Nat) : Int)
 | 0 => by rw [Nat.pow_zero, Nat.mod_one]; rfl
 | n + 1 => by
  rw [gList_succ, List.foldl_append, gList_sum G n, Nat.mod_pow_succ]
  have e : ((2 ^ n : Nat) : Int) = 2 ^ n := by rw [Int.natCast_pow]; rfl
  have h2 : G / 2 ^ n % 2 = 0 ∨ G / 2 ^ n % 2 = 1 := by omega
  rcases h2 with h | h
  ·rw [if_neg (by omega), h, Nat.mul_zero, Nat.add_zero]; rfl
  ·rw [if_pos h, h, Nat.mul_one, Int.natCast_add, e]; rfl
theorem gList_sorted (G : Nat) : ∀ n, (gList G n).Pairwise (· < ·)
 | 0 => List.Pairwise.nil
 | n + 1 => by
  rw [gList_succ, List.pairwise_append]
  refine ⟨gList_sorted G n, ?_, fun a ha b hb => ?_⟩
  ·split
   ·exact List.pairwise_singleton _ _
   ·exact List.Pairwise.nil
  ·have h1 := gList_lt ha
   split at hb
   ·rw [List.mem_singleton.1 hb]; exact h1
   ·cases hb
/-- the groups that are to come, and the group so far -/
def GR (l : List Nat) (q : QP) : Prop := 0 ≤ q.group ∧ (∀ d ∈ l, q.group < 2 ^ d) ∧ l.Pairwise (· < ·)
theorem group_read {L : List Tok} {dims : List ByteArray} {d i : Nat} {l : List Nat} (q : QP) (hR : GR (d :: l) q) (h : AtT L i [tN (dims.getD d ByteArray.empty)]) (hp : place dims (dims.getD d ByteArray.empty) = d) :
  groupS dims L i q = .ok (i + 1, gPush q d) ∧ GR l (gPush q d) := by
 obtain ⟨h0, h1, h2⟩ := hR
 have hd := h1 d List.mem_cons_self
 have hz : q.group / 2 ^ d = 0 := Int.ediv_eq_zero_of_lt h0 hd
 refine ⟨?_, ?_, fun e he => ?_, (List.pairwise_cons.1 h2).2⟩
 ·unfold groupS
  rw [name_yes h hp]
  show (if q.group / 2 ^ d % 2 = 1 then _ else _) = _
  rw [hz, if_neg (by decide)]
  rfl
 ·show 0 ≤ q.group + 2 ^ d
  omega
 ·show q.group + 2 ^ d < 2 ^ e
  have hde := (List.pairwise_cons.1 h2).1 e he
  have hp2 : (2 : Int) ^ (d + 1) ≤ 2 ^ e := by
   have h3 : (2 : Nat) ^ (d + 1) ≤ 2 ^ e := Nat.pow_le_pow_right (by decide) hde
   have e1 : ((2 ^ (d + 1) : Nat) : Int) = 2 ^ (d + 1) := by rw [Int.natCast_pow]; rfl
   have e2 : ((2 ^ e : Nat) : Int) = 2 ^ e := by rw [Int.natCast_pow]; rfl
   omega
  rw [Int.pow_succ] at hp2
  omega
/-- a part that may be missing -/
def shPart (w : List UInt8) (b : Tok) (l : List (List Tok)) : List Tok := if l = [] then [] else tW w :: sepL b l
theorem part_read {α : Type} (one : Nat → QP → Except (Nat × Nat) (Nat × QP)) (E : α → List Tok) (push : QP → α → QP) (R : List α → QP → Prop) (L : List Tok) (w : List UInt8) (bt : Tok) (b : List UInt8) (hbk : bt.k = 1 ∨ bt.k = 4) (hbw : bt.t.data.toList = b)
  (C : Nat → Prop) (hC : ∀ j xs, AtT L j (bt :: xs) → C j)
  (h1 : ∀ x l i q, R (x :: l) q → AtT L i (E x) → C (i + (E x).length) → one i q = .ok (i + (E x).length, push q x) ∧ R l (push q x))
  (hE : ∀ x, 0 < (E x).length) (l : List α) (i : Nat) (q : QP) (hR : R l q) (hA : AtT L i (shPart w bt (l.map E))) (hn : l = [] → wordAt L i w = false) (hw : wordAt L (i + (shPart w bt (l.map E)).length) b = false) (hc : C (i + (shPart w bt (l.map E)).length)) :
  partS one L w b (i, q) = .ok (i + (shPart w bt (l.map E)).length, l.foldl push q) := by
 cases l with
 | nil =>
  unfold partS
  rw [if_neg (by rw [hn rfl]; decide)]
  rfl
 | cons x l =>
  have hp : shPart w bt ((x :: l).map E) = tW w :: sepL bt ((x :: l).map E) := if_neg (by simp)
  rw [hp] at hA hw hc ⊢
  have hlen : i + (tW w :: sepL bt ((x :: l).map E)).length = i + 1 + (sepL bt ((x :: l).map E)).length := by rw [List.length_cons]; omega
  rw [hlen] at hw hc ⊢
  unfold partS
  show (if wordAt L i w = true then _ else _) = _
  rw [if_pos (word_yes hA (.inl rfl) (w := w) rfl)]
  have hL : l.length < L.length := by
   have h2 := hA.len
   have h3 : ∀ (l : List α) (x : α), l.length < (sepL bt ((x :: l).map E)).length := by
    intro l
    induction l with
    | nil => intro x; exact hE x
    | cons y l ih =>
     intro x
     have := ih y
     show (y :: l).length < (E x ++ bt :: sepL bt ((y :: l).map E)).length
     rw [List.length_append, List.length_cons, List.length_cons]
     omega
   have h4 := h3 l x
   rw [List.length_cons] at h2
   omega
  exact list_read one E push R L bt b hbk hbw C hC h1 l x L.length (i + 1) q hL hR hA.tail hw hc
end Go.Proofs.YtaofjnidniekjaaGreatDoor
/- What a query's text is, and that it is read as the query (plain), third part: the whole. No conditions but those stated. -/
namespace Go.Proofs.YtaofjnidniekjaaGreatDoor
open Go.RowKit

def shLim (T : Int → ByteArray) (n : Int) : List Tok := if 0 < n then [tW [108, 105, 109, 105, 116], tD T n] else []
def tE : Tok := ⟨0, ⟨#[]⟩, 0, 0⟩
def shG (dims : List ByteArray) (d : Nat) : List Tok := [tN (dims.getD d ByteArray.empty)]
def sh4 (T : Int → ByteArray) (q : QP) : List Tok := shLim T q.limit ++ [tE]
def sh3 (T : Int → ByteArray) (q : QP) : List Tok := shPart [111, 114, 100, 101, 114] (tG 44) (q.ord.map (shOrd T)) ++ sh4 T q
def sh2 (T : Int → ByteArray) (dims : List ByteArray) (q : QP) : List Tok := shPart [119, 104, 101, 114, 101] (tW [97, 110, 100]) (q.flts.map (shCond T dims)) ++ sh3 T q
def sh1 (T : Int → ByteArray) (dims : List ByteArray) (q : QP) : List Tok := shPart [98, 121] (tG 44) ((gList q.group.toNat dims.length).map (shG dims)) ++ sh2 T dims q
/-- a query's tokens, and the end's -/
def showT (T : Int → ByteArray) (dims meas : List ByteArray) (q : QP) : List Tok := tW [115, 101, 108, 101, 99, 116] :: (sepL (tG 44) (q.cols.map (shCol meas)) ++ sh1 T dims q)
def HeadIn (S t : List Tok) : Prop := ∃ x xs, t = x :: xs ∧ x ∈ S
theorem head_part {w : List UInt8} {b : Tok} {l : List (List Tok)} {S t : List Tok} (h : HeadIn S t) : HeadIn (tW w :: S) (shPart w b l ++ t) := by
 unfold shPart
 split
 ·obtain ⟨x, xs, rfl, hx⟩ := h
  exact ⟨x, xs, rfl, List.mem_cons_of_mem _ hx⟩
 ·exact ⟨tW w, sepL b l ++ t, rfl, List.mem_cons_self⟩
theorem head_no {S t : List Tok} (h : HeadIn S t) {L : List Tok} {i : Nat} (hA : AtT L i t) {w : List UInt8} (hS : ∀ x ∈ S, (x.k ≠ 1 ∧ x.k ≠ 4) ∨ x.t.data.toList ≠ w) : wordAt L i w = false := by
 obtain ⟨x, xs, rfl, hx⟩ := h
 exact word_no hA (hS x hx)
def S4 : List Tok := [tW [108, 105, 109, 105, 116], tE]
theorem head4 (T : Int → ByteArray) (q : QP) : HeadIn S4 (sh4 T q) := by
 unfold sh4 shLim
 split
 ·exact ⟨_, _, rfl, List.mem_cons_self⟩
 ·exact ⟨tE, [], rfl, List.mem_cons_of_mem _ List.mem_cons_self⟩
theorem head3 (T : Int → ByteArray) (q : QP) : HeadIn (tW [111, 114, 100, 101, 114] :: S4) (sh3 T q) := head_part (head4 T q)
theorem head2 (T : Int → ByteArray) (dims : List ByteArray) (q : QP) : HeadIn (tW [119, 104, 101, 114, 101] :: tW [111, 114, 100, 101, 114] :: S4) (sh2 T dims q) := head_part (head3 T q)
theorem head1 (T : Int → ByteArray) (dims : List ByteArray) (q : QP) : HeadIn (tW [98, 121] :: tW [119, 104, 101, 114, 101] :: tW [111, 114, 100, 101, 114] :: S4) (sh1 T dims q) := head_part (head2 T dims q)
structure ShowOk (dims meas : List ByteArray) (q : QP) : Prop where
 cols : q.cols ≠ []
 col : ∀ c ∈ q.cols, (0 ≤ c.1 ∧ c.1 ≤ 6) ∧ (c.1 = 0 → c.2 = 0) ∧ (c.1 ≠ 0 → place meas (meas.getD c.2.toNat ByteArray.empty) = c.2) ∧ 0 ≤ c.2
 grp : 0 ≤ q.group ∧ q.group < 2 ^ dims.length
 dim : ∀ d, d < dims.length → place dims (dims.getD d ByteArray.empty) = d
 flt : ∀ f ∈ q.flts, 0 ≤ f.1 ∧ place dims (dims.getD f.1.toNat ByteArray.empty) = f.1
 lim : 0 ≤ q.limit
theorem col_fold : ∀ (l : List (Int × Int)) (q : QP), l.foldl (fun q c => ({ q with cols := q.cols ++ [c] } : QP)) q = { q with cols := q.cols ++ l }
 | [], q => by rw [List.append_nil]; rfl
 | c :: l, q => by rw [List.foldl_cons, col_fold l]; dsimp only; rw [List.append_assoc]; rfl
theorem flt_fold : ∀ (l : List (Int × List Int)) (q : QP), l.foldl (fun q c => ({ q with flts := q.flts ++ [c] } : QP)) q = { q with flts := q.flts ++ l }
 | [], q => by rw [List.append_nil]; rfl
 | c :: l, q => by rw [List.foldl_cons, flt_fold l]; dsimp only; rw [List.append_assoc]; rfl
theorem ord_fold : ∀ (l : List (Int × Bool)) (q : QP), l.foldl (fun q c => ({ q with ord := q.ord ++ [c] } : QP)) q = { q with ord := q.ord ++ l }
 | [], q => by rw [List.append_nil]; rfl
 | c :: l, q => by rw [List.foldl_cons, ord_fold l]; dsimp only; rw [List.append_assoc]; rfl
theorem shOrd_len (T : Int → ByteArray) (o : Int × Bool) : 0 < (shOrd T o).length := Nat.succ_pos _
theorem shCond_len (T : Int → ByteArray) (dims : List ByteArray) (f : Int × List Int) : 0 < (shCond T dims f).length := Nat.succ_pos _
theorem shCol_len (meas : List ByteArray) (c : Int × Int) : 0 < (shCol meas c).length := by unfold shCol; split <;> exact Nat.succ_pos _
theorem show_read {L : List Tok} {T : Int → ByteArray} {dims meas : List ByteArray} {q : QP} (hq : ShowOk dims meas q) (h : AtT L 0 (showT T dims meas q)) : ∃ i, queryS dims meas L = .ok (i, q) := by
 obtain ⟨g, fs, cs, os, lm⟩ := q
 have hA0 := h.tail
 rw [Nat.zero_add] at hA0
 obtain ⟨c, cl, rfl⟩ : ∃ c cl, cs = c :: cl := by
  cases cs with
  | nil => exact absurd rfl hq.cols
  | cons c cl => exact ⟨c, cl, rfl⟩
 have hA1 := hA0.right
 have hA2 := hA1.right
 have hA3 := hA2.right
 have hA4 := hA3.right
 dsimp only at hA1 hA2 hA3 hA4 hA0
 -- the columns
 have hlen : cl.length < L.length := by
  have h2 := hA0.left.len
  have h3 : ∀ (l : List (Int × Int)) (x : Int × Int), l.length < (sepL (tG 44) ((x :: l).map (shCol meas))).length := by
   intro l
   induction l with
   | nil => intro x; exact shCol_len meas x
   | cons y l ih =>
    intro x
    have := ih y
    show (y :: l).length < (shCol meas x ++ tG 44 :: sepL (tG 44) ((y :: l).map (shCol meas))).length
    rw [List.length_append, List.length_cons, List.length_cons]
    omega
  have h4 := h3 cl c
  omega
 have r1 := list_read (colS meas L) (shCol meas) (fun q c => ({ q with cols := q.cols ++ [c] } : QP)) (fun l _ => ∀ c ∈ l, (0 ≤ c.1 ∧ c.1 ≤ 6) ∧ (c.1 = 0 → c.2 = 0) ∧ (c.1 ≠ 0 → place meas (meas.getD c.2.toNat ByteArray.empty) = c.2) ∧ 0 ≤ c.2) L (tG 44) [44] (.inr rfl) rfl (fun _ => True) (fun _ _ _ => trivial)
  (fun x l i q hR hA _ => ⟨col_read q hA (hR x List.mem_cons_self).1 (hR x List.mem_cons_self).2.1 (hR x List.mem_cons_self).2.2.1 (hR x List.mem_cons_self).2.2.2, fun c hc => hR c (List.mem_cons_of_mem _ hc)⟩)
  cl c L.length 1 QP.nul hlen hq.col hA0.left (head_no (head1 T dims _) hA1 (by decide)) trivial
 rw [col_fold] at r1
 replace r1 : listS (colS meas L) L [44] L.length 1 QP.nul = .ok (_, ⟨0, [], c :: cl, [], 0⟩) := r1
 have hg := hq.grp
 dsimp only at hg
 -- the group
 have r2 := part_read (groupS dims L) (shG dims) gPush (fun l q => GR l q ∧ ∀ d ∈ l, d < dims.length) L [98, 121] (tG 44) [44] (.inr rfl) rfl (fun _ => True) (fun _ _ _ => trivial)
  (fun x l i q hR hA _ => by
   obtain ⟨h1, h2⟩ := group_read q hR.1 hA (hq.dim x (hR.2 x List.mem_cons_self))
   exact ⟨h1, h2, fun d hd => hR.2 d (List.mem_cons_of_mem _ hd)⟩) (fun _ => Nat.succ_pos _)
  (gList g.toNat dims.length) _ ⟨0, [], c :: cl, [], 0⟩ ⟨⟨Int.le_refl 0, fun d _ => by
   have := Nat.two_pow_pos d
   have e : ((2 ^ d : Nat) : Int) = 2 ^ d := by rw [Int.natCast_pow]; rfl
   show (0 : Int) < 2 ^ d
   omega, gList_sorted _ _⟩, fun d hd => gList_lt hd⟩ hA1.left (fun he => by
    have h2 : sh1 T dims ⟨g, fs, c :: cl, os, lm⟩ = sh2 T dims ⟨g, fs, c :: cl, os, lm⟩ := by unfold sh1; dsimp only; rw [he]; rfl
    rw [h2] at hA1
    exact head_no (head2 T dims _) hA1 (by decide)) (head_no (head2 T dims _) hA2 (by decide)) trivial
 rw [gPush_fold] at r2
 have hgs : (gList g.toNat dims.length).foldl (fun (a : Int) d => a + 2 ^ d) 0 = g := by
  rw [gList_sum]
  have e : ((2 ^ dims.length : Nat) : Int) = 2 ^ dims.length := by rw [Int.natCast_pow]; rfl
  rw [Nat.mod_eq_of_lt (by omega)]
  omega
 dsimp only at r2
 rw [hgs] at r2
 -- the filters
 have r3 := part_read (condS dims L) (shCond T dims) (fun q c => ({ q with flts := q.flts ++ [c] } : QP)) (fun l _ => ∀ f ∈ l, 0 ≤ f.1 ∧ place dims (dims.getD f.1.toNat ByteArray.empty) = f.1) L [119, 104, 101, 114, 101] (tW [97, 110, 100]) [97, 110, 100] (.inl rfl) rfl (fun _ => True) (fun _ _ _ => trivial)
  (fun x l i q hR hA _ => ⟨cond_read q hA (hR x List.mem_cons_self).2 (hR x List.mem_cons_self).1, fun c hc => hR c (List.mem_cons_of_mem _ hc)⟩) (shCond_len T dims)
  fs _ ⟨g, [], c :: cl, [], 0⟩ hq.flt hA2.left (fun he => by
    subst he
    exact head_no (head3 T _) hA2 (by decide)) (head_no (head3 T _) hA3 (by decide)) trivial
 rw [flt_fold] at r3
 replace r3 : partS (condS dims L) L [119, 104, 101, 114, 101] [97, 110, 100] (_, ⟨g, [], c :: cl, [], 0⟩) = .ok (_, ⟨g, fs, c :: cl, [], 0⟩) := r3
 -- the order
 have r4 := part_read (ordS L) (shOrd T) (fun q c => ({ q with ord := q.ord ++ [c] } : QP)) (fun _ _ => True) L [111, 114, 100, 101, 114] (tG 44) [44] (.inr rfl) rfl (fun j => wordAt L j [100, 101, 115, 99] = false ∧ wordAt L j [97, 115, 99] = false) (fun j xs hj => ⟨word_no hj (.inr (by decide)), word_no hj (.inr (by decide))⟩)
  (fun x l i q _ hA hC => ⟨ord_read q hA hC.1 hC.2, trivial⟩) (shOrd_len T)
  os _ ⟨g, fs, c :: cl, [], 0⟩ trivial hA3.left (fun he => by
    subst he
    exact head_no (head4 T _) hA3 (by decide)) (head_no (head4 T _) hA4 (by decide)) ⟨head_no (head4 T _) hA4 (by decide), head_no (head4 T _) hA4 (by decide)⟩
 rw [ord_fold] at r4
 replace r4 : partS (ordS L) L [111, 114, 100, 101, 114] [44] (_, ⟨g, fs, c :: cl, [], 0⟩) = .ok (_, ⟨g, fs, c :: cl, os, 0⟩) := r4
 have hl := hq.lim
 dsimp only at hl
 have e0 : wantS L 0 [115, 101, 108, 101, 99, 116] = .ok 1 := want_yes h (.inl rfl) (w := [115, 101, 108, 101, 99, 116]) rfl
 have r5 : ∀ (i : Nat) (q : QP), q.limit = 0 → AtT L i (sh4 T ⟨g, fs, c :: cl, os, lm⟩) → ∃ j, limS L (i, q) = .ok (j, { q with limit := lm }) ∧ (tokAt L j).k = 0 := by
  intro i q hq0 hA
  unfold sh4 shLim at hA
  dsimp only at hA
  by_cases h0 : 0 < lm
  ·rw [if_pos h0] at hA
   refine ⟨i + 1 + 1, ?_, ?_⟩
   ·unfold limS
    show (if wordAt L i [108, 105, 109, 105, 116] = true then _ else _) = _
    rw [if_pos (word_yes (x := tW [108, 105, 109, 105, 116]) (xs := [tD T lm, tE]) hA (.inl rfl) (w := [108, 105, 109, 105, 116]) rfl)]
    show (numT L (i + 1) >>= _) = _
    rw [num_yes (T := T) (n := lm) (xs := [tE]) (AtT.tail (x := tW [108, 105, 109, 105, 116]) hA)]
    rfl
   ·exact (core_k (AtT.head (x := tE) (xs := []) (AtT.tail (x := tD T lm) (AtT.tail (x := tW [108, 105, 109, 105, 116]) hA)))).1
  ·rw [if_neg h0] at hA
   have hl0 : lm = 0 := by omega
   refine ⟨i, ?_, (core_k (AtT.head (x := tE) (xs := []) hA)).1⟩
   unfold limS
   show (if wordAt L i [108, 105, 109, 105, 116] = true then _ else _) = _
   rw [if_neg (by rw [word_no (x := tE) (xs := []) hA (w := [108, 105, 109, 105, 116]) (.inr (by decide))]; decide), hl0, ← hq0]
 obtain ⟨j, r6, r7⟩ := r5 _ ⟨g, fs, c :: cl, os, 0⟩ rfl hA4
 refine ⟨j, ?_⟩
 unfold queryS
 rw [e0]
 show (listS (colS meas L) L [44] L.length 1 QP.nul >>= _) = _
 rw [r1]
 show (partS (groupS dims L) L [98, 121] [44] (_, _) >>= _) = _
 rw [r2]
 show (partS (condS dims L) L [119, 104, 101, 114, 101] [97, 110, 100] (_, _) >>= _) = _
 rw [r3]
 show (partS (ordS L) L [111, 114, 100, 101, 114] [44] (_, _) >>= _) = _
 rw [r4]
 show (limS L (_, _) >>= _) = _
 rw [r6]
 show endS L (j, _) = _
 unfold endS
 show (if (tokAt L j).k = 0 then _ else _) = _
 rw [if_pos r7]
 rfl
end Go.Proofs.YtaofjnidniekjaaGreatDoor
/- A query's text: its tokens and blanks (plain); it is cut into its tokens, and read as the query. No conditions but those stated. -/
namespace Go.Proofs.YtaofjnidniekjaaGreatDoor
open Go.RowKit

def tk (xs : List (Option Tok)) : List Tok := xs.filterMap id
theorem tk_append (a b : List (Option Tok)) : tk (a ++ b) = tk a ++ tk b := List.filterMap_append
theorem tk_none (a : List (Option Tok)) : tk (none :: a) = tk a := rfl
theorem tk_some (x : Tok) (a : List (Option Tok)) : tk (some x :: a) = x :: tk a := rfl
theorem tk_map : ∀ (l : List Tok), tk (l.map some) = l
 | [] => rfl
 | x :: l => by rw [List.map_cons, tk_some, tk_map l]
/-- lists with p and a blank between -/
def sepI (p : List (Option Tok)) : List (List (Option Tok)) → List (Option Tok)
 | [] => []
 | [x] => x
 | x :: y :: r => x ++ (p ++ none :: sepI p (y :: r))
def cmI : List (Option Tok) := [some (tG 44)]
def andI : List (Option Tok) := [none, some (tW [97, 110, 100])]
theorem tk_sep {p : List (Option Tok)} {b : Tok} (hp : tk p = [b]) : ∀ (l : List (List (Option Tok))), tk (sepI p l) = sepL b (l.map tk)
 | [] => rfl
 | [x] => rfl
 | x :: y :: r => by
  have h := tk_sep hp (y :: r)
  show tk (x ++ (p ++ none :: sepI p (y :: r))) = tk x ++ b :: sepL b ((y :: r).map tk)
  rw [tk_append, tk_append, tk_none, h, hp]
  rfl
def colI (meas : List ByteArray) (c : Int × Int) : List (Option Tok) := (shCol meas c).map some
def condI (T : Int → ByteArray) (dims : List ByteArray) (f : Int × List Int) : List (Option Tok) :=
 some (tN (dims.getD f.1.toNat ByteArray.empty)) :: none :: (match f.2 with
  | [n] => [some (tG 61), none, some (tD T n)]
  | l => some (tW [105, 110]) :: none :: some (tG 40) :: (sepI cmI (l.map fun n => [some (tD T n)]) ++ [some (tG 41)]))
def ordI (T : Int → ByteArray) (o : Int × Bool) : List (Option Tok) := some (tD T (o.1 + 1)) :: (if o.2 then [none, some (tW [100, 101, 115, 99])] else [])
def partI (w : List UInt8) (p : List (Option Tok)) (l : List (List (Option Tok))) : List (Option Tok) := if l = [] then [] else none :: some (tW w) :: none :: sepI p l
def limI (T : Int → ByteArray) (n : Int) : List (Option Tok) := if 0 < n then [none, some (tW [108, 105, 109, 105, 116]), none, some (tD T n)] else []
def gI (dims : List ByteArray) (d : Nat) : List (Option Tok) := [some (tN (dims.getD d ByteArray.empty))]
def showI (T : Int → ByteArray) (dims meas : List ByteArray) (q : QP) : List (Option Tok) :=
 some (tW [115, 101, 108, 101, 99, 116]) :: none :: (sepI cmI (q.cols.map (colI meas)) ++ (partI [98, 121] cmI ((gList q.group.toNat dims.length).map (gI dims)) ++ (partI [119, 104, 101, 114, 101] andI (q.flts.map (condI T dims)) ++ (partI [111, 114, 100, 101, 114] cmI (q.ord.map (ordI T)) ++ limI T q.limit))))
theorem tk_cond (T : Int → ByteArray) (dims : List ByteArray) (f : Int × List Int) : tk (condI T dims f) = shCond T dims f := by
 obtain ⟨d, cs⟩ := f
 have hm : ∀ l : List Int, tk (sepI cmI (l.map fun n => [some (tD T n)])) = sepL (tG 44) (l.map fun n => [tD T n]) := fun l => by
  rw [tk_sep (b := tG 44) rfl, List.map_map]; rfl
 match cs with
 | [n] => rfl
 | [] => rfl
 | x :: y :: l =>
  show tN _ :: tW [105, 110] :: tG 40 :: tk (sepI cmI ((x :: y :: l).map fun n => [some (tD T n)]) ++ [some (tG 41)]) = _
  rw [tk_append, hm]
  rfl
theorem tk_ord (T : Int → ByteArray) (o : Int × Bool) : tk (ordI T o) = shOrd T o := by
 obtain ⟨c, d⟩ := o
 cases d <;> rfl
theorem tk_part {w : List UInt8} {p : List (Option Tok)} {b : Tok} (hp : tk p = [b]) (l : List (List (Option Tok))) : tk (partI w p l) = shPart w b (l.map tk) := by
 unfold partI shPart
 cases l with
 | nil => rfl
 | cons x l =>
  rw [if_neg (by simp), if_neg (by simp)]
  show tW w :: tk (sepI p (x :: l)) = _
  rw [tk_sep hp]
theorem tk_show (T : Int → ByteArray) (dims meas : List ByteArray) (q : QP) : showT T dims meas q = tk (showI T dims meas q) ++ [tE] := by
 have hl : tk (limI T q.limit) = shLim T q.limit := by unfold limI shLim; split <;> rfl
 have h1 : (q.cols.map (colI meas)).map tk = q.cols.map (shCol meas) := by rw [List.map_map]; exact List.map_congr_left fun c _ => tk_map _
 have h2 : ((gList q.group.toNat dims.length).map (gI dims)).map tk = (gList q.group.toNat dims.length).map (shG dims) := by rw [List.map_map]; rfl
 have h3 : (q.flts.map (condI T dims)).map tk = q.flts.map (shCond T dims) := by rw [List.map_map]; exact List.map_congr_left fun f _ => tk_cond T dims f
 have h4 : (q.ord.map (ordI T)).map tk = q.ord.map (shOrd T) := by rw [List.map_map]; exact List.map_congr_left fun o _ => tk_ord T o
 unfold showT showI sh1 sh2 sh3 sh4
 rw [tk_some, tk_none, tk_append, tk_append, tk_append, tk_append, tk_sep (b := tG 44) rfl, tk_part (b := tG 44) rfl, tk_part (b := tW [97, 110, 100]) rfl, tk_part (b := tG 44) rfl, h1, h2, h3, h4, hl]
 simp only [List.append_assoc, List.cons_append]
/-- where blanks stand is right -/
theorem sep_mid {a b : List (Option Tok)} (ha : SepT a) (hb : SepT b) : SepT (a ++ none :: b) := SepT_append (b := none :: b) hb trivial ha
theorem sep_sepI {p : List (Option Tok)} (hp : SepT p) (hr : runEnd p) : ∀ (l : List (List (Option Tok))), (∀ x ∈ l, SepT x) → SepT (sepI p l)
 | [], _ => trivial
 | [x], h => h x List.mem_cons_self
 | x :: y :: r, h => SepT_append (b := p ++ none :: sepI p (y :: r)) (sep_mid hp (sep_sepI hp hr (y :: r) fun z hz => h z (List.mem_cons_of_mem _ hz))) (runEnd_append hr trivial) (h x List.mem_cons_self)
theorem sep_col (meas : List ByteArray) (c : Int × Int) : SepT (colI meas c) := by
 unfold colI shCol
 split
 ·exact ⟨.inr trivial, trivial⟩
 ·exact ⟨.inr rfl, .inl rfl, .inr rfl, .inl rfl, trivial⟩
theorem sep_cond (T : Int → ByteArray) (dims : List ByteArray) (f : Int × List Int) : SepT (condI T dims f) := by
 obtain ⟨d, cs⟩ := f
 match cs with
 | [n] => exact ⟨.inr trivial, .inl rfl, .inr trivial, trivial⟩
 | [] => exact ⟨.inr trivial, .inr trivial, .inl rfl, .inl rfl, trivial⟩
 | x :: y :: l =>
  have hs : SepT (sepI cmI ((x :: y :: l).map fun n => [some (tD T n)])) := sep_sepI (p := cmI) ⟨.inl rfl, trivial⟩ rfl _ fun z hz => by
   obtain ⟨n, _, rfl⟩ := List.mem_map.1 hz
   exact ⟨.inr trivial, trivial⟩
  have h41 : SepT [some (tG 41)] := ⟨.inl rfl, trivial⟩
  have h : SepT (sepI cmI ((x :: y :: l).map fun n => [some (tD T n)]) ++ [some (tG 41)]) := SepT_append h41 rfl hs
  exact ⟨.inr trivial, .inr trivial, .inl rfl, h⟩
theorem sep_ord (T : Int → ByteArray) (o : Int × Bool) : SepT (ordI T o) := by
 obtain ⟨c, d⟩ := o
 cases d
 ·exact ⟨.inr trivial, trivial⟩
 ·exact ⟨.inr trivial, .inr trivial, trivial⟩
theorem sep_part {w : List UInt8} {p : List (Option Tok)} (hp : SepT p) (hr : runEnd p) {l : List (List (Option Tok))} (hl : ∀ x ∈ l, SepT x) : SepT (partI w p l) ∧ runEnd (partI w p l) := by
 unfold partI
 split
 ·exact ⟨trivial, trivial⟩
 ·exact ⟨⟨.inr trivial, sep_sepI hp hr l hl⟩, trivial⟩
theorem sep_show (T : Int → ByteArray) (dims meas : List ByteArray) (q : QP) : SepT (showI T dims meas q) := by
 have hl : SepT (limI T q.limit) ∧ runEnd (limI T q.limit) := by
  unfold limI
  split
  ·exact ⟨⟨.inr trivial, .inr trivial, trivial⟩, trivial⟩
  ·exact ⟨trivial, trivial⟩
 have hm : ∀ {α : Type} (E : α → List (Option Tok)) (l : List α), (∀ x, SepT (E x)) → ∀ x ∈ l.map E, SepT x := fun E l h x hx => by
  obtain ⟨y, _, rfl⟩ := List.mem_map.1 hx
  exact h y
 have hc : SepT cmI := ⟨.inl rfl, trivial⟩
 have h4 := sep_part (w := [111, 114, 100, 101, 114]) (p := cmI) hc rfl (hm (ordI T) q.ord (sep_ord T))
 have h3 := sep_part (w := [119, 104, 101, 114, 101]) (p := andI) ⟨.inr trivial, trivial⟩ trivial (hm (condI T dims) q.flts (sep_cond T dims))
 have h2 := sep_part (w := [98, 121]) (p := cmI) hc rfl (hm (gI dims) (gList q.group.toNat dims.length) (fun _ => ⟨.inr trivial, trivial⟩))
 refine ⟨.inr trivial, SepT_append (SepT_append (SepT_append (SepT_append hl.1 hl.2 h4.1) (runEnd_append h4.2 hl.2) h3.1) (runEnd_append h3.2 (runEnd_append h4.2 hl.2)) h2.1) (runEnd_append h2.2 (runEnd_append h3.2 (runEnd_append h4.2 hl.2))) ?_⟩
 exact sep_sepI hc rfl _ (hm (colI meas) q.cols (sep_col meas))
end Go.Proofs.YtaofjnidniekjaaGreatDoor
