/- A text that is put together of tokens and blanks is cut into these tokens (plain). No conditions. -/
import Derived.Test.YtkojcamlllenkaaDoorMLxA
import Derived.Test.YtkojcamlllenkaaDoorMPaA
namespace Go.Proofs.YtkojcamlllenkaaDoor
open Go.RowKit

/-- the text of tokens (some) and blanks (none) -/
def putT : List (Option Tok) → List UInt8
 | [] => []
 | none :: r => 32 :: putT r
 | some x :: r => x.t.data.toList ++ putT r
theorem putT_append : ∀ (a b : List (Option Tok)), putT (a ++ b) = putT a ++ putT b
 | [], _ => rfl
 | none :: a, b => by rw [List.cons_append, putT, putT, putT_append a b]; rfl
 | some x :: a, b => by rw [List.cons_append, putT, putT, putT_append a b, List.append_assoc]
/-- a word, a name or a number may end here -/
def runEnd : List (Option Tok) → Prop
 | [] => True
 | none :: _ => True
 | some y :: _ => y.k = 4
def SepT : List (Option Tok) → Prop
 | [] => True
 | none :: r => SepT r
 | some x :: r => (x.k = 4 ∨ runEnd r) ∧ SepT r
theorem runEnd_append {a b : List (Option Tok)} (ha : runEnd a) (hb : runEnd b) : runEnd (a ++ b) := by
 cases a with
 | nil => exact hb
 | cons x a => cases x <;> exact ha
theorem SepT_append {b : List (Option Tok)} (hb : SepT b) (hr : runEnd b) : ∀ {a : List (Option Tok)}, SepT a → SepT (a ++ b)
 | [], _ => hb
 | none :: a, ha => SepT_append hb hr (a := a) ha
 | some _ :: _, ha => ⟨ha.1.imp id fun h => runEnd_append h hr, SepT_append hb hr ha.2⟩
theorem rEndF_to {t : ByteArray} : ∀ (u : List UInt8) (a f : Nat) (r : List UInt8), t.data.toList.drop a = u ++ r → (∀ x ∈ u, runB x = true) → (r = [] ∨ ∃ c r', r = c :: r' ∧ runB c = false) → u.length ≤ f → rEndF t f a = a + u.length
 | [], a, f, r, h, _, hc, _ => by
  rcases hc with rfl | ⟨c, r', rfl, hc⟩
  ·have : t.size ≤ a := by
    have := congrArg List.length h
    rw [List.length_drop] at this; simp at this; omega
   exact rEndF_end this
  ·obtain ⟨hlt, e⟩ := get_drop h
   exact rEndF_stop hlt (by rw [e]; exact hc)
 | x :: u, a, f, r, h, hu, hc, hf => by
  obtain ⟨hlt, e⟩ := get_drop h
  obtain ⟨g, rfl⟩ : ∃ g, f = g + 1 := ⟨f - 1, by rw [List.length_cons] at hf; omega⟩
  rw [rEndF_step hlt (by rw [e]; exact hu x List.mem_cons_self)]
  have h2 : t.data.toList.drop (a + 1) = u ++ r := drop_more (u := [x]) h
  rw [rEndF_to u (a + 1) g r h2 (fun y hy => hu y (List.mem_cons_of_mem _ hy)) hc (by rw [List.length_cons] at hf; omega), List.length_cons]
  omega
theorem good_sign {x : Tok} (h : Good x) (hk : x.k = 4) : ∃ c, isSign c ∧ x.t = ⟨#[c]⟩ := by
 rcases h with ⟨_, _, h⟩ | ⟨_, _, hR⟩
 ·exact h
 ·rcases runR_kind _ _ _ hR with h | h | h <;> omega
theorem runEnd_to {xs : List (Option Tok)} (hg : ∀ x, some x ∈ xs → Good x) (h : runEnd xs) : putT xs = [] ∨ ∃ c r', putT xs = c :: r' ∧ runB c = false := by
 cases xs with
 | nil => exact .inl rfl
 | cons x r => cases x with
  | none => exact .inr ⟨32, _, rfl, by decide⟩
  | some y =>
   obtain ⟨c, hc, ht⟩ := good_sign (hg y List.mem_cons_self) h
   refine .inr ⟨c, putT r, ?_, by rcases hc with rfl | rfl | rfl | rfl <;> decide⟩
   rw [putT, ht]; rfl

end Go.Proofs.YtkojcamlllenkaaDoor
/- What a query's text is, and that it is read as the query (plain), first part: tokens, columns, lists. No conditions but those stated. -/
namespace Go.Proofs.YtkojcamlllenkaaDoor
open Go.RowKit

def tW (w : List UInt8) : Tok := ⟨1, ⟨⟨w⟩⟩, 0, 0⟩
def tG (c : UInt8) : Tok := ⟨4, ⟨#[c]⟩, 0, 0⟩
def tN (s : ByteArray) : Tok := ⟨2, s, 0, 0⟩
def tD (T : Int → ByteArray) (n : Int) : Tok := ⟨3, T n, n, 0⟩
/-- a column's tokens -/
def shCol (meas : List ByteArray) (c : Int × Int) : List Tok := if c.1 = 0 then [tW [99, 111, 117, 110, 116]] else [tW (aggW.getD c.1.toNat []), tG 40, tN (meas.getD c.2.toNat ByteArray.empty), tG 41]
/-- lists of tokens with one between -/
def sepL (b : Tok) : List (List Tok) → List Tok
 | [] => []
 | [x] => x
 | x :: y :: r => x ++ b :: sepL b (y :: r)
/-- the order's tokens -/
def shOrd (T : Int → ByteArray) (o : Int × Bool) : List Tok := tD T (o.1 + 1) :: (if o.2 then [tW [100, 101, 115, 99]] else [])
/-- a filter's tokens -/
def shCond (T : Int → ByteArray) (dims : List ByteArray) (f : Int × List Int) : List Tok :=
 tN (dims.getD f.1.toNat ByteArray.empty) :: (match f.2 with
  | [n] => [tG 61, tD T n]
  | l => tW [105, 110] :: tG 40 :: (sepL (tG 44) (l.map fun n => [tD T n]) ++ [tG 41]))
end Go.Proofs.YtkojcamlllenkaaDoor
/- What a query's text is, and that it is read as the query (plain), second part: groups, parts, the whole. No conditions but those stated. -/
namespace Go.Proofs.YtkojcamlllenkaaDoor
open Go.RowKit

/-- the dimensions of a group -/
def gList (G n : Nat) : List Nat := (List.range n).filter fun d => decide (G / 2 ^ d % 2 = 1)
theorem gList_succ (G n : Nat) : gList G (n + 1) = gList G n ++ (if G / 2 ^ n % 2 = 1 then [n] else []) := by
 unfold gList
 rw [List.range_succ, List.filter_append]
 congr 1
 by_cases h : G / 2 ^ n % 2 = 1
 ·rw [if_pos h, List.filter_cons_of_pos (by simp [h])]; rfl
 ·rw [if_neg h, List.filter_cons_of_neg (by simp [h])]; rfl
theorem gList_lt {G n d : Nat} (h : d ∈ gList G n) : d < n := by
 unfold gList at h
 exact List.mem_range.1 (List.mem_filter.1 h).1
/-- a part that may be missing -/
def shPart (w : List UInt8) (b : Tok) (l : List (List Tok)) : List Tok := if l = [] then [] else tW w :: sepL b l
end Go.Proofs.YtkojcamlllenkaaDoor
/- What a query's text is, and that it is read as the query (plain), third part: the whole. No conditions but those stated. -/
namespace Go.Proofs.YtkojcamlllenkaaDoor
open Go.RowKit

def shLim (T : Int → ByteArray) (n : Int) : List Tok := if 0 < n then [tW [108, 105, 109, 105, 116], tD T n] else []
def tE : Tok := ⟨0, ⟨#[]⟩, 0, 0⟩
def shG (dims : List ByteArray) (d : Nat) : List Tok := [tN (dims.getD d ByteArray.empty)]
def sh4 (T : Int → ByteArray) (q : QP) : List Tok := shLim T q.limit ++ [tE]
def sh3 (T : Int → ByteArray) (q : QP) : List Tok := shPart [111, 114, 100, 101, 114] (tG 44) (q.ord.map (shOrd T)) ++ sh4 T q
def sh2 (T : Int → ByteArray) (dims : List ByteArray) (q : QP) : List Tok := shPart [119, 104, 101, 114, 101] (tW [97, 110, 100]) (q.flts.map (shCond T dims)) ++ sh3 T q
def sh1 (T : Int → ByteArray) (dims : List ByteArray) (q : QP) : List Tok := shPart [98, 121] (tG 44) ((gList q.group.toNat dims.length).map (shG dims)) ++ sh2 T dims q
/-- a query's tokens, and the end's -/
def showT (T : Int → ByteArray) (dims meas : List ByteArray) (q : QP) : List Tok := tW [115, 101, 108, 101, 99, 116] :: (sepL (tG 44) (q.cols.map (shCol meas)) ++ sh1 T dims q)
structure ShowOk (dims meas : List ByteArray) (q : QP) : Prop where
 cols : q.cols ≠ []
 col : ∀ c ∈ q.cols, (0 ≤ c.1 ∧ c.1 ≤ 6) ∧ (c.1 = 0 → c.2 = 0) ∧ (c.1 ≠ 0 → place meas (meas.getD c.2.toNat ByteArray.empty) = c.2) ∧ 0 ≤ c.2
 grp : 0 ≤ q.group ∧ q.group < 2 ^ dims.length
 dim : ∀ d, d < dims.length → place dims (dims.getD d ByteArray.empty) = d
 flt : ∀ f ∈ q.flts, 0 ≤ f.1 ∧ place dims (dims.getD f.1.toNat ByteArray.empty) = f.1
 lim : 0 ≤ q.limit
end Go.Proofs.YtkojcamlllenkaaDoor
/- A query's text: its tokens and blanks (plain); it is cut into its tokens, and read as the query. No conditions but those stated. -/
namespace Go.Proofs.YtkojcamlllenkaaDoor
open Go.RowKit

def tk (xs : List (Option Tok)) : List Tok := xs.filterMap id
theorem tk_append (a b : List (Option Tok)) : tk (a ++ b) = tk a ++ tk b := List.filterMap_append
theorem tk_none (a : List (Option Tok)) : tk (none :: a) = tk a := rfl
theorem tk_some (x : Tok) (a : List (Option Tok)) : tk (some x :: a) = x :: tk a := rfl
theorem tk_map : ∀ (l : List Tok), tk (l.map some) = l
 | [] => rfl
 | x :: l => by rw [List.map_cons, tk_some, tk_map l]
/-- lists with p and a blank between -/
def sepI (p : List (Option Tok)) : List (List (Option Tok)) → List (Option Tok)
 | [] => []
 | [x] => x
 | x :: y :: r => x ++ (p ++ none :: sepI p (y :: r))
def cmI : List (Option Tok) := [some (tG 44)]
def andI : List (Option Tok) := [none, some (tW [97, 110, 100])]
theorem tk_sep {p : List (Option Tok)} {b : Tok} (hp : tk p = [b]) : ∀ (l : List (List (Option Tok))), tk (sepI p l) = sepL b (l.map tk)
 | [] => rfl
 | [x] => rfl
 | x :: y :: r => by
  have h := tk_sep hp (y :: r)
  show tk (x ++ (p ++ none :: sepI p (y :: r))) = tk x ++ b :: sepL b ((y :: r).map tk)
  rw [tk_append, tk_append, tk_none, h, hp]
  rfl
def colI (meas : List ByteArray) (c : Int × Int) : List (Option Tok) := (shCol meas c).map some
def condI (T : Int → ByteArray) (dims : List ByteArray) (f : Int × List Int) : List (Option Tok) :=
 some (tN (dims.getD f.1.toNat ByteArray.empty)) :: none :: (match f.2 with
  | [n] => [some (tG 61), none, some (tD T n)]
  | l => some (tW [105, 110]) :: none :: some (tG 40) :: (sepI cmI (l.map fun n => [some (tD T n)]) ++ [some (tG 41)]))
def ordI (T : Int → ByteArray) (o : Int × Bool) : List (Option Tok) := some (tD T (o.1 + 1)) :: (if o.2 then [none, some (tW [100, 101, 115, 99])] else [])
def partI (w : List UInt8) (p : List (Option Tok)) (l : List (List (Option Tok))) : List (Option Tok) := if l = [] then [] else none :: some (tW w) :: none :: sepI p l
def limI (T : Int → ByteArray) (n : Int) : List (Option Tok) := if 0 < n then [none, some (tW [108, 105, 109, 105, 116]), none, some (tD T n)] else []
def gI (dims : List ByteArray) (d : Nat) : List (Option Tok) := [some (tN (dims.getD d ByteArray.empty))]
def showI (T : Int → ByteArray) (dims meas : List ByteArray) (q : QP) : List (Option Tok) :=
 some (tW [115, 101, 108, 101, 99, 116]) :: none :: (sepI cmI (q.cols.map (colI meas)) ++ (partI [98, 121] cmI ((gList q.group.toNat dims.length).map (gI dims)) ++ (partI [119, 104, 101, 114, 101] andI (q.flts.map (condI T dims)) ++ (partI [111, 114, 100, 101, 114] cmI (q.ord.map (ordI T)) ++ limI T q.limit))))
theorem tk_cond (T : Int → ByteArray) (dims : List ByteArray) (f : Int × List Int) : tk (condI T dims f) = shCond T dims f := by
 obtain ⟨d, cs⟩ := f
 have hm : ∀ l : List Int, tk (sepI cmI (l.map fun n => [some (tD T n)])) = sepL (tG 44) (l.map fun n => [tD T n]) := fun l => by
  rw [tk_sep (b := tG 44) rfl, List.map_map]; rfl
 match cs with
 | [n] => rfl
 | [] => rfl
 | x :: y :: l =>
  show tN _ :: tW [105, 110] :: tG 40 :: tk (sepI cmI ((x :: y :: l).map fun n => [some (tD T n)]) ++ [some (tG 41)]) = _
  rw [tk_append, hm]
  rfl
theorem tk_ord (T : Int → ByteArray) (o : Int × Bool) : tk (ordI T o) = shOrd T o := by
 obtain ⟨c, d⟩ := o
 cases d <;> rfl
theorem tk_part {w : List UInt8} {p : List (Option Tok)} {b : Tok} (hp : tk p = [b]) (l : List (List (Option Tok))) : tk (partI w p l) = shPart w b (l.map tk) := by
 unfold partI shPart
 cases l with
 | nil => rfl
 | cons x l =>
  rw [if_neg (by simp), if_neg (by simp)]
  show tW w :: tk (sepI p (x :: l)) = _
  rw [tk_sep hp]
theorem tk_show (T : Int → ByteArray) (dims meas : List ByteArray) (q : QP) : showT T dims meas q = tk (showI T dims meas q) ++ [tE] := by
 have hl : tk (limI T q.limit) = shLim T q.limit := by unfold limI shLim; split <;> rfl
 have h1 : (q.cols.map (colI meas)).map tk = q.cols.map (shCol meas) := by rw [List.map_map]; exact List.map_congr_left fun c _ => tk_map _
 have h2 : ((gList q.group.toNat dims.length).map (gI dims)).map tk = (gList q.group.toNat dims.length).map (shG dims) := by rw [List.map_map]; rfl
 have h3 : (q.flts.map (condI T dims)).map tk = q.flts.map (shCond T dims) := by rw [List.map_map]; exact List.map_congr_left fun f _ => tk_cond T dims f
 have h4 : (q.ord.map (ordI T)).map tk = q.ord.map (shOrd T) := by rw [List.map_map]; exact List.map_congr_left fun o _ => tk_ord T o
 unfold showT showI sh1 sh2 sh3 sh4
 rw [tk_some, tk_none, tk_append, tk_append, tk_append, tk_append, tk_sep (b := tG 44) rfl, tk_part (b := tG 44) rfl, tk_part (b := tW [97, 110, 100]) rfl, tk_part (b := tG 44) rfl, h1, h2, h3, h4, hl]
 simp only [List.append_assoc, List.cons_append]
/-- where blanks stand is right -/
theorem sep_mid {a b : List (Option Tok)} (ha : SepT a) (hb : SepT b) : SepT (a ++ none :: b) := SepT_append (b := none :: b) hb trivial ha
theorem sep_sepI {p : List (Option Tok)} (hp : SepT p) (hr : runEnd p) : ∀ (l : List (List (Option Tok))), (∀ x ∈ l, SepT x) → SepT (sepI p l)
 | [], _ => trivial
 | [x], h => h x List.mem_cons_self
 | x :: y :: r, h => SepT_append (b := p ++ none :: sepI p (y :: r)) (sep_mid hp (sep_sepI hp hr (y :: r) fun z hz => h z (List.mem_cons_of_mem _ hz))) (runEnd_append hr trivial) (h x List.mem_cons_self)
theorem sep_col (meas : List ByteArray) (c : Int × Int) : SepT (colI meas c) := by
 unfold colI shCol
 split
 ·exact ⟨.inr trivial, trivial⟩
 ·exact ⟨.inr rfl, .inl rfl, .inr rfl, .inl rfl, trivial⟩
theorem sep_cond (T : Int → ByteArray) (dims : List ByteArray) (f : Int × List Int) : SepT (condI T dims f) := by
 obtain ⟨d, cs⟩ := f
 match cs with
 | [n] => exact ⟨.inr trivial, .inl rfl, .inr trivial, trivial⟩
 | [] => exact ⟨.inr trivial, .inr trivial, .inl rfl, .inl rfl, trivial⟩
 | x :: y :: l =>
  have hs : SepT (sepI cmI ((x :: y :: l).map fun n => [some (tD T n)])) := sep_sepI (p := cmI) ⟨.inl rfl, trivial⟩ rfl _ fun z hz => by
   obtain ⟨n, _, rfl⟩ := List.mem_map.1 hz
   exact ⟨.inr trivial, trivial⟩
  have h41 : SepT [some (tG 41)] := ⟨.inl rfl, trivial⟩
  have h : SepT (sepI cmI ((x :: y :: l).map fun n => [some (tD T n)]) ++ [some (tG 41)]) := SepT_append h41 rfl hs
  exact ⟨.inr trivial, .inr trivial, .inl rfl, h⟩
theorem sep_ord (T : Int → ByteArray) (o : Int × Bool) : SepT (ordI T o) := by
 obtain ⟨c, d⟩ := o
 cases d
 ·exact ⟨.inr trivial, trivial⟩
 ·exact ⟨.inr trivial, .inr trivial, trivial⟩
theorem sep_part {w : List UInt8} {p : List (Option Tok)} (hp : SepT p) (hr : runEnd p) {l : List (List (Option Tok))} (hl : ∀ x ∈ l, SepT x) : SepT (partI w p l) ∧ runEnd (partI w p l) := by
 unfold partI
 split
 ·exact ⟨trivial, trivial⟩
 ·exact ⟨⟨.inr trivial, sep_sepI hp hr l hl⟩, trivial⟩
theorem sep_show (T : Int → ByteArray) (dims meas : List ByteArray) (q : QP) : SepT (showI T dims meas q) := by
 have hl : SepT (limI T q.limit) ∧ runEnd (limI T q.limit) := by
  unfold limI
  split
  ·exact ⟨⟨.inr trivial, .inr trivial, trivial⟩, trivial⟩
  ·exact ⟨trivial, trivial⟩
 have hm : ∀ {α : Type} (E : α → List (Option Tok)) (l : List α), (∀ x, SepT (E x)) → ∀ x ∈ l.map E, SepT x := fun E l h x hx => by
  obtain ⟨y, _, rfl⟩ := List.mem_map.1 hx
  exact h y
 have hc : SepT cmI := ⟨.inl rfl, trivial⟩
 have h4 := sep_part (w := [111, 114, 100, 101, 114]) (p := cmI) hc rfl (hm (ordI T) q.ord (sep_ord T))
 have h3 := sep_part (w := [119, 104, 101, 114, 101]) (p := andI) ⟨.inr trivial, trivial⟩ trivial (hm (condI T dims) q.flts (sep_cond T dims))
 have h2 := sep_part (w := [98, 121]) (p := cmI) hc rfl (hm (gI dims) (gList q.group.toNat dims.length) (fun _ => ⟨.inr trivial, trivial⟩))
 refine ⟨.inr trivial, SepT_append (SepT_append (SepT_append (SepT_append hl.1 hl.2 h4.1) (runEnd_append h4.2 hl.2) h3.1) (runEnd_append h3.2 (runEnd_append h4.2 hl.2)) h2.1) (runEnd_append h2.2 (runEnd_append h3.2 (runEnd_append h4.2 hl.2))) ?_⟩
 exact sep_sepI hc rfl _ (hm (colI meas) q.cols (sep_col meas))
end Go.Proofs.YtkojcamlllenkaaDoor
