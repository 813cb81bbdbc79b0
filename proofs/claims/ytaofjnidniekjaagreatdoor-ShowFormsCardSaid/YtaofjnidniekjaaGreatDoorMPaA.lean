/- What package parse reads, by definition (plain): a query out of tokens, or the place and the reason of the first fault. No conditions. -/
import Derived.Test.YtaofjnidniekjaaGreatDoorMLxA
namespace Go.Proofs.YtaofjnidniekjaaGreatDoor
open Go.RowKit

/-- a query, without the places of its lists -/
structure QP where
 group : Int
 flts : List (Int × List Int)
 cols : List (Int × Int)
 ord : List (Int × Bool)
 limit : Int
def QP.nul : QP := ⟨0, [], [], [], 0⟩
/- a reading: .ok (the next token's place, what was read) or .error (the fault's token, its error) -/
def tokAt (L : List Tok) (i : Nat) : Tok := L.getD i ⟨0, ByteArray.empty, 0, 0⟩
/-- a word or a sign -/
def wordAt (L : List Tok) (i : Nat) (t : List UInt8) : Bool := decide (((tokAt L i).k = 1 ∨ (tokAt L i).k = 4) ∧ (tokAt L i).t.data.toList = t)
def wantS (L : List Tok) (i : Nat) (t : List UInt8) : Except (Nat × Nat) Nat := if wordAt L i t then .ok (i + 1) else .error (i, 6)
def numT (L : List Tok) (i : Nat) : Except (Nat × Nat) (Nat × Int) := if (tokAt L i).k = 3 then .ok (i + 1, (tokAt L i).n) else .error (i, 6)
/-- the place of a name among some; 11 where it is none of them -/
def nameS (names : List ByteArray) (L : List Tok) (i : Nat) : Except (Nat × Nat) (Nat × Nat) :=
 if (tokAt L i).k = 2 then (if place names (tokAt L i).t < 0 then .error (i, 11) else .ok (i + 1, (place names (tokAt L i).t).toNat)) else .error (i, 6)
def aggW : List (List UInt8) := [[99, 111, 117, 110, 116], [115, 117, 109], [109, 105, 110], [109, 97, 120], [109, 101, 97, 110], [100, 101, 118], [115, 104, 97, 114, 101]]
/-- the kind of the column that begins here -/
def kindAt (L : List Tok) (i : Nat) : List (List UInt8) → Nat → Option Nat
 | [], _ => none
 | w :: l, k => if wordAt L i w then some k else kindAt L i l (k + 1)
def colS (meas : List ByteArray) (L : List Tok) (i : Nat) (q : QP) : Except (Nat × Nat) (Nat × QP) :=
 match kindAt L i aggW 0 with
 | none => .error (i, 6)
 | some 0 => .ok (i + 1, { q with cols := q.cols ++ [(0, 0)] })
 | some (k + 1) => do
  let i ← wantS L (i + 1) [40]
  let (i, m) ← nameS meas L i
  let i ← wantS L i [41]
  return (i, { q with cols := q.cols ++ [(((k + 1 : Nat) : Int), (m : Int))] })
/-- numbers with commas between -/
def numsS (L : List Tok) : Nat → Nat → List Int → Except (Nat × Nat) (Nat × List Int)
 | 0, i, _ => .error (i, 6)
 | f + 1, i, l => do
  let (i, n) ← numT L i
  if wordAt L i [44] then numsS L f (i + 1) (l ++ [n]) else return (i, l ++ [n])
def condS (dims : List ByteArray) (L : List Tok) (i : Nat) (q : QP) : Except (Nat × Nat) (Nat × QP) := do
 let (i, d) ← nameS dims L i
 if wordAt L i [61] then
  let (i, n) ← numT L (i + 1)
  return (i, { q with flts := q.flts ++ [((d : Int), [n])] })
 else
  let i ← wantS L i [105, 110]
  let i ← wantS L i [40]
  if wordAt L i [41] then return (i + 1, { q with flts := q.flts ++ [((d : Int), [])] })
  else
   let (i, l) ← numsS L L.length i []
   let i ← wantS L i [41]
   return (i, { q with flts := q.flts ++ [((d : Int), l)] })
def groupS (dims : List ByteArray) (L : List Tok) (i : Nat) (q : QP) : Except (Nat × Nat) (Nat × QP) := do
 let (j, d) ← nameS dims L i
 if q.group / 2 ^ d % 2 = 1 then .error (i, 9) else return (j, { q with group := q.group + 2 ^ d })
def ordS (L : List Tok) (i : Nat) (q : QP) : Except (Nat × Nat) (Nat × QP) := do
 let (i, n) ← numT L i
 if wordAt L i [100, 101, 115, 99] then return (i + 1, { q with ord := q.ord ++ [(n - 1, true)] })
 else if wordAt L i [97, 115, 99] then return (i + 1, { q with ord := q.ord ++ [(n - 1, false)] })
 else return (i, { q with ord := q.ord ++ [(n - 1, false)] })
/-- things with a word or a sign between -/
def listS {σ : Type} (one : Nat → σ → Except (Nat × Nat) (Nat × σ)) (L : List Tok) (b : List UInt8) : Nat → Nat → σ → Except (Nat × Nat) (Nat × σ)
 | 0, i, _ => .error (i, 6)
 | f + 1, i, q => do
  let (i, q) ← one i q
  if wordAt L i b then listS one L b f (i + 1) q else return (i, q)
/-- a part that may be missing -/
def partS (one : Nat → QP → Except (Nat × Nat) (Nat × QP)) (L : List Tok) (h b : List UInt8) (x : Nat × QP) : Except (Nat × Nat) (Nat × QP) :=
 if wordAt L x.1 h then listS one L b L.length (x.1 + 1) x.2 else .ok x
def limS (L : List Tok) (x : Nat × QP) : Except (Nat × Nat) (Nat × QP) := if wordAt L x.1 [108, 105, 109, 105, 116] then (do let (i, n) ← numT L (x.1 + 1); return (i, { x.2 with limit := n })) else .ok x
def endS (L : List Tok) (x : Nat × QP) : Except (Nat × Nat) (Nat × QP) := if (tokAt L x.1).k = 0 then return x else .error (x.1, 6)
def queryS (dims meas : List ByteArray) (L : List Tok) : Except (Nat × Nat) (Nat × QP) := do
 let i ← wantS L 0 [115, 101, 108, 101, 99, 116]
 let x ← listS (colS meas L) L [44] L.length i QP.nul
 let x ← partS (groupS dims L) L [98, 121] [44] x
 let x ← partS (condS dims L) L [119, 104, 101, 114, 101] [97, 110, 100] x
 let x ← partS (ordS L) L [111, 114, 100, 101, 114] [44] x
 let x ← limS L x
 endS L x
end Go.Proofs.YtaofjnidniekjaaGreatDoor
/- How far a reading goes (plain): each thing goes past one token at least; more fuel changes nothing. No conditions. -/
namespace Go.Proofs.YtaofjnidniekjaaGreatDoor
open Go.RowKit

theorem tok_over {L : List Tok} {i : Nat} (h : L.length ≤ i) : (tokAt L i).k = 0 := by
 unfold tokAt; rw [List.getD_eq_getElem?_getD, List.getElem?_eq_none h]; rfl
theorem word_lt {L : List Tok} {i : Nat} {t : List UInt8} (h : wordAt L i t = true) : i < L.length := by
 unfold wordAt at h
 have h := of_decide_eq_true h
 rcases Nat.lt_or_ge i L.length with h1 | h1
 ·exact h1
 ·have := tok_over h1; omega
theorem want_ok {L : List Tok} {i j : Nat} {t : List UInt8} (h : wantS L i t = .ok j) : j = i + 1 ∧ i < L.length := by
 unfold wantS at h
 split at h
 ·rename_i h1; cases h; exact ⟨rfl, word_lt h1⟩
 ·cases h
theorem num_ok {L : List Tok} {i : Nat} {x : Nat × Int} (h : numT L i = .ok x) : x.1 = i + 1 ∧ i < L.length := by
 unfold numT at h
 split at h
 ·rename_i h1; cases h
  refine ⟨rfl, ?_⟩
  rcases Nat.lt_or_ge i L.length with h2 | h2
  ·exact h2
  ·have := tok_over h2; omega
 ·cases h
theorem name_ok {names : List ByteArray} {L : List Tok} {i : Nat} {x : Nat × Nat} (h : nameS names L i = .ok x) : x.1 = i + 1 ∧ i < L.length := by
 unfold nameS at h
 split at h
 ·rename_i h1
  split at h
  ·cases h
  ·cases h
   refine ⟨rfl, ?_⟩
   rcases Nat.lt_or_ge i L.length with h2 | h2
   ·exact h2
   ·have := tok_over h2; omega
 ·cases h
theorem bind_ok {α β : Type} {x : Except (Nat × Nat) α} {f : α → Except (Nat × Nat) β} {y : β} (h : (x >>= f) = .ok y) : ∃ a, x = .ok a ∧ f a = .ok y := by
 cases x with
 | error e => cases h
 | ok a => exact ⟨a, rfl, h⟩
/-- a reading goes on, and not past the end -/
def Goes {σ : Type} (L : List Tok) (one : Nat → σ → Except (Nat × Nat) (Nat × σ)) : Prop := ∀ i q x, one i q = .ok x → i < x.1 ∧ x.1 ≤ L.length
theorem nums_ok (L : List Tok) : ∀ (f i : Nat) (l : List Int) (x : Nat × List Int), numsS L f i l = .ok x → i < x.1 ∧ x.1 ≤ L.length
 | 0, _, _, _, h => by cases h
 | f + 1, i, l, x, h => by
  obtain ⟨a, h1, h2⟩ := bind_ok h
  obtain ⟨h3, h4⟩ := num_ok h1
  dsimp only at h2
  split at h2
  ·have := nums_ok L f _ _ _ h2; omega
  ·cases h2; dsimp only; omega
theorem col_goes (meas : List ByteArray) (L : List Tok) : Goes L (colS meas L) := by
 intro i q x h
 have hk : ∀ (l : List (List UInt8)) (k m : Nat), kindAt L i l k = some m → i < L.length := by
  intro l
  induction l with
  | nil => intro k m h; cases h
  | cons w l ih =>
   intro k m h
   unfold kindAt at h
   split at h
   ·rename_i h1; exact word_lt h1
   ·exact ih _ _ h
 unfold colS at h
 split at h
 ·cases h
 ·rename_i h1; cases h
  have := hk _ _ _ h1
  dsimp only; omega
 ·rename_i k h1
  obtain ⟨a, h2, h3⟩ := bind_ok h
  obtain ⟨b, h4, h5⟩ := bind_ok h3
  obtain ⟨c, h6, h7⟩ := bind_ok h5
  have e1 := want_ok h2
  have e2 := name_ok h4
  have e3 := want_ok h6
  cases h7
  dsimp only at *; omega
theorem ord_goes (L : List Tok) : Goes L (ordS L) := by
 intro i q x h
 unfold ordS at h
 obtain ⟨a, h1, h2⟩ := bind_ok h
 obtain ⟨h3, h4⟩ := num_ok h1
 dsimp only at h2
 split at h2
 ·rename_i h5; have := word_lt h5; cases h2; dsimp only; omega
 ·split at h2
  ·rename_i h5; have := word_lt h5; cases h2; dsimp only; omega
  ·cases h2; dsimp only; omega
theorem group_goes (dims : List ByteArray) (L : List Tok) : Goes L (groupS dims L) := by
 intro i q x h
 unfold groupS at h
 obtain ⟨a, h1, h2⟩ := bind_ok h
 obtain ⟨h3, h4⟩ := name_ok h1
 dsimp only at h2
 split at h2
 ·cases h2
 ·cases h2; dsimp only; omega
theorem cond_goes (dims : List ByteArray) (L : List Tok) : Goes L (condS dims L) := by
 intro i q x h
 unfold condS at h
 obtain ⟨a, h1, h2⟩ := bind_ok h
 obtain ⟨h3, h4⟩ := name_ok h1
 dsimp only at h2
 split at h2
 ·obtain ⟨b, h5, h6⟩ := bind_ok h2
  have := num_ok h5
  cases h6
  dsimp only at *; omega
 ·obtain ⟨b, h5, h6⟩ := bind_ok h2
  obtain ⟨c, h7, h8⟩ := bind_ok h6
  have e1 := want_ok h5
  have e2 := want_ok h7
  split at h8
  ·rename_i h9; have := word_lt h9; cases h8; dsimp only at *; omega
  ·obtain ⟨d, h9, h10⟩ := bind_ok h8
   have e3 := nums_ok L _ _ _ _ h9
   obtain ⟨e, h11, h12⟩ := bind_ok h10
   have e4 := want_ok h11
   cases h12
   dsimp only at *; omega
theorem list_fuel {σ : Type} {L : List Tok} {one : Nat → σ → Except (Nat × Nat) (Nat × σ)} (hg : Goes L one) (b : List UInt8) : ∀ (f g i : Nat) (q : σ), L.length < f + i → L.length < g + i → 0 < f → 0 < g → listS one L b f i q = listS one L b g i q
 | 0, _, _, _, _, _, h, _ => absurd h (Nat.lt_irrefl 0)
 | _ + 1, 0, _, _, _, _, _, h => absurd h (Nat.lt_irrefl 0)
 | f + 1, g + 1, i, q, hf, hgg, _, _ => by
  show (one i q >>= fun x => if wordAt L x.1 b = true then listS one L b f (x.1 + 1) x.2 else pure (x.1, x.2)) = (one i q >>= fun x => if wordAt L x.1 b = true then listS one L b g (x.1 + 1) x.2 else pure (x.1, x.2))
  rcases h : one i q with e | x
  ·rfl
  ·show (if wordAt L x.1 b = true then listS one L b f (x.1 + 1) x.2 else pure (x.1, x.2)) = (if wordAt L x.1 b = true then listS one L b g (x.1 + 1) x.2 else pure (x.1, x.2))
   obtain ⟨h1, h2⟩ := hg i q x h
   split
   ·rename_i h3
    have h4 := word_lt h3
    exact list_fuel hg b f g (x.1 + 1) x.2 (by omega) (by omega) (by omega) (by omega)
   ·rfl
/-- one of a condition's numbers -/
def numOne (L : List Tok) (i : Nat) (l : List Int) : Except (Nat × Nat) (Nat × List Int) := numT L i >>= fun x => pure (x.1, l ++ [x.2])
theorem numOne_goes (L : List Tok) : Goes L (numOne L) := by
 intro i l x h
 obtain ⟨a, h1, h2⟩ := bind_ok h
 obtain ⟨h3, h4⟩ := num_ok h1
 cases h2
 dsimp only; omega
theorem nums_list (L : List Tok) : ∀ (f i : Nat) (l : List Int), numsS L f i l = listS (numOne L) L [44] f i l
 | 0, _, _ => rfl
 | f + 1, i, l => by
  show (numT L i >>= fun x => if wordAt L x.1 [44] = true then numsS L f (x.1 + 1) (l ++ [x.2]) else pure (x.1, l ++ [x.2])) = (numOne L i l >>= fun x => if wordAt L x.1 [44] = true then listS (numOne L) L [44] f (x.1 + 1) x.2 else pure (x.1, x.2))
  unfold numOne
  rcases h : numT L i with e | x
  ·rfl
  ·show (if wordAt L x.1 [44] = true then numsS L f (x.1 + 1) (l ++ [x.2]) else pure (x.1, l ++ [x.2])) = (if wordAt L x.1 [44] = true then listS (numOne L) L [44] f (x.1 + 1) (l ++ [x.2]) else pure (x.1, l ++ [x.2]))
   rw [nums_list L f]
end Go.Proofs.YtaofjnidniekjaaGreatDoor
