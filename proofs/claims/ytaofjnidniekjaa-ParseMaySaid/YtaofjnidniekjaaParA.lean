/- What package parse reads, by definition (plain): a query out of tokens, or the place and the reason of the first fault. No conditions. -/
import Derived.Test.YtaofjnidniekjaaLexE
namespace Go.Proofs.Ytaofjnidniekjaa
open Go.RowKit

/-- a query, without the places of its lists -/
structure QP where
  group : Int
  flts : List (Int × List Int)
  cols : List (Int × Int)
  ord : List (Int × Bool)
  limit : Int
def QP.nul : QP := ⟨0, [], [], [], 0⟩
/- a reading: .ok (the next token's place, what was read) or .error (the fault's token, its error) -/
def tokAt (L : List Tok) (i : Nat) : Tok := L.getD i ⟨0, ByteArray.empty, 0, 0⟩
/-- a word or a sign -/
def wordAt (L : List Tok) (i : Nat) (t : List UInt8) : Bool := decide (((tokAt L i).k = 1 ∨ (tokAt L i).k = 4) ∧ (tokAt L i).t.data.toList = t)
def wantS (L : List Tok) (i : Nat) (t : List UInt8) : Except (Nat × Nat) Nat := if wordAt L i t then .ok (i + 1) else .error (i, 6)
def numT (L : List Tok) (i : Nat) : Except (Nat × Nat) (Nat × Int) := if (tokAt L i).k = 3 then .ok (i + 1, (tokAt L i).n) else .error (i, 6)
/-- the place of a name among some; 11 where it is none of them -/
def nameS (names : List ByteArray) (L : List Tok) (i : Nat) : Except (Nat × Nat) (Nat × Nat) :=
  if (tokAt L i).k = 2 then (if place names (tokAt L i).t < 0 then .error (i, 11) else .ok (i + 1, (place names (tokAt L i).t).toNat)) else .error (i, 6)
def aggW : List (List UInt8) := [[99, 111, 117, 110, 116], [115, 117, 109], [109, 105, 110], [109, 97, 120], [109, 101, 97, 110], [100, 101, 118], [115, 104, 97, 114, 101]]
/-- the kind of the column that begins here -/
def kindAt (L : List Tok) (i : Nat) : List (List UInt8) → Nat → Option Nat
  | [], _ => none
  | w :: l, k => if wordAt L i w then some k else kindAt L i l (k + 1)
def colS (meas : List ByteArray) (L : List Tok) (i : Nat) (q : QP) : Except (Nat × Nat) (Nat × QP) :=
  match kindAt L i aggW 0 with
  | none => .error (i, 6)
  | some 0 => .ok (i + 1, { q with cols := q.cols ++ [(0, 0)] })
  | some (k + 1) => do
    let i ← wantS L (i + 1) [40]
    let (i, m) ← nameS meas L i
    let i ← wantS L i [41]
    return (i, { q with cols := q.cols ++ [(((k + 1 : Nat) : Int), (m : Int))] })
/-- numbers with commas between -/
def numsS (L : List Tok) : Nat → Nat → List Int → Except (Nat × Nat) (Nat × List Int)
  | 0, i, _ => .error (i, 6)
  | f + 1, i, l => do
    let (i, n) ← numT L i
    if wordAt L i [44] then numsS L f (i + 1) (l ++ [n]) else return (i, l ++ [n])
def condS (dims : List ByteArray) (L : List Tok) (i : Nat) (q : QP) : Except (Nat × Nat) (Nat × QP) := do
  let (i, d) ← nameS dims L i
  if wordAt L i [61] then
    let (i, n) ← numT L (i + 1)
    return (i, { q with flts := q.flts ++ [((d : Int), [n])] })
  else
    let i ← wantS L i [105, 110]
    let i ← wantS L i [40]
    if wordAt L i [41] then return (i + 1, { q with flts := q.flts ++ [((d : Int), [])] })
    else
      let (i, l) ← numsS L L.length i []
      let i ← wantS L i [41]
      return (i, { q with flts := q.flts ++ [((d : Int), l)] })
def groupS (dims : List ByteArray) (L : List Tok) (i : Nat) (q : QP) : Except (Nat × Nat) (Nat × QP) := do
  let (j, d) ← nameS dims L i
  if q.group / 2 ^ d % 2 = 1 then .error (i, 9) else return (j, { q with group := q.group + 2 ^ d })
def ordS (L : List Tok) (i : Nat) (q : QP) : Except (Nat × Nat) (Nat × QP) := do
  let (i, n) ← numT L i
  if wordAt L i [100, 101, 115, 99] then return (i + 1, { q with ord := q.ord ++ [(n - 1, true)] })
  else if wordAt L i [97, 115, 99] then return (i + 1, { q with ord := q.ord ++ [(n - 1, false)] })
  else return (i, { q with ord := q.ord ++ [(n - 1, false)] })
/-- things with a word or a sign between -/
def listS {σ : Type} (one : Nat → σ → Except (Nat × Nat) (Nat × σ)) (L : List Tok) (b : List UInt8) : Nat → Nat → σ → Except (Nat × Nat) (Nat × σ)
  | 0, i, _ => .error (i, 6)
  | f + 1, i, q => do
    let (i, q) ← one i q
    if wordAt L i b then listS one L b f (i + 1) q else return (i, q)
/-- a part that may be missing -/
def partS (one : Nat → QP → Except (Nat × Nat) (Nat × QP)) (L : List Tok) (h b : List UInt8) (x : Nat × QP) : Except (Nat × Nat) (Nat × QP) :=
  if wordAt L x.1 h then listS one L b L.length (x.1 + 1) x.2 else .ok x
def limS (L : List Tok) (x : Nat × QP) : Except (Nat × Nat) (Nat × QP) := if wordAt L x.1 [108, 105, 109, 105, 116] then (do let (i, n) ← numT L (x.1 + 1); return (i, { x.2 with limit := n })) else .ok x
def endS (L : List Tok) (x : Nat × QP) : Except (Nat × Nat) (Nat × QP) := if (tokAt L x.1).k = 0 then return x else .error (x.1, 6)
def queryS (dims meas : List ByteArray) (L : List Tok) : Except (Nat × Nat) (Nat × QP) := do
  let i ← wantS L 0 [115, 101, 108, 101, 99, 116]
  let x ← listS (colS meas L) L [44] L.length i QP.nul
  let x ← partS (groupS dims L) L [98, 121] [44] x
  let x ← partS (condS dims L) L [119, 104, 101, 114, 101] [97, 110, 100] x
  let x ← partS (ordS L) L [111, 114, 100, 101, 114] [44] x
  let x ← limS L x
  endS L x
end Go.Proofs.Ytaofjnidniekjaa
