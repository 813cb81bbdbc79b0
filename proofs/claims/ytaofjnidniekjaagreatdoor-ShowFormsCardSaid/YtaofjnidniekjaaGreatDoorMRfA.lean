/- The reference's reading, state by state (plain): it ends where the reading of XParA ends. No conditions. -/
import Derived.Test.YtaofjnidniekjaaGreatDoorMPaA
import Derived.Test.YtaofjnidniekjaaGreatDoorMPaB
import Derived.Test.YtaofjnidniekjaaGreatDoorMRs1
namespace Go.Proofs.YtaofjnidniekjaaGreatDoor
open Go.RowKit

structure PState where
 at' : Nat
 q : QP
 err : Nat
def isR (L : List Tok) (p : PState) (t : List UInt8) : Bool := decide (p.err = 0) && wordAt L p.at' t
def onR (p : PState) : PState := { p with at' := p.at' + 1 }
def failR (p : PState) (e : Nat) : PState := if p.err = 0 then { p with err := e } else p
def wantR (L : List Tok) (p : PState) (t : List UInt8) : PState := if isR L p t then onR p else failR p 6
def numTR (L : List Tok) (p : PState) : PState × Int := if p.err ≠ 0 ∨ (tokAt L p.at').k ≠ 3 then (failR p 6, 0) else (onR p, (tokAt L p.at').n)
def placeR (names : List ByteArray) (L : List Tok) (p : PState) : PState × Nat :=
 if p.err ≠ 0 ∨ (tokAt L p.at').k ≠ 2 then (failR p 6, 0) else if place names (tokAt L p.at').t < 0 then (failR p 11, 0) else (onR p, (place names (tokAt L p.at').t).toNat)
/-- what a state says of a reading -/
def SaysR (p : PState) (r : Except (Nat × Nat) (Nat × QP)) : Prop := match r with
 | .ok x => p = ⟨x.1, x.2, 0⟩
 | .error e => p.at' = e.1 ∧ p.err = e.2 ∧ e.2 ≠ 0
/-- nothing is behind a fault -/
def StuckR (p p' : PState) : Prop := p'.at' = p.at' ∧ p'.err = p.err
theorem StuckR.refl (p : PState) : StuckR p p := ⟨rfl, rfl⟩
theorem six (a : Nat) : ((a, 6) : Nat × Nat).2 ≠ 0 := fun h => absurd (show (6 : Nat) = 0 from h) (by decide)
theorem six' (i : Nat) (q : QP) : (⟨i, q, 6⟩ : PState).err ≠ 0 := fun h => absurd (show (6 : Nat) = 0 from h) (by decide)
theorem is_stuck {L : List Tok} {p : PState} {t : List UInt8} (h : p.err ≠ 0) : isR L p t = false := by unfold isR; rw [decide_eq_false h]; rfl
theorem is_ok {L : List Tok} {i : Nat} {q : QP} {t : List UInt8} : isR L ⟨i, q, 0⟩ t = wordAt L i t := by unfold isR; rw [decide_eq_true rfl]; rfl
theorem fail_stuck {p : PState} {e : Nat} (h : p.err ≠ 0) : failR p e = p := by unfold failR; rw [if_neg h]
theorem want_stuck {L : List Tok} {p : PState} {t : List UInt8} (h : p.err ≠ 0) : wantR L p t = p := by unfold wantR; rw [is_stuck h, if_neg (by decide), fail_stuck h]
theorem place_stuck {names : List ByteArray} {L : List Tok} {p : PState} (h : p.err ≠ 0) : placeR names L p = (p, 0) := by unfold placeR; rw [if_pos (.inl h), fail_stuck h]
theorem want_says (L : List Tok) (i : Nat) (q : QP) (t : List UInt8) : (∃ j, wantS L i t = .ok j ∧ wantR L ⟨i, q, 0⟩ t = ⟨j, q, 0⟩) ∨ (wantS L i t = .error (i, 6) ∧ wantR L ⟨i, q, 0⟩ t = ⟨i, q, 6⟩) := by
 unfold wantR wantS
 rw [is_ok]
 cases wordAt L i t
 ·exact .inr ⟨rfl, rfl⟩
 ·exact .inl ⟨_, rfl, rfl⟩
theorem num_says (L : List Tok) (i : Nat) (q : QP) : (∃ j n, numT L i = .ok (j, n) ∧ numTR L ⟨i, q, 0⟩ = (⟨j, q, 0⟩, n)) ∨ (numT L i = .error (i, 6) ∧ numTR L ⟨i, q, 0⟩ = (⟨i, q, 6⟩, 0)) := by
 unfold numTR numT
 by_cases h : (tokAt L i).k = 3
 ·rw [if_pos h, if_neg (by simp [h])]
  exact .inl ⟨_, _, rfl, rfl⟩
 ·rw [if_neg h, if_pos (.inr h)]
  exact .inr ⟨rfl, rfl⟩
theorem place_says (names : List ByteArray) (L : List Tok) (i : Nat) (q : QP) : (∃ j n, nameS names L i = .ok (j, n) ∧ placeR names L ⟨i, q, 0⟩ = (⟨j, q, 0⟩, n)) ∨ (∃ e, e ≠ 0 ∧ nameS names L i = .error (i, e) ∧ placeR names L ⟨i, q, 0⟩ = (⟨i, q, e⟩, 0)) := by
 unfold placeR nameS
 by_cases h : (tokAt L i).k = 2
 ·have hnn : ¬ ((⟨i, q, 0⟩ : PState).err ≠ 0 ∨ (tokAt L (⟨i, q, 0⟩ : PState).at').k ≠ 2) := by
   rintro (h1 | h1)
   ·exact h1 rfl
   ·exact h1 h
  rw [if_pos h, if_neg hnn]
  by_cases hp : place names (tokAt L i).t < 0
  ·rw [if_pos hp]; rw [if_pos hp]; exact .inr ⟨11, by decide, rfl, rfl⟩
  ·rw [if_neg hp]; rw [if_neg hp]; exact .inl ⟨_, _, rfl, rfl⟩
 ·rw [if_neg h, if_pos (.inr h)]
  exact .inr ⟨6, by decide, rfl, rfl⟩
/-- a column -/
def colR (meas : List ByteArray) (L : List Tok) (p : PState) : PState :=
 match (if p.err = 0 then kindAt L p.at' aggW 0 else none) with
 | none => failR p 6
 | some 0 => { onR p with q := { p.q with cols := p.q.cols ++ [(0, 0)] } }
 | some (k + 1) =>
  let x := placeR meas L (wantR L (onR p) [40])
  let y := wantR L x.1 [41]
  { y with q := { y.q with cols := y.q.cols ++ [(((k + 1 : Nat) : Int), (x.2 : Int))] } }
theorem col_stuck {meas : List ByteArray} {L : List Tok} {p : PState} (h : p.err ≠ 0) : StuckR p (colR meas L p) := by
 unfold colR; rw [if_neg h]; dsimp only; rw [fail_stuck h]; exact StuckR.refl p
theorem col_says (meas : List ByteArray) (L : List Tok) (i : Nat) (q : QP) : SaysR (colR meas L ⟨i, q, 0⟩) (colS meas L i q) := by
 unfold colR colS
 rw [if_pos rfl]
 dsimp only
 cases kindAt L i aggW 0 with
 | none => exact ⟨rfl, rfl, six _⟩
 | some k =>
  cases k with
  | zero => rfl
  | succ k =>
   dsimp only [onR]
   rcases want_says L (i + 1) q [40] with ⟨j, h1, h2⟩ | ⟨h1, h2⟩
   ·rw [h1, h2]
    rcases place_says meas L j q with ⟨j2, n, h3, h4⟩ | ⟨e, he, h3, h4⟩
    ·show SaysR _ (nameS meas L j >>= _)
     rw [h3, h4]
     rcases want_says L j2 q [41] with ⟨j3, h5, h6⟩ | ⟨h5, h6⟩
     ·show SaysR _ (wantS L j2 [41] >>= _)
      rw [h5]; dsimp only; rw [h6]; rfl
     ·show SaysR _ (wantS L j2 [41] >>= _)
      rw [h5]; dsimp only; rw [h6]; exact ⟨rfl, rfl, six _⟩
    ·show SaysR _ (nameS meas L j >>= _)
     rw [h3, h4]; dsimp only; rw [want_stuck he]; exact ⟨rfl, rfl, he⟩
   ·rw [h1, h2, place_stuck (six' _ _)]; dsimp only; rw [want_stuck (six' _ _)]; exact ⟨rfl, rfl, six _⟩
/-- what rows are put in order by -/
def ordR (L : List Tok) (p : PState) : PState :=
 let x := numTR L p
 let d := isR L x.1 [100, 101, 115, 99]
 let y := if d || isR L x.1 [97, 115, 99] then onR x.1 else x.1
 { y with q := { y.q with ord := y.q.ord ++ [(x.2 - 1, d)] } }
theorem ord_says (L : List Tok) (i : Nat) (q : QP) : SaysR (ordR L ⟨i, q, 0⟩) (ordS L i q) := by
 unfold ordR ordS
 rcases num_says L i q with ⟨j, n, h1, h2⟩ | ⟨h1, h2⟩
 ·show SaysR _ (numT L i >>= _)
  rw [h1, h2]
  dsimp only
  rw [is_ok, is_ok]
  show SaysR _ (if wordAt L j [100, 101, 115, 99] = true then _ else _)
  cases wordAt L j [100, 101, 115, 99]
  ·show SaysR _ (if wordAt L j [97, 115, 99] = true then _ else _)
   cases wordAt L j [97, 115, 99] <;> rfl
  ·rfl
 ·show SaysR _ (numT L i >>= _)
  rw [h1, h2]
  dsimp only
  rw [is_stuck (six' _ _), is_stuck (six' _ _)]
  exact ⟨rfl, rfl, six _⟩
/-- a name behind by -/
def groupR (dims : List ByteArray) (L : List Tok) (p : PState) : PState :=
 let x := placeR dims L p
 if x.1.err = 0 ∧ p.q.group / 2 ^ x.2 % 2 = 1 then failR p 9
 else if x.1.err = 0 then { x.1 with q := { x.1.q with group := x.1.q.group + 2 ^ x.2 } } else x.1
theorem group_says (dims : List ByteArray) (L : List Tok) (i : Nat) (q : QP) : SaysR (groupR dims L ⟨i, q, 0⟩) (groupS dims L i q) := by
 unfold groupR groupS
 rcases place_says dims L i q with ⟨j, d, h1, h2⟩ | ⟨e, he, h1, h2⟩
 ·show SaysR _ (nameS dims L i >>= _)
  rw [h1, h2]
  show SaysR _ (if q.group / 2 ^ d % 2 = 1 then _ else _)
  by_cases hg : q.group / 2 ^ d % 2 = 1
  ·rw [if_pos hg]
   dsimp only
   rw [if_pos ⟨rfl, hg⟩]
   exact ⟨rfl, rfl, fun h => absurd (show (9 : Nat) = 0 from h) (by decide)⟩
  ·rw [if_neg hg]
   dsimp only
   rw [if_neg (fun k => hg k.2), if_pos rfl]
   rfl
 ·show SaysR _ (nameS dims L i >>= _)
  rw [h1, h2]
  dsimp only
  rw [if_neg (fun k => he k.1), if_neg he]
  exact ⟨rfl, rfl, he⟩
/-- the numbers of a condition -/
def codesR (L : List Tok) : Nat → PState → List Int → PState × List Int
 | 0, p, l => (failR p 6, l)
 | f + 1, p, l => if p.err ≠ 0 then (p, l) else if isR L (numTR L p).1 [44] then codesR L f (onR (numTR L p).1) (l ++ [(numTR L p).2]) else ((numTR L p).1, l ++ [(numTR L p).2])
theorem codes_stuck {L : List Tok} {p : PState} (h : p.err ≠ 0) : ∀ (f : Nat) (l : List Int), codesR L f p l = (p, l)
 | 0, l => by unfold codesR; rw [fail_stuck h]
 | f + 1, l => by unfold codesR; rw [if_pos h]
theorem codes_says (L : List Tok) (q : QP) : ∀ (f i : Nat) (l : List Int), (∃ j l', numsS L f i l = .ok (j, l') ∧ codesR L f ⟨i, q, 0⟩ l = (⟨j, q, 0⟩, l')) ∨ (∃ j l', numsS L f i l = .error (j, 6) ∧ codesR L f ⟨i, q, 0⟩ l = (⟨j, q, 6⟩, l'))
 | 0, i, l => .inr ⟨i, l, rfl, rfl⟩
 | f + 1, i, l => by
  unfold codesR
  rw [if_neg (fun h => h rfl)]
  rcases num_says L i q with ⟨j, n, h1, h2⟩ | ⟨h1, h2⟩
  ·have e : numsS L (f + 1) i l = if wordAt L j [44] = true then numsS L f (j + 1) (l ++ [n]) else .ok (j, l ++ [n]) := by
    show (numT L i >>= _) = _
    rw [h1]; rfl
   rw [e, h2]
   dsimp only
   rw [is_ok]
   cases wordAt L j [44]
   ·exact .inl ⟨_, _, rfl, rfl⟩
   ·exact codes_says L q f (j + 1) (l ++ [n])
  ·have e : numsS L (f + 1) i l = .error (i, 6) := by
    show (numT L i >>= _) = _
    rw [h1]; rfl
   rw [e, h2]
   dsimp only
   rw [is_stuck (six' _ _)]
   exact .inr ⟨_, _, rfl, rfl⟩
/-- a condition -/
def condR (dims : List ByteArray) (L : List Tok) (p : PState) : PState :=
 let x := placeR dims L p
 if isR L x.1 [61] then
  let y := numTR L (onR x.1)
  { y.1 with q := { y.1.q with flts := y.1.q.flts ++ [((x.2 : Int), [y.2])] } }
 else
  let y := wantR L (wantR L x.1 [105, 110]) [40]
  let z := if isR L y [41] then (y, []) else codesR L L.length y []
  let v := wantR L z.1 [41]
  { v with q := { v.q with flts := v.q.flts ++ [((x.2 : Int), z.2)] } }
theorem cond_says (dims : List ByteArray) (L : List Tok) (i : Nat) (q : QP) : SaysR (condR dims L ⟨i, q, 0⟩) (condS dims L i q) := by
 unfold condR condS
 rcases place_says dims L i q with ⟨j, d, h1, h2⟩ | ⟨e, he, h1, h2⟩
 ·show SaysR _ (nameS dims L i >>= _)
  rw [h1, h2]
  dsimp only
  rw [is_ok]
  show SaysR _ (if wordAt L j [61] = true then _ else _)
  cases wordAt L j [61]
  ·show SaysR _ (wantS L j [105, 110] >>= _)
   rcases want_says L j q [105, 110] with ⟨j2, h3, h4⟩ | ⟨h3, h4⟩
   ·rw [h3]
    show SaysR _ (wantS L j2 [40] >>= _)
    simp only [h4, Bool.false_eq_true, if_false]
    rcases want_says L j2 q [40] with ⟨j3, h5, h6⟩ | ⟨h5, h6⟩
    ·rw [h5]
     simp only [h6, is_ok]
     show SaysR _ (if wordAt L j3 [41] = true then _ else _)
     cases hw : wordAt L j3 [41]
     ·simp only [Bool.false_eq_true, if_false]
      show SaysR _ (numsS L L.length j3 [] >>= _)
      rcases codes_says L q L.length j3 [] with ⟨j4, l, h7, h8⟩ | ⟨j4, l, h7, h8⟩
      ·rw [h7]
       show SaysR _ (wantS L j4 [41] >>= _)
       simp only [h8]
       rcases want_says L j4 q [41] with ⟨j5, h9, h10⟩ | ⟨h9, h10⟩
       ·rw [h9]; simp only [h10]; rfl
       ·rw [h9]; simp only [h10]; exact ⟨rfl, rfl, six _⟩
      ·rw [h7]
       simp only [h8, want_stuck (six' _ _)]
       exact ⟨rfl, rfl, six _⟩
     ·simp only [if_true]
      have e : wantR L ⟨j3, q, 0⟩ [41] = ⟨j3 + 1, q, 0⟩ := by unfold wantR; rw [is_ok, hw]; rfl
      rw [e]; rfl
    ·rw [h5]
     simp only [h6, is_stuck (six' _ _), codes_stuck (six' _ _), want_stuck (six' _ _), Bool.false_eq_true, if_false]
     exact ⟨rfl, rfl, six _⟩
   ·rw [h3]
    simp only [h4, is_stuck (six' _ _), codes_stuck (six' _ _), want_stuck (six' _ _), Bool.false_eq_true, if_false]
    exact ⟨rfl, rfl, six _⟩
  ·show SaysR _ (numT L (j + 1) >>= _)
   simp only [if_true]
   rcases num_says L (j + 1) q with ⟨j2, n, h3, h4⟩ | ⟨h3, h4⟩
   ·rw [h3]; simp only [onR, h4]; rfl
   ·rw [h3]; simp only [onR, h4]; exact ⟨rfl, rfl, six _⟩
 ·show SaysR _ (nameS dims L i >>= _)
  rw [h1, h2]
  simp only [is_stuck (p := ⟨i, q, e⟩) he, want_stuck (p := ⟨i, q, e⟩) he, codes_stuck (p := ⟨i, q, e⟩) he, Bool.false_eq_true, if_false]
  exact ⟨rfl, rfl, he⟩
/-- a part's things -/
def partR (one : PState → PState) (L : List Tok) (b : List UInt8) : Nat → PState → PState
 | 0, p => failR p 6
 | f + 1, p => if isR L (one p) b then partR one L b f (onR (one p)) else one p
theorem part_stuck {one : PState → PState} (L : List Tok) (b : List UInt8) (ho : ∀ p : PState, p.err ≠ 0 → StuckR p (one p)) {p : PState} (h : p.err ≠ 0) : ∀ f, StuckR p (partR one L b f p)
 | 0 => by unfold partR; rw [fail_stuck h]; exact StuckR.refl p
 | f + 1 => by
  have h1 := ho p h
  have h2 : (one p).err ≠ 0 := by rw [h1.2]; exact h
  unfold partR
  rw [is_stuck h2, if_neg (by decide)]
  exact h1
theorem part_says {one : PState → PState} {oneS : Nat → QP → Except (Nat × Nat) (Nat × QP)} (L : List Tok) (b : List UInt8) (ho : ∀ i q, SaysR (one ⟨i, q, 0⟩) (oneS i q)) : ∀ f i q, SaysR (partR one L b f ⟨i, q, 0⟩) (listS oneS L b f i q)
 | 0, i, q => ⟨rfl, rfl, six _⟩
 | f + 1, i, q => by
  have h := ho i q
  show SaysR _ (oneS i q >>= fun x => if wordAt L x.1 b = true then listS oneS L b f (x.1 + 1) x.2 else pure (x.1, x.2))
  unfold partR
  rcases hx : oneS i q with e | x
  ·rw [hx] at h
   obtain ⟨h1, h2, h3⟩ := h
   have h4 : (one ⟨i, q, 0⟩).err ≠ 0 := by rw [h2]; exact h3
   rw [is_stuck h4, if_neg (by decide)]
   exact ⟨h1, h2, h3⟩
  ·rw [hx] at h
   have h : one ⟨i, q, 0⟩ = ⟨x.1, x.2, 0⟩ := h
   rw [h, is_ok]
   show SaysR _ (if wordAt L x.1 b = true then listS oneS L b f (x.1 + 1) x.2 else pure (x.1, x.2))
   cases wordAt L x.1 b
   ·rfl
   ·exact part_says L b ho f (x.1 + 1) x.2
theorem says_bind {p : PState} {r : Except (Nat × Nat) (Nat × QP)} {g : PState → PState} {k : Nat × QP → Except (Nat × Nat) (Nat × QP)} (h : SaysR p r) (hs : ∀ p : PState, p.err ≠ 0 → StuckR p (g p)) (ho : ∀ i q, SaysR (g ⟨i, q, 0⟩) (k (i, q))) : SaysR (g p) (r >>= k) := by
 rcases r with e | x
 ·obtain ⟨h1, h2, h3⟩ := h
  have h4 : p.err ≠ 0 := by rw [h2]; exact h3
  obtain ⟨h5, h6⟩ := hs p h4
  exact ⟨h5.trans h1, h6.trans h2, h3⟩
 ·have h : p = ⟨x.1, x.2, 0⟩ := h
  rw [h]
  exact ho x.1 x.2
/-- a part that may be missing -/
def stepR (one : PState → PState) (L : List Tok) (hd b : List UInt8) (p : PState) : PState := if isR L p hd then partR one L b L.length (onR p) else p
theorem step_stuck {one : PState → PState} (L : List Tok) (hd b : List UInt8) (p : PState) (h : p.err ≠ 0) : StuckR p (stepR one L hd b p) := by
 unfold stepR; rw [is_stuck h, if_neg (by decide)]; exact StuckR.refl p
theorem step_says {one : PState → PState} {oneS : Nat → QP → Except (Nat × Nat) (Nat × QP)} (L : List Tok) (hd b : List UInt8) (ho : ∀ i q, SaysR (one ⟨i, q, 0⟩) (oneS i q)) (i : Nat) (q : QP) : SaysR (stepR one L hd b ⟨i, q, 0⟩) (partS oneS L hd b (i, q)) := by
 unfold stepR partS
 rw [is_ok]
 dsimp only
 cases wordAt L i hd
 ·rfl
 ·exact part_says L b ho L.length (i + 1) q
def limR (L : List Tok) (p : PState) : PState := if isR L p [108, 105, 109, 105, 116] then { (numTR L (onR p)).1 with q := { (numTR L (onR p)).1.q with limit := (numTR L (onR p)).2 } } else p
theorem lim_stuck (L : List Tok) (p : PState) (h : p.err ≠ 0) : StuckR p (limR L p) := by
 unfold limR; rw [is_stuck h, if_neg (by decide)]; exact StuckR.refl p
theorem lim_says (L : List Tok) (i : Nat) (q : QP) : SaysR (limR L ⟨i, q, 0⟩) (limS L (i, q)) := by
 unfold limR limS
 rw [is_ok]
 dsimp only [onR]
 cases wordAt L i [108, 105, 109, 105, 116]
 ·rfl
 ·simp only [if_true]
  rcases num_says L (i + 1) q with ⟨j, n, h1, h2⟩ | ⟨h1, h2⟩
  ·rw [h1, h2]; rfl
  ·rw [h1, h2]; exact ⟨rfl, rfl, six _⟩
def endR (L : List Tok) (p : PState) : PState := if p.err = 0 ∧ (tokAt L p.at').k ≠ 0 then failR p 6 else p
theorem end_stuck (L : List Tok) (p : PState) (h : p.err ≠ 0) : StuckR p (endR L p) := by
 unfold endR; rw [if_neg (fun k => h k.1)]; exact StuckR.refl p
theorem end_says (L : List Tok) (i : Nat) (q : QP) : SaysR (endR L ⟨i, q, 0⟩) (endS L (i, q)) := by
 unfold endR endS
 dsimp only
 by_cases h : (tokAt L i).k = 0
 ·rw [if_pos h, if_neg (fun k => k.2 h)]; rfl
 ·rw [if_neg h, if_pos ⟨rfl, h⟩]; exact ⟨rfl, rfl, six _⟩
/-- the whole reading -/
def queryR (dims meas : List ByteArray) (L : List Tok) : PState :=
 endR L (limR L (stepR (ordR L) L [111, 114, 100, 101, 114] [44] (stepR (condR dims L) L [119, 104, 101, 114, 101] [97, 110, 100] (stepR (groupR dims L) L [98, 121] [44] (partR (colR meas L) L [44] L.length (wantR L ⟨0, QP.nul, 0⟩ [115, 101, 108, 101, 99, 116]))))))
theorem query_says (dims meas : List ByteArray) (L : List Tok) : SaysR (queryR dims meas L) (queryS dims meas L) := by
 have e : queryS dims meas L = ((((((wantS L 0 [115, 101, 108, 101, 99, 116] >>= fun i => (pure (i, QP.nul) : Except (Nat × Nat) (Nat × QP))) >>= fun x => listS (colS meas L) L [44] L.length x.1 x.2) >>= partS (groupS dims L) L [98, 121] [44]) >>= partS (condS dims L) L [119, 104, 101, 114, 101] [97, 110, 100]) >>= partS (ordS L) L [111, 114, 100, 101, 114] [44]) >>= limS L) >>= endS L := by
  unfold queryS
  simp only [bind_assoc, pure_bind]
 rw [e]
 unfold queryR
 refine says_bind (says_bind (says_bind (says_bind (says_bind (says_bind ?_ (fun p h => part_stuck L _ (fun p h => col_stuck h) h _) (fun i q => part_says L _ (col_says meas L) _ i q)) (step_stuck L _ _) (step_says L _ _ (group_says dims L))) (step_stuck L _ _) (step_says L _ _ (cond_says dims L))) (step_stuck L _ _) (step_says L _ _ (ord_says L))) (lim_stuck L) (lim_says L)) (end_stuck L) (end_says L)
 rcases want_says L 0 QP.nul [115, 101, 108, 101, 99, 116] with ⟨j, h1, h2⟩ | ⟨h1, h2⟩
 ·rw [h1, h2]; rfl
 ·rw [h1, h2]; exact ⟨rfl, rfl, six _⟩
end Go.Proofs.YtaofjnidniekjaaGreatDoor
/- The reference's reading (package bushelref36): its state, and next, is, on, fail, want. Conditions: those stated. -/
namespace Go.Proofs.YtaofjnidniekjaaGreatDoor
open Go.RowKit

/-- what lies under a reading -/
structure RX where
 l : SchL
 s : Sch
 ta : Option Addr
 tc : Nat
 L : List Tok
structure RX.At (X : RX) (w : World) : Prop where
 sch : SchAt w X.l X.s
 chk : chkS X.s = 0
 tok : OwnT w 0 109 (.slice X.ta X.L.length X.tc) X.L.length X.L
 good : TokOk X.L
theorem RX.At.below {X : RX} {w w' : World} {B : Nat} (h : X.At w) (hb : Below B w w') (hB : w.heap.size ≤ B) : X.At w' := ⟨h.sch.below hb hB, h.chk, h.tok.below hb hB, h.good⟩
/-- a state's value: its query's rows at the places m -/
def StV (X : RX) (m : QryL) (p : PState) : Value := .agg #[.slice X.l.ad X.l.nd X.l.cd, .slice X.l.ai X.l.ni X.l.ci, .slice X.l.an X.l.nn X.l.cn, .slice X.l.av X.l.nv X.l.cv, .slice X.ta X.L.length X.tc, .int .i64 (p.at' : Int), .int .u32 p.q.group, .slice m.af m.nf m.cf, .slice m.ac m.nc m.cc, .slice m.ao m.no m.co, .int .i64 p.q.limit, .int .i64 (p.err : Int)]
theorem tok_f0' (k n a : Int) (t : ByteArray) (w : World) : (Instr.field 109 (.agg #[.int .i64 k, .string t, .int .i64 n, .int .i64 a]) 0).run Tryz.prog w = .ok (.int .i64 k) w := by kernel_rfl
theorem tok_f1' (k n a : Int) (t : ByteArray) (w : World) : (Instr.field 109 (.agg #[.int .i64 k, .string t, .int .i64 n, .int .i64 a]) 1).run Tryz.prog w = .ok (.string t) w := by kernel_rfl
theorem tok_f2' (k n a : Int) (t : ByteArray) (w : World) : (Instr.field 109 (.agg #[.int .i64 k, .string t, .int .i64 n, .int .i64 a]) 2).run Tryz.prog w = .ok (.int .i64 n) w := by kernel_rfl
theorem tok_f3' (k n a : Int) (t : ByteArray) (w : World) : (Instr.field 109 (.agg #[.int .i64 k, .string t, .int .i64 n, .int .i64 a]) 3).run Tryz.prog w = .ok (.int .i64 a) w := by kernel_rfl

theorem blk_st4 {w : World} {b : Nat} {t : TypeId} {d0 d1 d2 d3 : Value} (h : Blk w b t #[d0, d1, d2, d3]) (c0 c1 c2 c3 : Value) : Blk ((((w.setCell ⟨b, 0, none⟩ (c0)).setCell ⟨b, 1, none⟩ (c1)).setCell ⟨b, 2, none⟩ (c2)).setCell ⟨b, 3, none⟩ (c3)) b t #[c0, c1, c2, c3] := ((((((((h.set_ 0 c0).to (cs' := #[c0, d1, d2, d3]) rfl).set_ 1 c1).to (cs' := #[c0, c1, d2, d3]) rfl).set_ 2 c2).to (cs' := #[c0, c1, c2, d3]) rfl).set_ 3 c3).to (cs' := #[c0, c1, c2, c3]) rfl)
theorem below_st4 {w0 w : World} {B b : Nat} (hb : Below B w0 w) (hB : B ≤ b) (c0 c1 c2 c3 : Value) : Below B w0 ((((w.setCell ⟨b, 0, none⟩ (c0)).setCell ⟨b, 1, none⟩ (c1)).setCell ⟨b, 2, none⟩ (c2)).setCell ⟨b, 3, none⟩ (c3)) := (below_set (below_set (below_set (below_set hb (p := ⟨b, 0, none⟩) hB c0) (p := ⟨b, 1, none⟩) hB c1) (p := ⟨b, 2, none⟩) hB c2) (p := ⟨b, 3, none⟩) hB c3)
theorem blk_st5 {w : World} {b : Nat} {t : TypeId} {d0 d1 d2 d3 d4 : Value} (h : Blk w b t #[d0, d1, d2, d3, d4]) (c0 c1 c2 c3 c4 : Value) : Blk (((((w.setCell ⟨b, 0, none⟩ (c0)).setCell ⟨b, 1, none⟩ (c1)).setCell ⟨b, 2, none⟩ (c2)).setCell ⟨b, 3, none⟩ (c3)).setCell ⟨b, 4, none⟩ (c4)) b t #[c0, c1, c2, c3, c4] := ((((((((((h.set_ 0 c0).to (cs' := #[c0, d1, d2, d3, d4]) rfl).set_ 1 c1).to (cs' := #[c0, c1, d2, d3, d4]) rfl).set_ 2 c2).to (cs' := #[c0, c1, c2, d3, d4]) rfl).set_ 3 c3).to (cs' := #[c0, c1, c2, c3, d4]) rfl).set_ 4 c4).to (cs' := #[c0, c1, c2, c3, c4]) rfl)
theorem blk_far5 {w : World} {b g : Nat} {t : TypeId} {cs : Array Value} (h : Blk w g t cs) (hne : g ≠ b) (c0 c1 c2 c3 c4 : Value) : Blk (((((w.setCell ⟨b, 0, none⟩ (c0)).setCell ⟨b, 1, none⟩ (c1)).setCell ⟨b, 2, none⟩ (c2)).setCell ⟨b, 3, none⟩ (c3)).setCell ⟨b, 4, none⟩ (c4)) g t cs := (((((h.far (p := ⟨b, 0, none⟩) hne c0).far (p := ⟨b, 1, none⟩) hne c1).far (p := ⟨b, 2, none⟩) hne c2).far (p := ⟨b, 3, none⟩) hne c3).far (p := ⟨b, 4, none⟩) hne c4)
theorem below_st5 {w0 w : World} {B b : Nat} (hb : Below B w0 w) (hB : B ≤ b) (c0 c1 c2 c3 c4 : Value) : Below B w0 (((((w.setCell ⟨b, 0, none⟩ (c0)).setCell ⟨b, 1, none⟩ (c1)).setCell ⟨b, 2, none⟩ (c2)).setCell ⟨b, 3, none⟩ (c3)).setCell ⟨b, 4, none⟩ (c4)) := (below_set (below_set (below_set (below_set (below_set hb (p := ⟨b, 0, none⟩) hB c0) (p := ⟨b, 1, none⟩) hB c1) (p := ⟨b, 2, none⟩) hB c2) (p := ⟨b, 3, none⟩) hB c3) (p := ⟨b, 4, none⟩) hB c4)
theorem blk_st12 {w : World} {b : Nat} {t : TypeId} {d0 d1 d2 d3 d4 d5 d6 d7 d8 d9 d10 d11 : Value} (h : Blk w b t #[d0, d1, d2, d3, d4, d5, d6, d7, d8, d9, d10, d11]) (c0 c1 c2 c3 c4 c5 c6 c7 c8 c9 c10 c11 : Value) : Blk ((((((((((((w.setCell ⟨b, 0, none⟩ (c0)).setCell ⟨b, 1, none⟩ (c1)).setCell ⟨b, 2, none⟩ (c2)).setCell ⟨b, 3, none⟩ (c3)).setCell ⟨b, 4, none⟩ (c4)).setCell ⟨b, 5, none⟩ (c5)).setCell ⟨b, 6, none⟩ (c6)).setCell ⟨b, 7, none⟩ (c7)).setCell ⟨b, 8, none⟩ (c8)).setCell ⟨b, 9, none⟩ (c9)).setCell ⟨b, 10, none⟩ (c10)).setCell ⟨b, 11, none⟩ (c11)) b t #[c0, c1, c2, c3, c4, c5, c6, c7, c8, c9, c10, c11] := ((((((((((((((((((((((((h.set_ 0 c0).to (cs' := #[c0, d1, d2, d3, d4, d5, d6, d7, d8, d9, d10, d11]) rfl).set_ 1 c1).to (cs' := #[c0, c1, d2, d3, d4, d5, d6, d7, d8, d9, d10, d11]) rfl).set_ 2 c2).to (cs' := #[c0, c1, c2, d3, d4, d5, d6, d7, d8, d9, d10, d11]) rfl).set_ 3 c3).to (cs' := #[c0, c1, c2, c3, d4, d5, d6, d7, d8, d9, d10, d11]) rfl).set_ 4 c4).to (cs' := #[c0, c1, c2, c3, c4, d5, d6, d7, d8, d9, d10, d11]) rfl).set_ 5 c5).to (cs' := #[c0, c1, c2, c3, c4, c5, d6, d7, d8, d9, d10, d11]) rfl).set_ 6 c6).to (cs' := #[c0, c1, c2, c3, c4, c5, c6, d7, d8, d9, d10, d11]) rfl).set_ 7 c7).to (cs' := #[c0, c1, c2, c3, c4, c5, c6, c7, d8, d9, d10, d11]) rfl).set_ 8 c8).to (cs' := #[c0, c1, c2, c3, c4, c5, c6, c7, c8, d9, d10, d11]) rfl).set_ 9 c9).to (cs' := #[c0, c1, c2, c3, c4, c5, c6, c7, c8, c9, d10, d11]) rfl).set_ 10 c10).to (cs' := #[c0, c1, c2, c3, c4, c5, c6, c7, c8, c9, c10, d11]) rfl).set_ 11 c11).to (cs' := #[c0, c1, c2, c3, c4, c5, c6, c7, c8, c9, c10, c11]) rfl)
theorem blk_far12 {w : World} {b g : Nat} {t : TypeId} {cs : Array Value} (h : Blk w g t cs) (hne : g ≠ b) (c0 c1 c2 c3 c4 c5 c6 c7 c8 c9 c10 c11 : Value) : Blk ((((((((((((w.setCell ⟨b, 0, none⟩ (c0)).setCell ⟨b, 1, none⟩ (c1)).setCell ⟨b, 2, none⟩ (c2)).setCell ⟨b, 3, none⟩ (c3)).setCell ⟨b, 4, none⟩ (c4)).setCell ⟨b, 5, none⟩ (c5)).setCell ⟨b, 6, none⟩ (c6)).setCell ⟨b, 7, none⟩ (c7)).setCell ⟨b, 8, none⟩ (c8)).setCell ⟨b, 9, none⟩ (c9)).setCell ⟨b, 10, none⟩ (c10)).setCell ⟨b, 11, none⟩ (c11)) g t cs := ((((((((((((h.far (p := ⟨b, 0, none⟩) hne c0).far (p := ⟨b, 1, none⟩) hne c1).far (p := ⟨b, 2, none⟩) hne c2).far (p := ⟨b, 3, none⟩) hne c3).far (p := ⟨b, 4, none⟩) hne c4).far (p := ⟨b, 5, none⟩) hne c5).far (p := ⟨b, 6, none⟩) hne c6).far (p := ⟨b, 7, none⟩) hne c7).far (p := ⟨b, 8, none⟩) hne c8).far (p := ⟨b, 9, none⟩) hne c9).far (p := ⟨b, 10, none⟩) hne c10).far (p := ⟨b, 11, none⟩) hne c11)
theorem below_st12 {w0 w : World} {B b : Nat} (hb : Below B w0 w) (hB : B ≤ b) (c0 c1 c2 c3 c4 c5 c6 c7 c8 c9 c10 c11 : Value) : Below B w0 ((((((((((((w.setCell ⟨b, 0, none⟩ (c0)).setCell ⟨b, 1, none⟩ (c1)).setCell ⟨b, 2, none⟩ (c2)).setCell ⟨b, 3, none⟩ (c3)).setCell ⟨b, 4, none⟩ (c4)).setCell ⟨b, 5, none⟩ (c5)).setCell ⟨b, 6, none⟩ (c6)).setCell ⟨b, 7, none⟩ (c7)).setCell ⟨b, 8, none⟩ (c8)).setCell ⟨b, 9, none⟩ (c9)).setCell ⟨b, 10, none⟩ (c10)).setCell ⟨b, 11, none⟩ (c11)) := (below_set (below_set (below_set (below_set (below_set (below_set (below_set (below_set (below_set (below_set (below_set (below_set hb (p := ⟨b, 0, none⟩) hB c0) (p := ⟨b, 1, none⟩) hB c1) (p := ⟨b, 2, none⟩) hB c2) (p := ⟨b, 3, none⟩) hB c3) (p := ⟨b, 4, none⟩) hB c4) (p := ⟨b, 5, none⟩) hB c5) (p := ⟨b, 6, none⟩) hB c6) (p := ⟨b, 7, none⟩) hB c7) (p := ⟨b, 8, none⟩) hB c8) (p := ⟨b, 9, none⟩) hB c9) (p := ⟨b, 10, none⟩) hB c10) (p := ⟨b, 11, none⟩) hB c11)
theorem blk12 {w : World} {b : Nat} {t : TypeId} {d0 d1 d2 d3 d4 d5 d6 d7 d8 d9 d10 d11 : Value} (h : Blk w b t #[d0, d1, d2, d3, d4, d5, d6, d7, d8, d9, d10, d11]) : w.cell? ⟨b, 0, none⟩ = some d0 ∧ w.cell? ⟨b, 1, none⟩ = some d1 ∧ w.cell? ⟨b, 2, none⟩ = some d2 ∧ w.cell? ⟨b, 3, none⟩ = some d3 ∧ w.cell? ⟨b, 4, none⟩ = some d4 ∧ w.cell? ⟨b, 5, none⟩ = some d5 ∧ w.cell? ⟨b, 6, none⟩ = some d6 ∧ w.cell? ⟨b, 7, none⟩ = some d7 ∧ w.cell? ⟨b, 8, none⟩ = some d8 ∧ w.cell? ⟨b, 9, none⟩ = some d9 ∧ w.cell? ⟨b, 10, none⟩ = some d10 ∧ w.cell? ⟨b, 11, none⟩ = some d11 := ⟨h.cell 0, h.cell 1, h.cell 2, h.cell 3, h.cell 4, h.cell 5, h.cell 6, h.cell 7, h.cell 8, h.cell 9, h.cell 10, h.cell 11⟩
set_option maxRecDepth 100000 in
theorem vnext_any (X : RX) (m : QryL) (p : PState) (w : World) (hX : X.At w) (hi : p.at' < X.L.length) :
  Calls Tryz.prog 72 #[StV X m p] w fun e w' => e = .returned (tokAt X.L p.at').val ∧ Below w.heap.size w w' := by
 have HX := Lib.hid hX
 obtain ⟨⟨ad, nd, cd, ai, ni, ci, an, nn, cn, av, nv, cv⟩, s, ta, tc, L⟩ := X
 obtain ⟨af, nf, cf, ac, nc, cc, ao, no, co⟩ := m
 obtain ⟨i, ⟨g, fq, cq, oq, lm⟩, er⟩ := p
 (try dsimp only at *)
 obtain ⟨W0, hW0⟩ : ∃ W0, ((w.alloc (.cells #[.slice ad nd cd, .slice ai ni ci, .slice an nn cn, .slice av nv cv, .slice ta L.length tc, .int .i64 (i : Int), .int .u32 g, .slice af nf cf, .slice ac nc cc, .slice ao no co, .int .i64 lm, .int .i64 (er : Int)] 122)).alloc (.cells #[.int .i64 0, .string ⟨#[]⟩, .int .i64 0, .int .i64 0] 109)) = W0 := ⟨_, rfl⟩
 have HB0 : Hid (Below w.heap.size w W0) := Lib.hid (by
  rw [← hW0]
  exact (((Below.refl _ _).alloc (Nat.le_refl _) _).alloc (by simp) _))
 have HZ0 : Hid (W0.heap.size = w.heap.size + 2) := Lib.hid (by rw [← hW0]; simp)
 have HK0 : Hid (Blk W0 (w.heap.size) 122 #[.slice ad nd cd, .slice ai ni ci, .slice an nn cn, .slice av nv cv, .slice ta L.length tc, .int .i64 (i : Int), .int .u32 g, .slice af nf cf, .slice ac nc cc, .slice ao no co, .int .i64 lm, .int .i64 (er : Int)]) := Lib.hid (by
  rw [← hW0]
  have h := Blk.new w 122 #[.slice ad nd cd, .slice ai ni ci, .slice an nn cn, .slice av nv cv, .slice ta L.length tc, .int .i64 (i : Int), .int .u32 g, .slice af nf cf, .slice ac nc cc, .slice ao no co, .int .i64 lm, .int .i64 (er : Int)]
  exact h.alloc _)
 have HK1 : Hid (Blk W0 (w.heap.size + 1) 109 #[.int .i64 0, .string ⟨#[]⟩, .int .i64 0, .int .i64 0]) := Lib.hid (by
  rw [← hW0]
  have h := Blk.new (w.alloc (.cells #[.slice ad nd cd, .slice ai ni ci, .slice an nn cn, .slice av nv cv, .slice ta L.length tc, .int .i64 (i : Int), .int .u32 g, .slice af nf cf, .slice ac nc cc, .slice ao no co, .int .i64 lm, .int .i64 (er : Int)] 122)) 109 #[.int .i64 0, .string ⟨#[]⟩, .int .i64 0, .int .i64 0]
  rw [World.size_alloc] at h
  exact h)
 obtain ⟨gt, hga, hnc, hgl, htc⟩ := ((hX.below HB0.out (Nat.le_refl _)).tok).cell (tokAt_mem hi).1
 have t0 := htc 0 _ rfl
 have t1 := htc 1 _ rfl
 have t2 := htc 2 _ rfl
 have t3 := htc 3 _ rfl
 obtain ⟨⟨k, t, n, a⟩, hx⟩ : ∃ x, tokAt L i = x := ⟨_, rfl⟩
 rw [hx] at t0 t1 t2 t3 ⊢
 simp only [Nat.add_zero] at t0 t1 t2 t3
 unfold Tok.val
 subst hga
 have i0 : (0 : Int) ≤ (i : Int) ∧ (i : Int) < (L.length : Int) := by omega
 clear hX hi hx htc hgl
 (try unfold StV)
 (try dsimp only)
 go_enter Tryz.func72, Tryz.ntmps72
 go_upto_region 1 with fail
 clear hW0
 generalize hS : w.heap.size = S at *
 have HSW := Lib.hid hS
 clear hS
 have c4 := HK0.out.c 4
 have c5 := HK0.out.c 5
 have d0 := HK1.out.c 0
 have d1 := HK1.out.c 1
 have d2 := HK1.out.c 2
 have d3 := HK1.out.c 3
 have df : ∀ o, W0.frozen? ⟨S + 1, o, none⟩ = false := fun o => HK1.out.frozen o
 go_wp2_with fail
 have HKF := Lib.hid (blk_st4 HK1.out (.int .i64 k) (.string t) (.int .i64 n) (.int .i64 a))
 have HBF := Lib.hid (below_st4 HB0.out (b := S + 1) (by have := HSW.out; omega) (.int .i64 k) (.string t) (.int .i64 n) (.int .i64 a))
 generalize ((((W0.setCell ⟨S + 1, 0, none⟩ (.int .i64 k)).setCell ⟨S + 1, 1, none⟩ (.string t)).setCell ⟨S + 1, 2, none⟩ (.int .i64 n)).setCell ⟨S + 1, 3, none⟩ (.int .i64 a)) = Wf at *
 have z0 := HKF.out.c 0
 have z1 := HKF.out.c 1
 have z2 := HKF.out.c 2
 have z3 := HKF.out.c 3
 refine bodyPost_ret (v := .agg #[.int .i64 k, .string t, .int .i64 n, .int .i64 a]) ?_ rfl ⟨rfl, by rw [HSW.out]; exact HBF.out⟩
 simp [results, Tryz.results72, go_sem, z0, z1, z2, z3]

set_option maxRecDepth 100000 in
theorem vis_any (X : RX) (m : QryL) (p : PState) (w : World) (hX : X.At w) (hi : p.at' < X.L.length) (u : ByteArray) (b : Bool) (hb : isR X.L p u.data.toList = b) :
  Calls Tryz.prog 69 #[StV X m p, .string u] w fun e w' => e = .returned (.bool b) ∧ Below w.heap.size w w' := by
 have HN : Hid (∀ w', Below w.heap.size w w' → Calls Tryz.prog 72 #[StV X m p] w' fun e w'' => e = .returned (tokAt X.L p.at').val ∧ Below w'.heap.size w' w'') := Lib.hid (fun w' hb => vnext_any X m p w' (hX.below hb (Nat.le_refl _)) hi)
 unfold isR at hb
 rw [word_iff] at hb
 obtain ⟨⟨k, t, n, a⟩, hx⟩ : ∃ x, tokAt X.L p.at' = x := ⟨_, rfl⟩
 rw [hx] at HN hb
 unfold Tok.val StV at HN
 obtain ⟨⟨ad, nd, cd, ai, ni, ci, an, nn, cn, av, nv, cv⟩, s, ta, tc, L⟩ := X
 obtain ⟨af, nf, cf, ac, nc, cc, ao, no, co⟩ := m
 obtain ⟨i, ⟨g, fq, cq, oq, lm⟩, er⟩ := p
 (try dsimp only at *)
 have HBB := Lib.hid hb
 obtain ⟨W0, hW0⟩ : ∃ W0, (w.alloc (.cells #[.slice ad nd cd, .slice ai ni ci, .slice an nn cn, .slice av nv cv, .slice ta L.length tc, .int .i64 (i : Int), .int .u32 g, .slice af nf cf, .slice ac nc cc, .slice ao no co, .int .i64 lm, .int .i64 (er : Int)] 122)) = W0 := ⟨_, rfl⟩
 have HB0 : Hid (Below w.heap.size w W0) := Lib.hid (by
  rw [← hW0]
  exact ((Below.refl _ _).alloc (Nat.le_refl _) _))
 have HZ0 : Hid (W0.heap.size = w.heap.size + 1) := Lib.hid (by rw [← hW0]; simp)
 have HK0 : Hid (Blk W0 (w.heap.size) 122 #[.slice ad nd cd, .slice ai ni ci, .slice an nn cn, .slice av nv cv, .slice ta L.length tc, .int .i64 (i : Int), .int .u32 g, .slice af nf cf, .slice ac nc cc, .slice ao no co, .int .i64 lm, .int .i64 (er : Int)]) := Lib.hid (by
  rw [← hW0]
  have h := Blk.new w 122 #[.slice ad nd cd, .slice ai ni ci, .slice an nn cn, .slice av nv cv, .slice ta L.length tc, .int .i64 (i : Int), .int .u32 g, .slice af nf cf, .slice ac nc cc, .slice ao no co, .int .i64 lm, .int .i64 (er : Int)]
  exact h)
 clear hX hi hx hb
 (try unfold StV)
 (try dsimp only)
 go_enter Tryz.func69, Tryz.ntmps69
 go_upto_region 1 with fail
 clear hW0
 generalize hS : w.heap.size = S at *
 have HSW := Lib.hid hS
 clear hS
 have c0 := HK0.out.c 0
 have c1 := HK0.out.c 1
 have c2 := HK0.out.c 2
 have c3 := HK0.out.c 3
 have c4 := HK0.out.c 4
 have c5 := HK0.out.c 5
 have c6 := HK0.out.c 6
 have c7 := HK0.out.c 7
 have c8 := HK0.out.c 8
 have c9 := HK0.out.c 9
 have c10 := HK0.out.c 10
 have c11 := HK0.out.c 11
 go_wp2_with fail
 refine (HN.out _ (HB0.out)).mono ?_; rintro e w1 ⟨rfl, hb1⟩
 have HB1 := Lib.hid (HB0.out.trans (hb1.mono (by have := HZ0.out; omega)))
 have hSl : S < w1.heap.size := by have := hb1.size; have := HZ0.out; omega
 have e11 : w1.cell? ⟨S, 11, none⟩ = some (.int .i64 (er : Int)) := by rw [hb1.cell (p := ⟨S, 11, none⟩) (by have := HZ0.out; show S < _; omega)]; exact c11
 clear c0 c1 c2 c3 c4 c5 c6 c7 c8 c9 c10 c11
 clear hb1
 have HBF : Hid (Below S w (w1.alloc (.cells #[.int .i64 k, .string t, .int .i64 n, .int .i64 a] 109))) := Lib.hid (HB1.out.alloc (by omega) _)
 by_cases h0 : er = 0
 ·subst h0
  have t0 : (((0 : Nat) : Int) == 0) = true := rfl
  by_cases h1 : k = 1
  ·subst h1
   by_cases ht : t = u
   ·have q0 := str_eq ht
    have hbt : b = true := by rw [← HBB.out, ht]; simp
    subst ht hbt
    go_wp2_with fail
    go_ret
    exact ⟨rfl, by rw [HSW.out]; exact HBF.out⟩
   ·have q0 := str_ne ht
    have hbt : b = false := by rw [← HBB.out]; simp [ht]
    subst hbt
    clear ht
    go_wp2_with fail
    go_ret
    exact ⟨rfl, by rw [HSW.out]; exact HBF.out⟩
  ·have q1 : (k == 1) = false := by simp; omega
   by_cases h4 : k = 4
   ·subst h4
    by_cases ht : t = u
    ·have q0 := str_eq ht
     have hbt : b = true := by rw [← HBB.out, ht]; simp
     subst ht hbt
     clear h1
     go_wp2_with fail
     go_ret
     exact ⟨rfl, by rw [HSW.out]; exact HBF.out⟩
    ·have q0 := str_ne ht
     have hbt : b = false := by rw [← HBB.out]; simp [ht]
     subst hbt
     clear ht h1
     go_wp2_with fail
     go_ret
     exact ⟨rfl, by rw [HSW.out]; exact HBF.out⟩
   ·have q4 : (k == 4) = false := by simp; omega
    have hbt : b = false := by rw [← HBB.out]; simp [h1, h4]
    subst hbt
    clear h1 h4
    go_wp2_with fail
    go_ret
    exact ⟨rfl, by rw [HSW.out]; exact HBF.out⟩
 ·have t0 : ((er : Int) == 0) = false := by simp; omega
  have hbt : b = false := by rw [← HBB.out]; simp [h0]
  subst hbt
  clear h0
  go_wp2_with fail
  go_ret
  exact ⟨rfl, by rw [HSW.out]; exact HBF.out⟩
end Go.Proofs.YtaofjnidniekjaaGreatDoor
/- The reference's reading (package bushelref36): on, fail, want. Conditions: those stated. -/
namespace Go.Proofs.YtaofjnidniekjaaGreatDoor
open Go.RowKit

/-- a call's answer: a state, its query's rows at the places m -/
def RSt (X : RX) (m : QryL) (p : PState) (w : World) (e : Ending) (w' : World) : Prop := e = .returned (StV X m p) ∧ Below w.heap.size w w'

set_option maxRecDepth 100000 in
theorem von_any (X : RX) (m : QryL) (p : PState) (w : World) (hi : p.at' ≤ 100000) :
  Calls Tryz.prog 70 #[StV X m p] w (RSt X m (onR p) w) := by
 obtain ⟨⟨ad, nd, cd, ai, ni, ci, an, nn, cn, av, nv, cv⟩, s, ta, tc, L⟩ := X
 obtain ⟨af, nf, cf, ac, nc, cc, ao, no, co⟩ := m
 obtain ⟨i, ⟨g, fq, cq, oq, lm⟩, er⟩ := p
 (try dsimp only at *)
 unfold RSt onR
 obtain ⟨W0, hW0⟩ : ∃ W0, ((w.alloc (.cells #[.slice ad nd cd, .slice ai ni ci, .slice an nn cn, .slice av nv cv, .slice ta L.length tc, .int .i64 (i : Int), .int .u32 g, .slice af nf cf, .slice ac nc cc, .slice ao no co, .int .i64 lm, .int .i64 (er : Int)] 122)).alloc (.cells #[.slice none 0 0, .slice none 0 0, .slice none 0 0, .slice none 0 0, .slice none 0 0, .int .i64 0, .int .u32 0, .slice none 0 0, .slice none 0 0, .slice none 0 0, .int .i64 0, .int .i64 0] 122)) = W0 := ⟨_, rfl⟩
 have HB0 : Hid (Below w.heap.size w W0) := Lib.hid (by
  rw [← hW0]
  exact (((Below.refl _ _).alloc (Nat.le_refl _) _).alloc (by simp) _))
 have HZ0 : Hid (W0.heap.size = w.heap.size + 2) := Lib.hid (by rw [← hW0]; simp)
 have HK0 : Hid (Blk W0 (w.heap.size) 122 #[.slice ad nd cd, .slice ai ni ci, .slice an nn cn, .slice av nv cv, .slice ta L.length tc, .int .i64 (i : Int), .int .u32 g, .slice af nf cf, .slice ac nc cc, .slice ao no co, .int .i64 lm, .int .i64 (er : Int)]) := Lib.hid (by
  rw [← hW0]
  have h := Blk.new w 122 #[.slice ad nd cd, .slice ai ni ci, .slice an nn cn, .slice av nv cv, .slice ta L.length tc, .int .i64 (i : Int), .int .u32 g, .slice af nf cf, .slice ac nc cc, .slice ao no co, .int .i64 lm, .int .i64 (er : Int)]
  exact h.alloc _)
 have HK1 : Hid (Blk W0 (w.heap.size + 1) 122 #[.slice none 0 0, .slice none 0 0, .slice none 0 0, .slice none 0 0, .slice none 0 0, .int .i64 0, .int .u32 0, .slice none 0 0, .slice none 0 0, .slice none 0 0, .int .i64 0, .int .i64 0]) := Lib.hid (by
  rw [← hW0]
  have h := Blk.new (w.alloc (.cells #[.slice ad nd cd, .slice ai ni ci, .slice an nn cn, .slice av nv cv, .slice ta L.length tc, .int .i64 (i : Int), .int .u32 g, .slice af nf cf, .slice ac nc cc, .slice ao no co, .int .i64 lm, .int .i64 (er : Int)] 122)) 122 #[.slice none 0 0, .slice none 0 0, .slice none 0 0, .slice none 0 0, .slice none 0 0, .int .i64 0, .int .u32 0, .slice none 0 0, .slice none 0 0, .slice none 0 0, .int .i64 0, .int .i64 0]
  rw [World.size_alloc] at h
  exact h)
 (try unfold StV)
 (try dsimp only)
 go_enter Tryz.func70, Tryz.ntmps70
 go_upto_region 1 with fail
 clear hW0
 generalize hS : w.heap.size = S at *
 have HSW := Lib.hid hS
 clear hS
 have c0 := HK0.out.c 0
 have c1 := HK0.out.c 1
 have c2 := HK0.out.c 2
 have c3 := HK0.out.c 3
 have c4 := HK0.out.c 4
 have c5 := HK0.out.c 5
 have c6 := HK0.out.c 6
 have c7 := HK0.out.c 7
 have c8 := HK0.out.c 8
 have c9 := HK0.out.c 9
 have c10 := HK0.out.c 10
 have c11 := HK0.out.c 11
 have fzc : ∀ o, W0.frozen? ⟨S, o, none⟩ = false := fun o => HK0.out.frozen o
 have d0 := HK1.out.c 0
 have d1 := HK1.out.c 1
 have d2 := HK1.out.c 2
 have d3 := HK1.out.c 3
 have d4 := HK1.out.c 4
 have d5 := HK1.out.c 5
 have d6 := HK1.out.c 6
 have d7 := HK1.out.c 7
 have d8 := HK1.out.c 8
 have d9 := HK1.out.c 9
 have d10 := HK1.out.c 10
 have d11 := HK1.out.c 11
 have fzd : ∀ o, W0.frozen? ⟨S + 1, o, none⟩ = false := fun o => HK1.out.frozen o
 go_wp2_with fail
 have HKF := Lib.hid (blk_st12 (HK1.out.far (p := ⟨S, 5, none⟩) (by show S + 1 ≠ S; omega) (.int .i64 ((i : Int) + 1))) (.slice ad nd cd) (.slice ai ni ci) (.slice an nn cn) (.slice av nv cv) (.slice ta L.length tc) (.int .i64 ((i : Int) + 1)) (.int .u32 g) (.slice af nf cf) (.slice ac nc cc) (.slice ao no co) (.int .i64 lm) (.int .i64 (er : Int)))
 have HBF := Lib.hid (below_st12 (below_set HB0.out (p := ⟨S, 5, none⟩) (by have := HSW.out; show _ ≤ S; omega) (.int .i64 ((i : Int) + 1))) (b := S + 1) (by have := HSW.out; omega) (.slice ad nd cd) (.slice ai ni ci) (.slice an nn cn) (.slice av nv cv) (.slice ta L.length tc) (.int .i64 ((i : Int) + 1)) (.int .u32 g) (.slice af nf cf) (.slice ac nc cc) (.slice ao no co) (.int .i64 lm) (.int .i64 (er : Int)))
 generalize (((((((((((((W0.setCell ⟨S, 5, none⟩ (.int .i64 ((i : Int) + 1))).setCell ⟨S + 1, 0, none⟩ (.slice ad nd cd)).setCell ⟨S + 1, 1, none⟩ (.slice ai ni ci)).setCell ⟨S + 1, 2, none⟩ (.slice an nn cn)).setCell ⟨S + 1, 3, none⟩ (.slice av nv cv)).setCell ⟨S + 1, 4, none⟩ (.slice ta L.length tc)).setCell ⟨S + 1, 5, none⟩ (.int .i64 ((i : Int) + 1))).setCell ⟨S + 1, 6, none⟩ (.int .u32 g)).setCell ⟨S + 1, 7, none⟩ (.slice af nf cf)).setCell ⟨S + 1, 8, none⟩ (.slice ac nc cc)).setCell ⟨S + 1, 9, none⟩ (.slice ao no co)).setCell ⟨S + 1, 10, none⟩ (.int .i64 lm)).setCell ⟨S + 1, 11, none⟩ (.int .i64 (er : Int))) = Wf at *
 have z0 := HKF.out.c 0
 have z1 := HKF.out.c 1
 have z2 := HKF.out.c 2
 have z3 := HKF.out.c 3
 have z4 := HKF.out.c 4
 have z5 := HKF.out.c 5
 have z6 := HKF.out.c 6
 have z7 := HKF.out.c 7
 have z8 := HKF.out.c 8
 have z9 := HKF.out.c 9
 have z10 := HKF.out.c 10
 have z11 := HKF.out.c 11
 refine bodyPost_ret (v := .agg #[.slice ad nd cd, .slice ai ni ci, .slice an nn cn, .slice av nv cv, .slice ta L.length tc, .int .i64 ((i : Int) + 1), .int .u32 g, .slice af nf cf, .slice ac nc cc, .slice ao no co, .int .i64 lm, .int .i64 (er : Int)]) (by simp [results, Tryz.results70, go_sem, z0, z1, z2, z3, z4, z5, z6, z7, z8, z9, z10, z11]) rfl ?_
 exact ⟨rfl, by rw [HSW.out]; exact HBF.out⟩

set_option maxRecDepth 100000 in
theorem vfail_any (X : RX) (m : QryL) (p : PState) (w : World) (x : Nat) :
  Calls Tryz.prog 73 #[StV X m p, .int .i64 (x : Int)] w (RSt X m (failR p x) w) := by
 obtain ⟨⟨ad, nd, cd, ai, ni, ci, an, nn, cn, av, nv, cv⟩, s, ta, tc, L⟩ := X
 obtain ⟨af, nf, cf, ac, nc, cc, ao, no, co⟩ := m
 obtain ⟨i, ⟨g, fq, cq, oq, lm⟩, er⟩ := p
 (try dsimp only at *)
 unfold RSt failR
 obtain ⟨W0, hW0⟩ : ∃ W0, ((w.alloc (.cells #[.slice ad nd cd, .slice ai ni ci, .slice an nn cn, .slice av nv cv, .slice ta L.length tc, .int .i64 (i : Int), .int .u32 g, .slice af nf cf, .slice ac nc cc, .slice ao no co, .int .i64 lm, .int .i64 (er : Int)] 122)).alloc (.cells #[.slice none 0 0, .slice none 0 0, .slice none 0 0, .slice none 0 0, .slice none 0 0, .int .i64 0, .int .u32 0, .slice none 0 0, .slice none 0 0, .slice none 0 0, .int .i64 0, .int .i64 0] 122)) = W0 := ⟨_, rfl⟩
 have HB0 : Hid (Below w.heap.size w W0) := Lib.hid (by
  rw [← hW0]
  exact (((Below.refl _ _).alloc (Nat.le_refl _) _).alloc (by simp) _))
 have HZ0 : Hid (W0.heap.size = w.heap.size + 2) := Lib.hid (by rw [← hW0]; simp)
 have HK0 : Hid (Blk W0 (w.heap.size) 122 #[.slice ad nd cd, .slice ai ni ci, .slice an nn cn, .slice av nv cv, .slice ta L.length tc, .int .i64 (i : Int), .int .u32 g, .slice af nf cf, .slice ac nc cc, .slice ao no co, .int .i64 lm, .int .i64 (er : Int)]) := Lib.hid (by
  rw [← hW0]
  have h := Blk.new w 122 #[.slice ad nd cd, .slice ai ni ci, .slice an nn cn, .slice av nv cv, .slice ta L.length tc, .int .i64 (i : Int), .int .u32 g, .slice af nf cf, .slice ac nc cc, .slice ao no co, .int .i64 lm, .int .i64 (er : Int)]
  exact h.alloc _)
 have HK1 : Hid (Blk W0 (w.heap.size + 1) 122 #[.slice none 0 0, .slice none 0 0, .slice none 0 0, .slice none 0 0, .slice none 0 0, .int .i64 0, .int .u32 0, .slice none 0 0, .slice none 0 0, .slice none 0 0, .int .i64 0, .int .i64 0]) := Lib.hid (by
  rw [← hW0]
  have h := Blk.new (w.alloc (.cells #[.slice ad nd cd, .slice ai ni ci, .slice an nn cn, .slice av nv cv, .slice ta L.length tc, .int .i64 (i : Int), .int .u32 g, .slice af nf cf, .slice ac nc cc, .slice ao no co, .int .i64 lm, .int .i64 (er : Int)] 122)) 122 #[.slice none 0 0, .slice none 0 0, .slice none 0 0, .slice none 0 0, .slice none 0 0, .int .i64 0, .int .u32 0, .slice none 0 0, .slice none 0 0, .slice none 0 0, .int .i64 0, .int .i64 0]
  rw [World.size_alloc] at h
  exact h)
 by_cases h0 : er = 0
 ·rw [if_pos h0]
  have t0 : ((er : Int) == 0) = true := by rw [h0]; rfl
  clear h0
  (try unfold StV)
  (try dsimp only)
  go_enter Tryz.func73, Tryz.ntmps73
  go_upto_region 1 with fail
  clear hW0
  generalize hS : w.heap.size = S at *
  have HSW := Lib.hid hS
  clear hS
  have c0 := HK0.out.c 0
  have c1 := HK0.out.c 1
  have c2 := HK0.out.c 2
  have c3 := HK0.out.c 3
  have c4 := HK0.out.c 4
  have c5 := HK0.out.c 5
  have c6 := HK0.out.c 6
  have c7 := HK0.out.c 7
  have c8 := HK0.out.c 8
  have c9 := HK0.out.c 9
  have c10 := HK0.out.c 10
  have c11 := HK0.out.c 11
  have fzc : ∀ o, W0.frozen? ⟨S, o, none⟩ = false := fun o => HK0.out.frozen o
  have d0 := HK1.out.c 0
  have d1 := HK1.out.c 1
  have d2 := HK1.out.c 2
  have d3 := HK1.out.c 3
  have d4 := HK1.out.c 4
  have d5 := HK1.out.c 5
  have d6 := HK1.out.c 6
  have d7 := HK1.out.c 7
  have d8 := HK1.out.c 8
  have d9 := HK1.out.c 9
  have d10 := HK1.out.c 10
  have d11 := HK1.out.c 11
  have fzd : ∀ o, W0.frozen? ⟨S + 1, o, none⟩ = false := fun o => HK1.out.frozen o
  go_wp2_with fail
  have HKF := Lib.hid (blk_st12 (HK1.out.far (p := ⟨S, 11, none⟩) (by show S + 1 ≠ S; omega) (.int .i64 (x : Int))) (.slice ad nd cd) (.slice ai ni ci) (.slice an nn cn) (.slice av nv cv) (.slice ta L.length tc) (.int .i64 (i : Int)) (.int .u32 g) (.slice af nf cf) (.slice ac nc cc) (.slice ao no co) (.int .i64 lm) (.int .i64 (x : Int)))
  have HBF := Lib.hid (below_st12 (below_set HB0.out (p := ⟨S, 11, none⟩) (by have := HSW.out; show _ ≤ S; omega) (.int .i64 (x : Int))) (b := S + 1) (by have := HSW.out; omega) (.slice ad nd cd) (.slice ai ni ci) (.slice an nn cn) (.slice av nv cv) (.slice ta L.length tc) (.int .i64 (i : Int)) (.int .u32 g) (.slice af nf cf) (.slice ac nc cc) (.slice ao no co) (.int .i64 lm) (.int .i64 (x : Int)))
  generalize (((((((((((((W0.setCell ⟨S, 11, none⟩ (.int .i64 (x : Int))).setCell ⟨S + 1, 0, none⟩ (.slice ad nd cd)).setCell ⟨S + 1, 1, none⟩ (.slice ai ni ci)).setCell ⟨S + 1, 2, none⟩ (.slice an nn cn)).setCell ⟨S + 1, 3, none⟩ (.slice av nv cv)).setCell ⟨S + 1, 4, none⟩ (.slice ta L.length tc)).setCell ⟨S + 1, 5, none⟩ (.int .i64 (i : Int))).setCell ⟨S + 1, 6, none⟩ (.int .u32 g)).setCell ⟨S + 1, 7, none⟩ (.slice af nf cf)).setCell ⟨S + 1, 8, none⟩ (.slice ac nc cc)).setCell ⟨S + 1, 9, none⟩ (.slice ao no co)).setCell ⟨S + 1, 10, none⟩ (.int .i64 lm)).setCell ⟨S + 1, 11, none⟩ (.int .i64 (x : Int))) = Wf at *
  have z0 := HKF.out.c 0
  have z1 := HKF.out.c 1
  have z2 := HKF.out.c 2
  have z3 := HKF.out.c 3
  have z4 := HKF.out.c 4
  have z5 := HKF.out.c 5
  have z6 := HKF.out.c 6
  have z7 := HKF.out.c 7
  have z8 := HKF.out.c 8
  have z9 := HKF.out.c 9
  have z10 := HKF.out.c 10
  have z11 := HKF.out.c 11
  refine bodyPost_ret (v := .agg #[.slice ad nd cd, .slice ai ni ci, .slice an nn cn, .slice av nv cv, .slice ta L.length tc, .int .i64 (i : Int), .int .u32 g, .slice af nf cf, .slice ac nc cc, .slice ao no co, .int .i64 lm, .int .i64 (x : Int)]) (by simp [results, Tryz.results73, go_sem, z0, z1, z2, z3, z4, z5, z6, z7, z8, z9, z10, z11]) rfl ?_
  exact ⟨rfl, by rw [HSW.out]; exact HBF.out⟩
 ·rw [if_neg h0]
  have t0 : ((er : Int) == 0) = false := by simp; omega
  (try unfold StV)
  (try dsimp only)
  go_enter Tryz.func73, Tryz.ntmps73
  go_upto_region 1 with fail
  clear hW0
  generalize hS : w.heap.size = S at *
  have HSW := Lib.hid hS
  clear hS
  have c0 := HK0.out.c 0
  have c1 := HK0.out.c 1
  have c2 := HK0.out.c 2
  have c3 := HK0.out.c 3
  have c4 := HK0.out.c 4
  have c5 := HK0.out.c 5
  have c6 := HK0.out.c 6
  have c7 := HK0.out.c 7
  have c8 := HK0.out.c 8
  have c9 := HK0.out.c 9
  have c10 := HK0.out.c 10
  have c11 := HK0.out.c 11
  have fzc : ∀ o, W0.frozen? ⟨S, o, none⟩ = false := fun o => HK0.out.frozen o
  have d0 := HK1.out.c 0
  have d1 := HK1.out.c 1
  have d2 := HK1.out.c 2
  have d3 := HK1.out.c 3
  have d4 := HK1.out.c 4
  have d5 := HK1.out.c 5
  have d6 := HK1.out.c 6
  have d7 := HK1.out.c 7
  have d8 := HK1.out.c 8
  have d9 := HK1.out.c 9
  have d10 := HK1.out.c 10
  have d11 := HK1.out.c 11
  have fzd : ∀ o, W0.frozen? ⟨S + 1, o, none⟩ = false := fun o => HK1.out.frozen o
  clear h0
  go_wp2_with fail
  have HKF := Lib.hid (blk_st12 (HK1.out) (.slice ad nd cd) (.slice ai ni ci) (.slice an nn cn) (.slice av nv cv) (.slice ta L.length tc) (.int .i64 (i : Int)) (.int .u32 g) (.slice af nf cf) (.slice ac nc cc) (.slice ao no co) (.int .i64 lm) (.int .i64 (er : Int)))
  have HBF := Lib.hid (below_st12 (HB0.out) (b := S + 1) (by have := HSW.out; omega) (.slice ad nd cd) (.slice ai ni ci) (.slice an nn cn) (.slice av nv cv) (.slice ta L.length tc) (.int .i64 (i : Int)) (.int .u32 g) (.slice af nf cf) (.slice ac nc cc) (.slice ao no co) (.int .i64 lm) (.int .i64 (er : Int)))
  generalize ((((((((((((W0.setCell ⟨S + 1, 0, none⟩ (.slice ad nd cd)).setCell ⟨S + 1, 1, none⟩ (.slice ai ni ci)).setCell ⟨S + 1, 2, none⟩ (.slice an nn cn)).setCell ⟨S + 1, 3, none⟩ (.slice av nv cv)).setCell ⟨S + 1, 4, none⟩ (.slice ta L.length tc)).setCell ⟨S + 1, 5, none⟩ (.int .i64 (i : Int))).setCell ⟨S + 1, 6, none⟩ (.int .u32 g)).setCell ⟨S + 1, 7, none⟩ (.slice af nf cf)).setCell ⟨S + 1, 8, none⟩ (.slice ac nc cc)).setCell ⟨S + 1, 9, none⟩ (.slice ao no co)).setCell ⟨S + 1, 10, none⟩ (.int .i64 lm)).setCell ⟨S + 1, 11, none⟩ (.int .i64 (er : Int))) = Wf at *
  have z0 := HKF.out.c 0
  have z1 := HKF.out.c 1
  have z2 := HKF.out.c 2
  have z3 := HKF.out.c 3
  have z4 := HKF.out.c 4
  have z5 := HKF.out.c 5
  have z6 := HKF.out.c 6
  have z7 := HKF.out.c 7
  have z8 := HKF.out.c 8
  have z9 := HKF.out.c 9
  have z10 := HKF.out.c 10
  have z11 := HKF.out.c 11
  refine bodyPost_ret (v := .agg #[.slice ad nd cd, .slice ai ni ci, .slice an nn cn, .slice av nv cv, .slice ta L.length tc, .int .i64 (i : Int), .int .u32 g, .slice af nf cf, .slice ac nc cc, .slice ao no co, .int .i64 lm, .int .i64 (er : Int)]) (by simp [results, Tryz.results73, go_sem, z0, z1, z2, z3, z4, z5, z6, z7, z8, z9, z10, z11]) rfl ?_
  exact ⟨rfl, by rw [HSW.out]; exact HBF.out⟩

set_option maxRecDepth 100000 in
theorem vwant_any (X : RX) (m : QryL) (p : PState) (w : World) (hX : X.At w) (hi : p.at' < X.L.length) (u : ByteArray) (t : List UInt8) (ht : u.data.toList = t) :
  Calls Tryz.prog 68 #[StV X m p, .string u] w (RSt X m (wantR X.L p t) w) := by
 have hmany := hX.good.many
 obtain ⟨b, hb⟩ : ∃ b, isR X.L p t = b := ⟨_, rfl⟩
 have HI : Hid (∀ w', Below w.heap.size w w' → Calls Tryz.prog 69 #[StV X m p, .string u] w' fun e w'' => e = .returned (.bool b) ∧ Below w'.heap.size w' w'') := Lib.hid (fun w' hbl => vis_any X m p w' (hX.below hbl (Nat.le_refl _)) hi u b (by rw [ht]; exact hb))
 have HON : Hid (∀ w', Calls Tryz.prog 70 #[StV X m p] w' (RSt X m (onR p) w')) := Lib.hid (fun w' => von_any X m p w' (by omega))
 have HFA : Hid (∀ w', Calls Tryz.prog 73 #[StV X m p, .int .i64 (6 : Int)] w' (RSt X m (failR p 6) w')) := Lib.hid (fun w' => vfail_any X m p w' 6)
 unfold wantR
 rw [hb]
 clear hX hi hmany hb ht
 unfold RSt at *
 obtain ⟨p1, hp1⟩ : ∃ x, onR p = x := ⟨_, rfl⟩
 obtain ⟨p2, hp2⟩ : ∃ x, failR p 6 = x := ⟨_, rfl⟩
 rw [hp1] at HON ⊢
 rw [hp2] at HFA ⊢
 clear hp1 hp2
 unfold StV at *
 obtain ⟨⟨ad, nd, cd, ai, ni, ci, an, nn, cn, av, nv, cv⟩, s, ta, tc, L⟩ := X
 obtain ⟨af, nf, cf, ac, nc, cc, ao, no, co⟩ := m
 obtain ⟨i, ⟨g, fq, cq, oq, lm⟩, er⟩ := p
 (try dsimp only at *)
 obtain ⟨W0, hW0⟩ : ∃ W0, ((w.alloc (.cells #[.slice ad nd cd, .slice ai ni ci, .slice an nn cn, .slice av nv cv, .slice ta L.length tc, .int .i64 (i : Int), .int .u32 g, .slice af nf cf, .slice ac nc cc, .slice ao no co, .int .i64 lm, .int .i64 (er : Int)] 122)).alloc (.cells #[.slice none 0 0, .slice none 0 0, .slice none 0 0, .slice none 0 0, .slice none 0 0, .int .i64 0, .int .u32 0, .slice none 0 0, .slice none 0 0, .slice none 0 0, .int .i64 0, .int .i64 0] 122)) = W0 := ⟨_, rfl⟩
 have HB0 : Hid (Below w.heap.size w W0) := Lib.hid (by
  rw [← hW0]
  exact (((Below.refl _ _).alloc (Nat.le_refl _) _).alloc (by simp) _))
 have HZ0 : Hid (W0.heap.size = w.heap.size + 2) := Lib.hid (by rw [← hW0]; simp)
 have HK0 : Hid (Blk W0 (w.heap.size) 122 #[.slice ad nd cd, .slice ai ni ci, .slice an nn cn, .slice av nv cv, .slice ta L.length tc, .int .i64 (i : Int), .int .u32 g, .slice af nf cf, .slice ac nc cc, .slice ao no co, .int .i64 lm, .int .i64 (er : Int)]) := Lib.hid (by
  rw [← hW0]
  have h := Blk.new w 122 #[.slice ad nd cd, .slice ai ni ci, .slice an nn cn, .slice av nv cv, .slice ta L.length tc, .int .i64 (i : Int), .int .u32 g, .slice af nf cf, .slice ac nc cc, .slice ao no co, .int .i64 lm, .int .i64 (er : Int)]
  exact h.alloc _)
 have HK1 : Hid (Blk W0 (w.heap.size + 1) 122 #[.slice none 0 0, .slice none 0 0, .slice none 0 0, .slice none 0 0, .slice none 0 0, .int .i64 0, .int .u32 0, .slice none 0 0, .slice none 0 0, .slice none 0 0, .int .i64 0, .int .i64 0]) := Lib.hid (by
  rw [← hW0]
  have h := Blk.new (w.alloc (.cells #[.slice ad nd cd, .slice ai ni ci, .slice an nn cn, .slice av nv cv, .slice ta L.length tc, .int .i64 (i : Int), .int .u32 g, .slice af nf cf, .slice ac nc cc, .slice ao no co, .int .i64 lm, .int .i64 (er : Int)] 122)) 122 #[.slice none 0 0, .slice none 0 0, .slice none 0 0, .slice none 0 0, .slice none 0 0, .int .i64 0, .int .u32 0, .slice none 0 0, .slice none 0 0, .slice none 0 0, .int .i64 0, .int .i64 0]
  rw [World.size_alloc] at h
  exact h)
 (try unfold StV)
 (try dsimp only)
 go_enter Tryz.func68, Tryz.ntmps68
 go_upto_region 1 with fail
 clear hW0
 generalize hS : w.heap.size = S at *
 have HSW := Lib.hid hS
 clear hS
 have c0 := HK0.out.c 0
 have c1 := HK0.out.c 1
 have c2 := HK0.out.c 2
 have c3 := HK0.out.c 3
 have c4 := HK0.out.c 4
 have c5 := HK0.out.c 5
 have c6 := HK0.out.c 6
 have c7 := HK0.out.c 7
 have c8 := HK0.out.c 8
 have c9 := HK0.out.c 9
 have c10 := HK0.out.c 10
 have c11 := HK0.out.c 11
 go_wp2_with fail
 refine (HI.out _ HB0.out).mono ?_; rintro e w1 ⟨rfl, hb1⟩
 have HB1 := Lib.hid (HB0.out.trans (hb1.mono (by have := HZ0.out; omega)))
 have HKA := Lib.hid (HK0.out.below hb1 HK0.out.lt)
 have HKB := Lib.hid (HK1.out.below hb1 HK1.out.lt)
 clear hb1
 clear c0 c1 c2 c3 c4 c5 c6 c7 c8 c9 c10 c11
 have c0 := HKA.out.c 0
 have c1 := HKA.out.c 1
 have c2 := HKA.out.c 2
 have c3 := HKA.out.c 3
 have c4 := HKA.out.c 4
 have c5 := HKA.out.c 5
 have c6 := HKA.out.c 6
 have c7 := HKA.out.c 7
 have c8 := HKA.out.c 8
 have c9 := HKA.out.c 9
 have c10 := HKA.out.c 10
 have c11 := HKA.out.c 11
 rcases b with _ | _
 ·go_wp2_with fail
  refine (HFA.out _).mono ?_; rintro e w2 ⟨rfl, hb2⟩
  have HB2 := Lib.hid (HB1.out.trans (hb2.mono (by have := HB1.out.size; have := HSW.out; omega)))
  have HKC := Lib.hid (HKB.out.below hb2 HKB.out.lt)
  clear hb2
  clear c0 c1 c2 c3 c4 c5 c6 c7 c8 c9 c10 c11
  have d0 := HKC.out.c 0
  have d1 := HKC.out.c 1
  have d2 := HKC.out.c 2
  have d3 := HKC.out.c 3
  have d4 := HKC.out.c 4
  have d5 := HKC.out.c 5
  have d6 := HKC.out.c 6
  have d7 := HKC.out.c 7
  have d8 := HKC.out.c 8
  have d9 := HKC.out.c 9
  have d10 := HKC.out.c 10
  have d11 := HKC.out.c 11
  have fzd : ∀ o, w2.frozen? ⟨S + 1, o, none⟩ = false := fun o => HKC.out.frozen o
  go_wp2_with fail
  have HKF := Lib.hid (blk_st12 (HKC.out) (.slice ad nd cd) (.slice ai ni ci) (.slice an nn cn) (.slice av nv cv) (.slice ta L.length tc) (.int .i64 (p2.at' : Int)) (.int .u32 p2.q.group) (.slice af nf cf) (.slice ac nc cc) (.slice ao no co) (.int .i64 p2.q.limit) (.int .i64 (p2.err : Int)))
  have HBF := Lib.hid (below_st12 (HB2.out) (b := S + 1) (by have := HSW.out; omega) (.slice ad nd cd) (.slice ai ni ci) (.slice an nn cn) (.slice av nv cv) (.slice ta L.length tc) (.int .i64 (p2.at' : Int)) (.int .u32 p2.q.group) (.slice af nf cf) (.slice ac nc cc) (.slice ao no co) (.int .i64 p2.q.limit) (.int .i64 (p2.err : Int)))
  generalize ((((((((((((w2.setCell ⟨S + 1, 0, none⟩ (.slice ad nd cd)).setCell ⟨S + 1, 1, none⟩ (.slice ai ni ci)).setCell ⟨S + 1, 2, none⟩ (.slice an nn cn)).setCell ⟨S + 1, 3, none⟩ (.slice av nv cv)).setCell ⟨S + 1, 4, none⟩ (.slice ta L.length tc)).setCell ⟨S + 1, 5, none⟩ (.int .i64 (p2.at' : Int))).setCell ⟨S + 1, 6, none⟩ (.int .u32 p2.q.group)).setCell ⟨S + 1, 7, none⟩ (.slice af nf cf)).setCell ⟨S + 1, 8, none⟩ (.slice ac nc cc)).setCell ⟨S + 1, 9, none⟩ (.slice ao no co)).setCell ⟨S + 1, 10, none⟩ (.int .i64 p2.q.limit)).setCell ⟨S + 1, 11, none⟩ (.int .i64 (p2.err : Int))) = Wf at *
  have z0 := HKF.out.c 0
  have z1 := HKF.out.c 1
  have z2 := HKF.out.c 2
  have z3 := HKF.out.c 3
  have z4 := HKF.out.c 4
  have z5 := HKF.out.c 5
  have z6 := HKF.out.c 6
  have z7 := HKF.out.c 7
  have z8 := HKF.out.c 8
  have z9 := HKF.out.c 9
  have z10 := HKF.out.c 10
  have z11 := HKF.out.c 11
  refine bodyPost_ret (v := .agg #[.slice ad nd cd, .slice ai ni ci, .slice an nn cn, .slice av nv cv, .slice ta L.length tc, .int .i64 (p2.at' : Int), .int .u32 p2.q.group, .slice af nf cf, .slice ac nc cc, .slice ao no co, .int .i64 p2.q.limit, .int .i64 (p2.err : Int)]) (by simp [results, Tryz.results68, go_sem, z0, z1, z2, z3, z4, z5, z6, z7, z8, z9, z10, z11]) rfl ?_
  exact ⟨rfl, by rw [HSW.out]; exact HBF.out⟩
 ·go_wp2_with fail
  refine (HON.out _).mono ?_; rintro e w2 ⟨rfl, hb2⟩
  have HB2 := Lib.hid (HB1.out.trans (hb2.mono (by have := HB1.out.size; have := HSW.out; omega)))
  have HKC := Lib.hid (HKB.out.below hb2 HKB.out.lt)
  clear hb2
  clear c0 c1 c2 c3 c4 c5 c6 c7 c8 c9 c10 c11
  have d0 := HKC.out.c 0
  have d1 := HKC.out.c 1
  have d2 := HKC.out.c 2
  have d3 := HKC.out.c 3
  have d4 := HKC.out.c 4
  have d5 := HKC.out.c 5
  have d6 := HKC.out.c 6
  have d7 := HKC.out.c 7
  have d8 := HKC.out.c 8
  have d9 := HKC.out.c 9
  have d10 := HKC.out.c 10
  have d11 := HKC.out.c 11
  have fzd : ∀ o, w2.frozen? ⟨S + 1, o, none⟩ = false := fun o => HKC.out.frozen o
  go_wp2_with fail
  have HKF := Lib.hid (blk_st12 (HKC.out) (.slice ad nd cd) (.slice ai ni ci) (.slice an nn cn) (.slice av nv cv) (.slice ta L.length tc) (.int .i64 (p1.at' : Int)) (.int .u32 p1.q.group) (.slice af nf cf) (.slice ac nc cc) (.slice ao no co) (.int .i64 p1.q.limit) (.int .i64 (p1.err : Int)))
  have HBF := Lib.hid (below_st12 (HB2.out) (b := S + 1) (by have := HSW.out; omega) (.slice ad nd cd) (.slice ai ni ci) (.slice an nn cn) (.slice av nv cv) (.slice ta L.length tc) (.int .i64 (p1.at' : Int)) (.int .u32 p1.q.group) (.slice af nf cf) (.slice ac nc cc) (.slice ao no co) (.int .i64 p1.q.limit) (.int .i64 (p1.err : Int)))
  generalize ((((((((((((w2.setCell ⟨S + 1, 0, none⟩ (.slice ad nd cd)).setCell ⟨S + 1, 1, none⟩ (.slice ai ni ci)).setCell ⟨S + 1, 2, none⟩ (.slice an nn cn)).setCell ⟨S + 1, 3, none⟩ (.slice av nv cv)).setCell ⟨S + 1, 4, none⟩ (.slice ta L.length tc)).setCell ⟨S + 1, 5, none⟩ (.int .i64 (p1.at' : Int))).setCell ⟨S + 1, 6, none⟩ (.int .u32 p1.q.group)).setCell ⟨S + 1, 7, none⟩ (.slice af nf cf)).setCell ⟨S + 1, 8, none⟩ (.slice ac nc cc)).setCell ⟨S + 1, 9, none⟩ (.slice ao no co)).setCell ⟨S + 1, 10, none⟩ (.int .i64 p1.q.limit)).setCell ⟨S + 1, 11, none⟩ (.int .i64 (p1.err : Int))) = Wf at *
  have z0 := HKF.out.c 0
  have z1 := HKF.out.c 1
  have z2 := HKF.out.c 2
  have z3 := HKF.out.c 3
  have z4 := HKF.out.c 4
  have z5 := HKF.out.c 5
  have z6 := HKF.out.c 6
  have z7 := HKF.out.c 7
  have z8 := HKF.out.c 8
  have z9 := HKF.out.c 9
  have z10 := HKF.out.c 10
  have z11 := HKF.out.c 11
  refine bodyPost_ret (v := .agg #[.slice ad nd cd, .slice ai ni ci, .slice an nn cn, .slice av nv cv, .slice ta L.length tc, .int .i64 (p1.at' : Int), .int .u32 p1.q.group, .slice af nf cf, .slice ac nc cc, .slice ao no co, .int .i64 p1.q.limit, .int .i64 (p1.err : Int)]) (by simp [results, Tryz.results68, go_sem, z0, z1, z2, z3, z4, z5, z6, z7, z8, z9, z10, z11]) rfl ?_
  exact ⟨rfl, by rw [HSW.out]; exact HBF.out⟩
end Go.Proofs.YtaofjnidniekjaaGreatDoor
/- The reference's reading (package bushelref36): number. Conditions: those stated. -/
namespace Go.Proofs.YtaofjnidniekjaaGreatDoor
open Go.RowKit

/-- a call's answer: a state and a number -/
def RStN (X : RX) (m : QryL) (p : PState × Int) (w : World) (e : Ending) (w' : World) : Prop := e = .returned (.tuple #[StV X m p.1, .int .i64 p.2]) ∧ Below w.heap.size w w'

set_option maxRecDepth 100000 in
set_option maxHeartbeats 1000000 in
theorem vnumber_any (X : RX) (m : QryL) (p : PState) (w : World) (hX : X.At w) (hi : p.at' < X.L.length) :
  Calls Tryz.prog 71 #[StV X m p] w (RStN X m (numTR X.L p) w) := by
 have hmany := hX.good.many
 have HN : Hid (∀ w', Below w.heap.size w w' → Calls Tryz.prog 72 #[StV X m p] w' fun e w'' => e = .returned (tokAt X.L p.at').val ∧ Below w'.heap.size w' w'') := Lib.hid (fun w' hb => vnext_any X m p w' (hX.below hb (Nat.le_refl _)) hi)
 have HON : Hid (∀ w', Calls Tryz.prog 70 #[StV X m p] w' (RSt X m (onR p) w')) := Lib.hid (fun w' => von_any X m p w' (by omega))
 have HFA : Hid (∀ w', Calls Tryz.prog 73 #[StV X m p, .int .i64 (6 : Int)] w' (RSt X m (failR p 6) w')) := Lib.hid (fun w' => vfail_any X m p w' 6)
 have HR : Hid (numTR X.L p = if p.err ≠ 0 ∨ (tokAt X.L p.at').k ≠ 3 then (failR p 6, 0) else (onR p, (tokAt X.L p.at').n)) := Lib.hid rfl
 clear hX hi hmany
 unfold RSt RStN at *
 obtain ⟨p1, hp1⟩ : ∃ x, onR p = x := ⟨_, rfl⟩
 obtain ⟨p2, hp2⟩ : ∃ x, failR p 6 = x := ⟨_, rfl⟩
 obtain ⟨r, hr⟩ : ∃ x, numTR X.L p = x := ⟨_, rfl⟩
 rw [hp1] at HON HR
 rw [hp2] at HFA HR
 rw [hr] at HR ⊢
 clear hp1 hp2 hr
 obtain ⟨⟨k, t, n, a⟩, hx⟩ : ∃ x, tokAt X.L p.at' = x := ⟨_, rfl⟩
 rw [hx] at HN HR
 unfold Tok.val at HN
 clear hx
 unfold StV at *
 obtain ⟨⟨ad, nd, cd, ai, ni, ci, an, nn, cn, av, nv, cv⟩, s, ta, tc, L⟩ := X
 obtain ⟨af, nf, cf, ac, nc, cc, ao, no, co⟩ := m
 obtain ⟨i, ⟨g, fq, cq, oq, lm⟩, er⟩ := p
 (try dsimp only at *)
 obtain ⟨W0, hW0⟩ : ∃ W0, ((w.alloc (.cells #[.slice ad nd cd, .slice ai ni ci, .slice an nn cn, .slice av nv cv, .slice ta L.length tc, .int .i64 (i : Int), .int .u32 g, .slice af nf cf, .slice ac nc cc, .slice ao no co, .int .i64 lm, .int .i64 (er : Int)] 122)).alloc (.cells #[.slice none 0 0, .slice none 0 0, .slice none 0 0, .slice none 0 0, .slice none 0 0, .int .i64 0, .int .u32 0, .slice none 0 0, .slice none 0 0, .slice none 0 0, .int .i64 0, .int .i64 0] 122)) = W0 := ⟨_, rfl⟩
 have HB0 : Hid (Below w.heap.size w W0) := Lib.hid (by
  rw [← hW0]
  exact (((Below.refl _ _).alloc (Nat.le_refl _) _).alloc (by simp) _))
 have HZ0 : Hid (W0.heap.size = w.heap.size + 2) := Lib.hid (by rw [← hW0]; simp)
 have HK0 : Hid (Blk W0 (w.heap.size) 122 #[.slice ad nd cd, .slice ai ni ci, .slice an nn cn, .slice av nv cv, .slice ta L.length tc, .int .i64 (i : Int), .int .u32 g, .slice af nf cf, .slice ac nc cc, .slice ao no co, .int .i64 lm, .int .i64 (er : Int)]) := Lib.hid (by
  rw [← hW0]
  have h := Blk.new w 122 #[.slice ad nd cd, .slice ai ni ci, .slice an nn cn, .slice av nv cv, .slice ta L.length tc, .int .i64 (i : Int), .int .u32 g, .slice af nf cf, .slice ac nc cc, .slice ao no co, .int .i64 lm, .int .i64 (er : Int)]
  exact h.alloc _)
 have HK1 : Hid (Blk W0 (w.heap.size + 1) 122 #[.slice none 0 0, .slice none 0 0, .slice none 0 0, .slice none 0 0, .slice none 0 0, .int .i64 0, .int .u32 0, .slice none 0 0, .slice none 0 0, .slice none 0 0, .int .i64 0, .int .i64 0]) := Lib.hid (by
  rw [← hW0]
  have h := Blk.new (w.alloc (.cells #[.slice ad nd cd, .slice ai ni ci, .slice an nn cn, .slice av nv cv, .slice ta L.length tc, .int .i64 (i : Int), .int .u32 g, .slice af nf cf, .slice ac nc cc, .slice ao no co, .int .i64 lm, .int .i64 (er : Int)] 122)) 122 #[.slice none 0 0, .slice none 0 0, .slice none 0 0, .slice none 0 0, .slice none 0 0, .int .i64 0, .int .u32 0, .slice none 0 0, .slice none 0 0, .slice none 0 0, .int .i64 0, .int .i64 0]
  rw [World.size_alloc] at h
  exact h)
 (try unfold StV)
 (try dsimp only)
 go_enter Tryz.func71, Tryz.ntmps71
 go_upto_region 1 with fail
 clear hW0
 generalize hS : w.heap.size = S at *
 have HSW := Lib.hid hS
 clear hS
 have c0 := HK0.out.c 0
 have c1 := HK0.out.c 1
 have c2 := HK0.out.c 2
 have c3 := HK0.out.c 3
 have c4 := HK0.out.c 4
 have c5 := HK0.out.c 5
 have c6 := HK0.out.c 6
 have c7 := HK0.out.c 7
 have c8 := HK0.out.c 8
 have c9 := HK0.out.c 9
 have c10 := HK0.out.c 10
 have c11 := HK0.out.c 11
 have hfd := tok_f0' k n a t
 by_cases h0 : er = 0
 ·have t0 : ((er : Int) != 0) = false := by rw [h0]; rfl
  have H0 := Lib.hid h0
  clear h0
  go_wp2_with fail
  refine (HN.out _ HB0.out).mono ?_; rintro e w1 ⟨rfl, hb1⟩
  have HB1 := Lib.hid (HB0.out.trans (hb1.mono (by have := HZ0.out; omega)))
  have HKA := Lib.hid (HK0.out.below hb1 HK0.out.lt)
  have HKB := Lib.hid (HK1.out.below hb1 HK1.out.lt)
  clear hb1
  clear c0 c1 c2 c3 c4 c5 c6 c7 c8 c9 c10 c11
  by_cases hk : k = 3
  ·have t1 : (k != 3) = false := by rw [hk]; rfl
   have HRR : Hid (r = (p1, n)) := Lib.hid (by rw [HR.out, if_neg (by rintro (h | h); exact h H0.out; exact h hk)])
   clear hk
   go_upto_region 3 with fail
   replace HB1 := Lib.hid (HB1.out.drew)
   replace HKA := Lib.hid (HKA.out.drew)
   replace HKB := Lib.hid (HKB.out.drew)
   refine wp_regionN (fun w' => Blk w' S 122 #[.slice ad nd cd, .slice ai ni ci, .slice an nn cn, .slice av nv cv, .slice ta L.length tc, .int .i64 (i : Int), .int .u32 g, .slice af nf cf, .slice ac nc cc, .slice ao no co, .int .i64 lm, .int .i64 (er : Int)]) [] (by kernel_rfl) (by exact HKA.out) (fun hHeld => ?_)
   refine wpAnyN_t 0 ⟨some 15, _, _, _, _, _⟩ ?_ rfl ?_ ?_
   rotate_left 1
   ·(intro w hSw; obtain ⟨u0, u1, u2, u3, u4, u5, u6, u7, u8, u9, u10, u11⟩ := blk12 hSw; go_simp; try with_reducible rfl)
   try simp only [Act.put, putA, putB, putC]
   refine wpAnyN_t 2 ⟨some 17, _, _, _, _, _⟩ ?_ rfl ?_ ?_
   rotate_left 1
   ·(intro w hSw; obtain ⟨u0, u1, u2, u3, u4, u5, u6, u7, u8, u9, u10, u11⟩ := blk12 hSw; go_simp; try with_reducible rfl)
   try simp only [Act.put, putA, putB, putC]
   refine wpAnyN_one (i := 1) (o := ⟨some 16, _, _, _, _, _⟩) (by kernel_rfl) rfl (fun K hK => ?_)
   go_simp
   refine (HON.out _).mono ?_; rintro e w2 ⟨rfl, hb2⟩
   have HB2 := Lib.hid (HB1.out.trans (hb2.mono (by have := HB1.out.size; have := HSW.out; omega)))
   have HKA2 := Lib.hid (HKA.out.below hb2 HKA.out.lt)
   have HKB2 := Lib.hid (HKB.out.below hb2 HKB.out.lt)
   clear hb2
   refine hK.out _ _ (by exact HKA2.out) ?_
   clear hK K hHeld
   intro hHeld
   try simp only [Act.put, putA, putB, putC]
   refine wpAnyN_one (i := 3) (o := ⟨some 18, _, _, _, _, _⟩) (by kernel_rfl) rfl (fun K hK => ?_)
   go_simp
   refine (HN.out _ HB2.out).mono ?_; rintro e w3 ⟨rfl, hb3⟩
   have HB3 := Lib.hid (HB2.out.trans (hb3.mono (by have := HB2.out.size; have := HSW.out; omega)))
   have HKA3 := Lib.hid (HKA2.out.below hb3 HKA2.out.lt)
   have HKB3 := Lib.hid (HKB2.out.below hb3 HKB2.out.lt)
   clear hb3
   refine hK.out _ _ (by exact HKA3.out) ?_
   clear hK K hHeld
   intro hHeld
   try simp only [Act.put, putA, putB, putC]
   refine wpAnyN_t 4 ⟨some 19, _, _, _, _, _⟩ ?_ rfl ?_ ?_
   rotate_left 1
   ·(intro w hSw; have hfd := tok_f2' k n a t; go_simp; try with_reducible rfl)
   try simp only [Act.put, putA, putB, putC]
   refine wpAnyN_one (i := 5) (o := ⟨none, _, _, _, _, _⟩) (by kernel_rfl) rfl (fun K hK => ?_)
   have d0 := HKB3.out.c 0
   have d1 := HKB3.out.c 1
   have d2 := HKB3.out.c 2
   have d3 := HKB3.out.c 3
   have d4 := HKB3.out.c 4
   have d5 := HKB3.out.c 5
   have d6 := HKB3.out.c 6
   have d7 := HKB3.out.c 7
   have d8 := HKB3.out.c 8
   have d9 := HKB3.out.c 9
   have d10 := HKB3.out.c 10
   have d11 := HKB3.out.c 11
   have fzd : ∀ o, w3.frozen? ⟨S + 1, o, none⟩ = false := fun o => HKB3.out.frozen o
   go_simp
   refine hK.out _ _ (by exact blk_far12 HKA3.out (by omega) (.slice ad nd cd) (.slice ai ni ci) (.slice an nn cn) (.slice av nv cv) (.slice ta L.length tc) (.int .i64 (p1.at' : Int)) (.int .u32 p1.q.group) (.slice af nf cf) (.slice ac nc cc) (.slice ao no co) (.int .i64 p1.q.limit) (.int .i64 (p1.err : Int))) ?_
   clear hK K hHeld
   intro hHeld
   try simp only [Act.put, putA, putB, putC]
   refine wpAnyN_t 6 ⟨some 3, _, _, _, _, _⟩ ?_ rfl ?_ ?_
   rotate_left 1
   ·(intro w hSw; (try dsimp only at hSw); go_simp; try with_reducible rfl)
   try simp only [Act.put, putA, putB, putC]
   refine wpAnyN_end (by kernel_rfl) ?_
   clear d0 d1 d2 d3 d4 d5 d6 d7 d8 d9 d10 d11 fzd
   go_wp2_with fail
   have HKF := Lib.hid (blk_st12 (HKB3.out) (.slice ad nd cd) (.slice ai ni ci) (.slice an nn cn) (.slice av nv cv) (.slice ta L.length tc) (.int .i64 (p1.at' : Int)) (.int .u32 p1.q.group) (.slice af nf cf) (.slice ac nc cc) (.slice ao no co) (.int .i64 p1.q.limit) (.int .i64 (p1.err : Int)))
   have HBF := Lib.hid (below_st12 (HB3.out) (b := S + 1) (by have := HSW.out; omega) (.slice ad nd cd) (.slice ai ni ci) (.slice an nn cn) (.slice av nv cv) (.slice ta L.length tc) (.int .i64 (p1.at' : Int)) (.int .u32 p1.q.group) (.slice af nf cf) (.slice ac nc cc) (.slice ao no co) (.int .i64 p1.q.limit) (.int .i64 (p1.err : Int)))
   generalize ((((((((((((w3.setCell ⟨S + 1, 0, none⟩ (.slice ad nd cd)).setCell ⟨S + 1, 1, none⟩ (.slice ai ni ci)).setCell ⟨S + 1, 2, none⟩ (.slice an nn cn)).setCell ⟨S + 1, 3, none⟩ (.slice av nv cv)).setCell ⟨S + 1, 4, none⟩ (.slice ta L.length tc)).setCell ⟨S + 1, 5, none⟩ (.int .i64 (p1.at' : Int))).setCell ⟨S + 1, 6, none⟩ (.int .u32 p1.q.group)).setCell ⟨S + 1, 7, none⟩ (.slice af nf cf)).setCell ⟨S + 1, 8, none⟩ (.slice ac nc cc)).setCell ⟨S + 1, 9, none⟩ (.slice ao no co)).setCell ⟨S + 1, 10, none⟩ (.int .i64 p1.q.limit)).setCell ⟨S + 1, 11, none⟩ (.int .i64 (p1.err : Int))) = Wf at *
   have z0 := HKF.out.c 0
   have z1 := HKF.out.c 1
   have z2 := HKF.out.c 2
   have z3 := HKF.out.c 3
   have z4 := HKF.out.c 4
   have z5 := HKF.out.c 5
   have z6 := HKF.out.c 6
   have z7 := HKF.out.c 7
   have z8 := HKF.out.c 8
   have z9 := HKF.out.c 9
   have z10 := HKF.out.c 10
   have z11 := HKF.out.c 11
   refine bodyPost_ret (v := .tuple #[.agg #[.slice ad nd cd, .slice ai ni ci, .slice an nn cn, .slice av nv cv, .slice ta L.length tc, .int .i64 (p1.at' : Int), .int .u32 p1.q.group, .slice af nf cf, .slice ac nc cc, .slice ao no co, .int .i64 p1.q.limit, .int .i64 (p1.err : Int)], .int .i64 n]) (by simp [results, Tryz.results71, go_sem, z0, z1, z2, z3, z4, z5, z6, z7, z8, z9, z10, z11]) rfl ?_
   exact ⟨by rw [HRR.out], by rw [HSW.out]; exact HBF.out⟩
  ·have t1 : (k != 3) = true := by rw [bne_iff_ne]; exact hk
   have HRR : Hid (r = (p2, 0)) := Lib.hid (by rw [HR.out, if_pos (.inr hk)])
   clear hk
   have c0 := HKA.out.c 0
   have c1 := HKA.out.c 1
   have c2 := HKA.out.c 2
   have c3 := HKA.out.c 3
   have c4 := HKA.out.c 4
   have c5 := HKA.out.c 5
   have c6 := HKA.out.c 6
   have c7 := HKA.out.c 7
   have c8 := HKA.out.c 8
   have c9 := HKA.out.c 9
   have c10 := HKA.out.c 10
   have c11 := HKA.out.c 11
   go_wp2_with fail
   refine (HFA.out _).mono ?_; rintro e w2 ⟨rfl, hb2⟩
   have HB2 := Lib.hid (HB1.out.trans (hb2.mono (by have := HB1.out.size; have := HSW.out; omega)))
   have HKC := Lib.hid (HKB.out.below hb2 HKB.out.lt)
   clear hb2
   clear c0 c1 c2 c3 c4 c5 c6 c7 c8 c9 c10 c11
   have d0 := HKC.out.c 0
   have d1 := HKC.out.c 1
   have d2 := HKC.out.c 2
   have d3 := HKC.out.c 3
   have d4 := HKC.out.c 4
   have d5 := HKC.out.c 5
   have d6 := HKC.out.c 6
   have d7 := HKC.out.c 7
   have d8 := HKC.out.c 8
   have d9 := HKC.out.c 9
   have d10 := HKC.out.c 10
   have d11 := HKC.out.c 11
   have fzd : ∀ o, w2.frozen? ⟨S + 1, o, none⟩ = false := fun o => HKC.out.frozen o
   go_wp2_with fail
   have HKF := Lib.hid (blk_st12 (HKC.out) (.slice ad nd cd) (.slice ai ni ci) (.slice an nn cn) (.slice av nv cv) (.slice ta L.length tc) (.int .i64 (p2.at' : Int)) (.int .u32 p2.q.group) (.slice af nf cf) (.slice ac nc cc) (.slice ao no co) (.int .i64 p2.q.limit) (.int .i64 (p2.err : Int)))
   have HBF := Lib.hid (below_st12 (HB2.out) (b := S + 1) (by have := HSW.out; omega) (.slice ad nd cd) (.slice ai ni ci) (.slice an nn cn) (.slice av nv cv) (.slice ta L.length tc) (.int .i64 (p2.at' : Int)) (.int .u32 p2.q.group) (.slice af nf cf) (.slice ac nc cc) (.slice ao no co) (.int .i64 p2.q.limit) (.int .i64 (p2.err : Int)))
   generalize ((((((((((((w2.setCell ⟨S + 1, 0, none⟩ (.slice ad nd cd)).setCell ⟨S + 1, 1, none⟩ (.slice ai ni ci)).setCell ⟨S + 1, 2, none⟩ (.slice an nn cn)).setCell ⟨S + 1, 3, none⟩ (.slice av nv cv)).setCell ⟨S + 1, 4, none⟩ (.slice ta L.length tc)).setCell ⟨S + 1, 5, none⟩ (.int .i64 (p2.at' : Int))).setCell ⟨S + 1, 6, none⟩ (.int .u32 p2.q.group)).setCell ⟨S + 1, 7, none⟩ (.slice af nf cf)).setCell ⟨S + 1, 8, none⟩ (.slice ac nc cc)).setCell ⟨S + 1, 9, none⟩ (.slice ao no co)).setCell ⟨S + 1, 10, none⟩ (.int .i64 p2.q.limit)).setCell ⟨S + 1, 11, none⟩ (.int .i64 (p2.err : Int))) = Wf at *
   have z0 := HKF.out.c 0
   have z1 := HKF.out.c 1
   have z2 := HKF.out.c 2
   have z3 := HKF.out.c 3
   have z4 := HKF.out.c 4
   have z5 := HKF.out.c 5
   have z6 := HKF.out.c 6
   have z7 := HKF.out.c 7
   have z8 := HKF.out.c 8
   have z9 := HKF.out.c 9
   have z10 := HKF.out.c 10
   have z11 := HKF.out.c 11
   refine bodyPost_ret (v := .tuple #[.agg #[.slice ad nd cd, .slice ai ni ci, .slice an nn cn, .slice av nv cv, .slice ta L.length tc, .int .i64 (p2.at' : Int), .int .u32 p2.q.group, .slice af nf cf, .slice ac nc cc, .slice ao no co, .int .i64 p2.q.limit, .int .i64 (p2.err : Int)], .int .i64 0]) (by simp [results, Tryz.results71, go_sem, z0, z1, z2, z3, z4, z5, z6, z7, z8, z9, z10, z11]) rfl ?_
   exact ⟨by rw [HRR.out], by rw [HSW.out]; exact HBF.out⟩
 ·have t0 : ((er : Int) != 0) = true := by simp; omega
  have HRR : Hid (r = (p2, 0)) := Lib.hid (by rw [HR.out, if_pos (.inl h0)])
  clear h0
  go_wp2_with fail
  refine (HFA.out _).mono ?_; rintro e w2 ⟨rfl, hb2⟩
  have HB2 := Lib.hid (HB0.out.trans (hb2.mono (by have := HZ0.out; omega)))
  have HKC := Lib.hid (HK1.out.below hb2 HK1.out.lt)
  clear hb2
  clear c0 c1 c2 c3 c4 c5 c6 c7 c8 c9 c10 c11
  have d0 := HKC.out.c 0
  have d1 := HKC.out.c 1
  have d2 := HKC.out.c 2
  have d3 := HKC.out.c 3
  have d4 := HKC.out.c 4
  have d5 := HKC.out.c 5
  have d6 := HKC.out.c 6
  have d7 := HKC.out.c 7
  have d8 := HKC.out.c 8
  have d9 := HKC.out.c 9
  have d10 := HKC.out.c 10
  have d11 := HKC.out.c 11
  have fzd : ∀ o, w2.frozen? ⟨S + 1, o, none⟩ = false := fun o => HKC.out.frozen o
  go_wp2_with fail
  have HKF := Lib.hid (blk_st12 (HKC.out) (.slice ad nd cd) (.slice ai ni ci) (.slice an nn cn) (.slice av nv cv) (.slice ta L.length tc) (.int .i64 (p2.at' : Int)) (.int .u32 p2.q.group) (.slice af nf cf) (.slice ac nc cc) (.slice ao no co) (.int .i64 p2.q.limit) (.int .i64 (p2.err : Int)))
  have HBF := Lib.hid (below_st12 (HB2.out) (b := S + 1) (by have := HSW.out; omega) (.slice ad nd cd) (.slice ai ni ci) (.slice an nn cn) (.slice av nv cv) (.slice ta L.length tc) (.int .i64 (p2.at' : Int)) (.int .u32 p2.q.group) (.slice af nf cf) (.slice ac nc cc) (.slice ao no co) (.int .i64 p2.q.limit) (.int .i64 (p2.err : Int)))
  generalize ((((((((((((w2.setCell ⟨S + 1, 0, none⟩ (.slice ad nd cd)).setCell ⟨S + 1, 1, none⟩ (.slice ai ni ci)).setCell ⟨S + 1, 2, none⟩ (.slice an nn cn)).setCell ⟨S + 1, 3, none⟩ (.slice av nv cv)).setCell ⟨S + 1, 4, none⟩ (.slice ta L.length tc)).setCell ⟨S + 1, 5, none⟩ (.int .i64 (p2.at' : Int))).setCell ⟨S + 1, 6, none⟩ (.int .u32 p2.q.group)).setCell ⟨S + 1, 7, none⟩ (.slice af nf cf)).setCell ⟨S + 1, 8, none⟩ (.slice ac nc cc)).setCell ⟨S + 1, 9, none⟩ (.slice ao no co)).setCell ⟨S + 1, 10, none⟩ (.int .i64 p2.q.limit)).setCell ⟨S + 1, 11, none⟩ (.int .i64 (p2.err : Int))) = Wf at *
  have z0 := HKF.out.c 0
  have z1 := HKF.out.c 1
  have z2 := HKF.out.c 2
  have z3 := HKF.out.c 3
  have z4 := HKF.out.c 4
  have z5 := HKF.out.c 5
  have z6 := HKF.out.c 6
  have z7 := HKF.out.c 7
  have z8 := HKF.out.c 8
  have z9 := HKF.out.c 9
  have z10 := HKF.out.c 10
  have z11 := HKF.out.c 11
  refine bodyPost_ret (v := .tuple #[.agg #[.slice ad nd cd, .slice ai ni ci, .slice an nn cn, .slice av nv cv, .slice ta L.length tc, .int .i64 (p2.at' : Int), .int .u32 p2.q.group, .slice af nf cf, .slice ac nc cc, .slice ao no co, .int .i64 p2.q.limit, .int .i64 (p2.err : Int)], .int .i64 0]) (by simp [results, Tryz.results71, go_sem, z0, z1, z2, z3, z4, z5, z6, z7, z8, z9, z10, z11]) rfl ?_
  exact ⟨by rw [HRR.out], by rw [HSW.out]; exact HBF.out⟩
end Go.Proofs.YtaofjnidniekjaaGreatDoor
/- The reference's reading (package bushelref36): place. Conditions: those stated. -/
namespace Go.Proofs.YtaofjnidniekjaaGreatDoor
open Go.RowKit

set_option maxRecDepth 100000 in
set_option maxHeartbeats 1000000 in
theorem vplace_any (X : RX) (m : QryL) (p : PState) (w : World) (hX : X.At w) (hi : p.at' < X.L.length) (ya : Option Addr) (yn yc : Nat) (ys : List ByteArray) (hy : RowS w ya yn yc ys) :
  Calls Tryz.prog 117 #[StV X m p, .slice ya yn yc] w (RStN X m ((placeR ys X.L p).1, ((placeR ys X.L p).2 : Int)) w) := by
 have hmany := hX.good.many
 have HN : Hid (∀ w', Below w.heap.size w w' → Calls Tryz.prog 72 #[StV X m p] w' fun e w'' => e = .returned (tokAt X.L p.at').val ∧ Below w'.heap.size w' w'') := Lib.hid (fun w' hb => vnext_any X m p w' (hX.below hb (Nat.le_refl _)) hi)
 have HON : Hid (∀ w', Calls Tryz.prog 70 #[StV X m p] w' (RSt X m (onR p) w')) := Lib.hid (fun w' => von_any X m p w' (by omega))
 have HFA : Hid (∀ w', Calls Tryz.prog 73 #[StV X m p, .int .i64 (6 : Int)] w' (RSt X m (failR p 6) w')) := Lib.hid (fun w' => vfail_any X m p w' 6)
 have HFB : Hid (∀ w', Calls Tryz.prog 73 #[StV X m p, .int .i64 (11 : Int)] w' (RSt X m (failR p 11) w')) := Lib.hid (fun w' => vfail_any X m p w' 11)
 have HR : Hid (placeR ys X.L p = if p.err ≠ 0 ∨ (tokAt X.L p.at').k ≠ 2 then (failR p 6, 0) else if place ys (tokAt X.L p.at').t < 0 then (failR p 11, 0) else (onR p, (place ys (tokAt X.L p.at').t).toNat)) := Lib.hid rfl
 have HPL : Hid (∀ (w' : World) (u : ByteArray) (r : Int), place ys u = r → Below w.heap.size w w' → Calls Tryz.prog 84 #[.slice ya yn yc, .string u] w' fun e w'' => e = .returned (.int .i64 r) ∧ w' = w'') := Lib.hid (fun w' u r hr hb => rplace_at2 ya yn yc ys u r w' (hy.below hb (Nat.le_refl _)) hr)
 clear hX hi hmany hy
 unfold RSt RStN at *
 obtain ⟨p1, hp1⟩ : ∃ x, onR p = x := ⟨_, rfl⟩
 obtain ⟨p2, hp2⟩ : ∃ x, failR p 6 = x := ⟨_, rfl⟩
 obtain ⟨p3, hp3⟩ : ∃ x, failR p 11 = x := ⟨_, rfl⟩
 obtain ⟨r, hr⟩ : ∃ x, placeR ys X.L p = x := ⟨_, rfl⟩
 rw [hp1] at HON HR
 rw [hp2] at HFA HR
 rw [hp3] at HFB HR
 rw [hr] at HR ⊢
 clear hp1 hp2 hp3 hr
 obtain ⟨⟨k, t, n, a⟩, hx⟩ : ∃ x, tokAt X.L p.at' = x := ⟨_, rfl⟩
 rw [hx] at HN HR
 unfold Tok.val at HN
 clear hx
 obtain ⟨pl, hpl⟩ : ∃ x, place ys t = x := ⟨_, rfl⟩
 have HPT := Lib.hid (fun w' => HPL.out w' t pl hpl)
 dsimp only at HR
 rw [hpl] at HR
 clear hpl HPL
 unfold StV at *
 obtain ⟨⟨ad, nd, cd, ai, ni, ci, an, nn, cn, av, nv, cv⟩, s, ta, tc, L⟩ := X
 obtain ⟨af, nf, cf, ac, nc, cc, ao, no, co⟩ := m
 obtain ⟨i, ⟨g, fq, cq, oq, lm⟩, er⟩ := p
 (try dsimp only at *)
 obtain ⟨W0, hW0⟩ : ∃ W0, ((w.alloc (.cells #[.slice ad nd cd, .slice ai ni ci, .slice an nn cn, .slice av nv cv, .slice ta L.length tc, .int .i64 (i : Int), .int .u32 g, .slice af nf cf, .slice ac nc cc, .slice ao no co, .int .i64 lm, .int .i64 (er : Int)] 122)).alloc (.cells #[.slice none 0 0, .slice none 0 0, .slice none 0 0, .slice none 0 0, .slice none 0 0, .int .i64 0, .int .u32 0, .slice none 0 0, .slice none 0 0, .slice none 0 0, .int .i64 0, .int .i64 0] 122)) = W0 := ⟨_, rfl⟩
 have HB0 : Hid (Below w.heap.size w W0) := Lib.hid (by
  rw [← hW0]
  exact (((Below.refl _ _).alloc (Nat.le_refl _) _).alloc (by simp) _))
 have HZ0 : Hid (W0.heap.size = w.heap.size + 2) := Lib.hid (by rw [← hW0]; simp)
 have HK0 : Hid (Blk W0 (w.heap.size) 122 #[.slice ad nd cd, .slice ai ni ci, .slice an nn cn, .slice av nv cv, .slice ta L.length tc, .int .i64 (i : Int), .int .u32 g, .slice af nf cf, .slice ac nc cc, .slice ao no co, .int .i64 lm, .int .i64 (er : Int)]) := Lib.hid (by
  rw [← hW0]
  have h := Blk.new w 122 #[.slice ad nd cd, .slice ai ni ci, .slice an nn cn, .slice av nv cv, .slice ta L.length tc, .int .i64 (i : Int), .int .u32 g, .slice af nf cf, .slice ac nc cc, .slice ao no co, .int .i64 lm, .int .i64 (er : Int)]
  exact h.alloc _)
 have HK1 : Hid (Blk W0 (w.heap.size + 1) 122 #[.slice none 0 0, .slice none 0 0, .slice none 0 0, .slice none 0 0, .slice none 0 0, .int .i64 0, .int .u32 0, .slice none 0 0, .slice none 0 0, .slice none 0 0, .int .i64 0, .int .i64 0]) := Lib.hid (by
  rw [← hW0]
  have h := Blk.new (w.alloc (.cells #[.slice ad nd cd, .slice ai ni ci, .slice an nn cn, .slice av nv cv, .slice ta L.length tc, .int .i64 (i : Int), .int .u32 g, .slice af nf cf, .slice ac nc cc, .slice ao no co, .int .i64 lm, .int .i64 (er : Int)] 122)) 122 #[.slice none 0 0, .slice none 0 0, .slice none 0 0, .slice none 0 0, .slice none 0 0, .int .i64 0, .int .u32 0, .slice none 0 0, .slice none 0 0, .slice none 0 0, .int .i64 0, .int .i64 0]
  rw [World.size_alloc] at h
  exact h)
 (try unfold StV)
 (try dsimp only)
 go_enter Tryz.func117, Tryz.ntmps117
 go_upto_region 1 with fail
 clear hW0
 generalize hS : w.heap.size = S at *
 have HSW := Lib.hid hS
 clear hS
 have c0 := HK0.out.c 0
 have c1 := HK0.out.c 1
 have c2 := HK0.out.c 2
 have c3 := HK0.out.c 3
 have c4 := HK0.out.c 4
 have c5 := HK0.out.c 5
 have c6 := HK0.out.c 6
 have c7 := HK0.out.c 7
 have c8 := HK0.out.c 8
 have c9 := HK0.out.c 9
 have c10 := HK0.out.c 10
 have c11 := HK0.out.c 11
 have hfd := tok_f0' k n a t
 have hfe := tok_f1' k n a t
 by_cases h0 : er = 0
 ·have t0 : ((er : Int) != 0) = false := by rw [h0]; rfl
  have H0 := Lib.hid h0
  clear h0
  go_wp2_with fail
  refine (HN.out _ HB0.out).mono ?_; rintro e w1 ⟨rfl, hb1⟩
  have HB1 := Lib.hid (HB0.out.trans (hb1.mono (by have := HZ0.out; omega)))
  have HKA := Lib.hid (HK0.out.below hb1 HK0.out.lt)
  have HKB := Lib.hid (HK1.out.below hb1 HK1.out.lt)
  clear hb1
  clear c0 c1 c2 c3 c4 c5 c6 c7 c8 c9 c10 c11
  have c0 := HKA.out.c 0
  have c1 := HKA.out.c 1
  have c2 := HKA.out.c 2
  have c3 := HKA.out.c 3
  have c4 := HKA.out.c 4
  have c5 := HKA.out.c 5
  have c6 := HKA.out.c 6
  have c7 := HKA.out.c 7
  have c8 := HKA.out.c 8
  have c9 := HKA.out.c 9
  have c10 := HKA.out.c 10
  have c11 := HKA.out.c 11
  by_cases hk : k = 2
  ·have t1 : (k != 2) = false := by rw [hk]; rfl
   have HR1 : Hid (r = if pl < 0 then (p3, 0) else (p1, pl.toNat)) := Lib.hid (by rw [HR.out, if_neg (by rintro (h | h); exact h H0.out; exact h hk)])
   clear hk
   go_wp2_with fail
   refine (HN.out _ (HB1.out)).mono ?_; rintro e w2 ⟨rfl, hb2⟩
   have HB2 := Lib.hid (HB1.out.trans (hb2.mono (by have := HB1.out.size; have := HSW.out; omega)))
   have HKA2 := Lib.hid (HKA.out.below hb2 HKA.out.lt)
   have HKB2 := Lib.hid (HKB.out.below hb2 HKB.out.lt)
   clear hb2
   clear c0 c1 c2 c3 c4 c5 c6 c7 c8 c9 c10 c11
   go_wp2_with fail
   refine (HPT.out _ HB2.out).mono ?_; rintro e w3 ⟨rfl, rfl⟩
   have c0 := HKA2.out.c 0
   have c1 := HKA2.out.c 1
   have c2 := HKA2.out.c 2
   have c3 := HKA2.out.c 3
   have c4 := HKA2.out.c 4
   have c5 := HKA2.out.c 5
   have c6 := HKA2.out.c 6
   have c7 := HKA2.out.c 7
   have c8 := HKA2.out.c 8
   have c9 := HKA2.out.c 9
   have c10 := HKA2.out.c 10
   have c11 := HKA2.out.c 11
   by_cases hp : pl < 0
   ·have t2 : decide (pl < 0) = true := decide_eq_true hp
    have HRR : Hid (r = (p3, 0)) := Lib.hid (by rw [HR1.out, if_pos hp])
    clear hp
    go_wp2_with fail
    refine (HFB.out _).mono ?_; rintro e w3 ⟨rfl, hb3⟩
    have HB3 := Lib.hid (HB2.out.trans (hb3.mono (by have := HB2.out.size; have := HSW.out; omega)))
    have HKC := Lib.hid (HKB2.out.below hb3 HKB2.out.lt)
    clear hb3
    clear c0 c1 c2 c3 c4 c5 c6 c7 c8 c9 c10 c11
    have d0 := HKC.out.c 0
    have d1 := HKC.out.c 1
    have d2 := HKC.out.c 2
    have d3 := HKC.out.c 3
    have d4 := HKC.out.c 4
    have d5 := HKC.out.c 5
    have d6 := HKC.out.c 6
    have d7 := HKC.out.c 7
    have d8 := HKC.out.c 8
    have d9 := HKC.out.c 9
    have d10 := HKC.out.c 10
    have d11 := HKC.out.c 11
    have fzd : ∀ o, w3.frozen? ⟨S + 1, o, none⟩ = false := fun o => HKC.out.frozen o
    go_wp2_with fail
    have HKF := Lib.hid (blk_st12 (HKC.out) (.slice ad nd cd) (.slice ai ni ci) (.slice an nn cn) (.slice av nv cv) (.slice ta L.length tc) (.int .i64 (p3.at' : Int)) (.int .u32 p3.q.group) (.slice af nf cf) (.slice ac nc cc) (.slice ao no co) (.int .i64 p3.q.limit) (.int .i64 (p3.err : Int)))
    have HBF := Lib.hid (below_st12 (HB3.out) (b := S + 1) (by have := HSW.out; omega) (.slice ad nd cd) (.slice ai ni ci) (.slice an nn cn) (.slice av nv cv) (.slice ta L.length tc) (.int .i64 (p3.at' : Int)) (.int .u32 p3.q.group) (.slice af nf cf) (.slice ac nc cc) (.slice ao no co) (.int .i64 p3.q.limit) (.int .i64 (p3.err : Int)))
    generalize ((((((((((((w3.setCell ⟨S + 1, 0, none⟩ (.slice ad nd cd)).setCell ⟨S + 1, 1, none⟩ (.slice ai ni ci)).setCell ⟨S + 1, 2, none⟩ (.slice an nn cn)).setCell ⟨S + 1, 3, none⟩ (.slice av nv cv)).setCell ⟨S + 1, 4, none⟩ (.slice ta L.length tc)).setCell ⟨S + 1, 5, none⟩ (.int .i64 (p3.at' : Int))).setCell ⟨S + 1, 6, none⟩ (.int .u32 p3.q.group)).setCell ⟨S + 1, 7, none⟩ (.slice af nf cf)).setCell ⟨S + 1, 8, none⟩ (.slice ac nc cc)).setCell ⟨S + 1, 9, none⟩ (.slice ao no co)).setCell ⟨S + 1, 10, none⟩ (.int .i64 p3.q.limit)).setCell ⟨S + 1, 11, none⟩ (.int .i64 (p3.err : Int))) = Wf at *
    have z0 := HKF.out.c 0
    have z1 := HKF.out.c 1
    have z2 := HKF.out.c 2
    have z3 := HKF.out.c 3
    have z4 := HKF.out.c 4
    have z5 := HKF.out.c 5
    have z6 := HKF.out.c 6
    have z7 := HKF.out.c 7
    have z8 := HKF.out.c 8
    have z9 := HKF.out.c 9
    have z10 := HKF.out.c 10
    have z11 := HKF.out.c 11
    refine bodyPost_ret (v := .tuple #[.agg #[.slice ad nd cd, .slice ai ni ci, .slice an nn cn, .slice av nv cv, .slice ta L.length tc, .int .i64 (p3.at' : Int), .int .u32 p3.q.group, .slice af nf cf, .slice ac nc cc, .slice ao no co, .int .i64 p3.q.limit, .int .i64 (p3.err : Int)], .int .i64 0]) (by simp [results, Tryz.results117, go_sem, z0, z1, z2, z3, z4, z5, z6, z7, z8, z9, z10, z11]) rfl ?_
    exact ⟨by rw [HRR.out]; rfl, by rw [HSW.out]; exact HBF.out⟩
   ·have t2 : decide (pl < 0) = false := decide_eq_false hp
    have HRR : Hid (r = (p1, pl.toNat)) := Lib.hid (by rw [HR1.out, if_neg hp])
    have HPN : Hid (((pl.toNat : Nat) : Int) = pl) := Lib.hid (by omega)
    clear hp
    go_wp2_with fail
    refine (HON.out _).mono ?_; rintro e w3 ⟨rfl, hb3⟩
    have HB3 := Lib.hid (HB2.out.trans (hb3.mono (by have := HB2.out.size; have := HSW.out; omega)))
    have HKC := Lib.hid (HKB2.out.below hb3 HKB2.out.lt)
    clear hb3
    clear c0 c1 c2 c3 c4 c5 c6 c7 c8 c9 c10 c11
    have d0 := HKC.out.c 0
    have d1 := HKC.out.c 1
    have d2 := HKC.out.c 2
    have d3 := HKC.out.c 3
    have d4 := HKC.out.c 4
    have d5 := HKC.out.c 5
    have d6 := HKC.out.c 6
    have d7 := HKC.out.c 7
    have d8 := HKC.out.c 8
    have d9 := HKC.out.c 9
    have d10 := HKC.out.c 10
    have d11 := HKC.out.c 11
    have fzd : ∀ o, w3.frozen? ⟨S + 1, o, none⟩ = false := fun o => HKC.out.frozen o
    go_wp2_with fail
    have HKF := Lib.hid (blk_st12 (HKC.out) (.slice ad nd cd) (.slice ai ni ci) (.slice an nn cn) (.slice av nv cv) (.slice ta L.length tc) (.int .i64 (p1.at' : Int)) (.int .u32 p1.q.group) (.slice af nf cf) (.slice ac nc cc) (.slice ao no co) (.int .i64 p1.q.limit) (.int .i64 (p1.err : Int)))
    have HBF := Lib.hid (below_st12 (HB3.out) (b := S + 1) (by have := HSW.out; omega) (.slice ad nd cd) (.slice ai ni ci) (.slice an nn cn) (.slice av nv cv) (.slice ta L.length tc) (.int .i64 (p1.at' : Int)) (.int .u32 p1.q.group) (.slice af nf cf) (.slice ac nc cc) (.slice ao no co) (.int .i64 p1.q.limit) (.int .i64 (p1.err : Int)))
    generalize ((((((((((((w3.setCell ⟨S + 1, 0, none⟩ (.slice ad nd cd)).setCell ⟨S + 1, 1, none⟩ (.slice ai ni ci)).setCell ⟨S + 1, 2, none⟩ (.slice an nn cn)).setCell ⟨S + 1, 3, none⟩ (.slice av nv cv)).setCell ⟨S + 1, 4, none⟩ (.slice ta L.length tc)).setCell ⟨S + 1, 5, none⟩ (.int .i64 (p1.at' : Int))).setCell ⟨S + 1, 6, none⟩ (.int .u32 p1.q.group)).setCell ⟨S + 1, 7, none⟩ (.slice af nf cf)).setCell ⟨S + 1, 8, none⟩ (.slice ac nc cc)).setCell ⟨S + 1, 9, none⟩ (.slice ao no co)).setCell ⟨S + 1, 10, none⟩ (.int .i64 p1.q.limit)).setCell ⟨S + 1, 11, none⟩ (.int .i64 (p1.err : Int))) = Wf at *
    have z0 := HKF.out.c 0
    have z1 := HKF.out.c 1
    have z2 := HKF.out.c 2
    have z3 := HKF.out.c 3
    have z4 := HKF.out.c 4
    have z5 := HKF.out.c 5
    have z6 := HKF.out.c 6
    have z7 := HKF.out.c 7
    have z8 := HKF.out.c 8
    have z9 := HKF.out.c 9
    have z10 := HKF.out.c 10
    have z11 := HKF.out.c 11
    refine bodyPost_ret (v := .tuple #[.agg #[.slice ad nd cd, .slice ai ni ci, .slice an nn cn, .slice av nv cv, .slice ta L.length tc, .int .i64 (p1.at' : Int), .int .u32 p1.q.group, .slice af nf cf, .slice ac nc cc, .slice ao no co, .int .i64 p1.q.limit, .int .i64 (p1.err : Int)], .int .i64 pl]) (by simp [results, Tryz.results117, go_sem, z0, z1, z2, z3, z4, z5, z6, z7, z8, z9, z10, z11]) rfl ?_
    exact ⟨by rw [HRR.out, HPN.out], by rw [HSW.out]; exact HBF.out⟩
  ·have t1 : (k != 2) = true := by rw [bne_iff_ne]; exact hk
   have HRR : Hid (r = (p2, 0)) := Lib.hid (by rw [HR.out, if_pos (.inr hk)])
   clear hk
   go_wp2_with fail
   refine (HFA.out _).mono ?_; rintro e w2 ⟨rfl, hb2⟩
   have HB2 := Lib.hid (HB1.out.trans (hb2.mono (by have := HB1.out.size; have := HSW.out; omega)))
   have HKC := Lib.hid (HKB.out.below hb2 HKB.out.lt)
   clear hb2
   clear c0 c1 c2 c3 c4 c5 c6 c7 c8 c9 c10 c11
   have d0 := HKC.out.c 0
   have d1 := HKC.out.c 1
   have d2 := HKC.out.c 2
   have d3 := HKC.out.c 3
   have d4 := HKC.out.c 4
   have d5 := HKC.out.c 5
   have d6 := HKC.out.c 6
   have d7 := HKC.out.c 7
   have d8 := HKC.out.c 8
   have d9 := HKC.out.c 9
   have d10 := HKC.out.c 10
   have d11 := HKC.out.c 11
   have fzd : ∀ o, w2.frozen? ⟨S + 1, o, none⟩ = false := fun o => HKC.out.frozen o
   go_wp2_with fail
   have HKF := Lib.hid (blk_st12 (HKC.out) (.slice ad nd cd) (.slice ai ni ci) (.slice an nn cn) (.slice av nv cv) (.slice ta L.length tc) (.int .i64 (p2.at' : Int)) (.int .u32 p2.q.group) (.slice af nf cf) (.slice ac nc cc) (.slice ao no co) (.int .i64 p2.q.limit) (.int .i64 (p2.err : Int)))
   have HBF := Lib.hid (below_st12 (HB2.out) (b := S + 1) (by have := HSW.out; omega) (.slice ad nd cd) (.slice ai ni ci) (.slice an nn cn) (.slice av nv cv) (.slice ta L.length tc) (.int .i64 (p2.at' : Int)) (.int .u32 p2.q.group) (.slice af nf cf) (.slice ac nc cc) (.slice ao no co) (.int .i64 p2.q.limit) (.int .i64 (p2.err : Int)))
   generalize ((((((((((((w2.setCell ⟨S + 1, 0, none⟩ (.slice ad nd cd)).setCell ⟨S + 1, 1, none⟩ (.slice ai ni ci)).setCell ⟨S + 1, 2, none⟩ (.slice an nn cn)).setCell ⟨S + 1, 3, none⟩ (.slice av nv cv)).setCell ⟨S + 1, 4, none⟩ (.slice ta L.length tc)).setCell ⟨S + 1, 5, none⟩ (.int .i64 (p2.at' : Int))).setCell ⟨S + 1, 6, none⟩ (.int .u32 p2.q.group)).setCell ⟨S + 1, 7, none⟩ (.slice af nf cf)).setCell ⟨S + 1, 8, none⟩ (.slice ac nc cc)).setCell ⟨S + 1, 9, none⟩ (.slice ao no co)).setCell ⟨S + 1, 10, none⟩ (.int .i64 p2.q.limit)).setCell ⟨S + 1, 11, none⟩ (.int .i64 (p2.err : Int))) = Wf at *
   have z0 := HKF.out.c 0
   have z1 := HKF.out.c 1
   have z2 := HKF.out.c 2
   have z3 := HKF.out.c 3
   have z4 := HKF.out.c 4
   have z5 := HKF.out.c 5
   have z6 := HKF.out.c 6
   have z7 := HKF.out.c 7
   have z8 := HKF.out.c 8
   have z9 := HKF.out.c 9
   have z10 := HKF.out.c 10
   have z11 := HKF.out.c 11
   refine bodyPost_ret (v := .tuple #[.agg #[.slice ad nd cd, .slice ai ni ci, .slice an nn cn, .slice av nv cv, .slice ta L.length tc, .int .i64 (p2.at' : Int), .int .u32 p2.q.group, .slice af nf cf, .slice ac nc cc, .slice ao no co, .int .i64 p2.q.limit, .int .i64 (p2.err : Int)], .int .i64 0]) (by simp [results, Tryz.results117, go_sem, z0, z1, z2, z3, z4, z5, z6, z7, z8, z9, z10, z11]) rfl ?_
   exact ⟨by rw [HRR.out]; rfl, by rw [HSW.out]; exact HBF.out⟩
 ·have t0 : ((er : Int) != 0) = true := by simp; omega
  have HRR : Hid (r = (p2, 0)) := Lib.hid (by rw [HR.out, if_pos (.inl h0)])
  clear h0
  go_wp2_with fail
  refine (HFA.out _).mono ?_; rintro e w2 ⟨rfl, hb2⟩
  have HB2 := Lib.hid (HB0.out.trans (hb2.mono (by have := HZ0.out; omega)))
  have HKC := Lib.hid (HK1.out.below hb2 HK1.out.lt)
  clear hb2
  clear c0 c1 c2 c3 c4 c5 c6 c7 c8 c9 c10 c11
  have d0 := HKC.out.c 0
  have d1 := HKC.out.c 1
  have d2 := HKC.out.c 2
  have d3 := HKC.out.c 3
  have d4 := HKC.out.c 4
  have d5 := HKC.out.c 5
  have d6 := HKC.out.c 6
  have d7 := HKC.out.c 7
  have d8 := HKC.out.c 8
  have d9 := HKC.out.c 9
  have d10 := HKC.out.c 10
  have d11 := HKC.out.c 11
  have fzd : ∀ o, w2.frozen? ⟨S + 1, o, none⟩ = false := fun o => HKC.out.frozen o
  go_wp2_with fail
  have HKF := Lib.hid (blk_st12 (HKC.out) (.slice ad nd cd) (.slice ai ni ci) (.slice an nn cn) (.slice av nv cv) (.slice ta L.length tc) (.int .i64 (p2.at' : Int)) (.int .u32 p2.q.group) (.slice af nf cf) (.slice ac nc cc) (.slice ao no co) (.int .i64 p2.q.limit) (.int .i64 (p2.err : Int)))
  have HBF := Lib.hid (below_st12 (HB2.out) (b := S + 1) (by have := HSW.out; omega) (.slice ad nd cd) (.slice ai ni ci) (.slice an nn cn) (.slice av nv cv) (.slice ta L.length tc) (.int .i64 (p2.at' : Int)) (.int .u32 p2.q.group) (.slice af nf cf) (.slice ac nc cc) (.slice ao no co) (.int .i64 p2.q.limit) (.int .i64 (p2.err : Int)))
  generalize ((((((((((((w2.setCell ⟨S + 1, 0, none⟩ (.slice ad nd cd)).setCell ⟨S + 1, 1, none⟩ (.slice ai ni ci)).setCell ⟨S + 1, 2, none⟩ (.slice an nn cn)).setCell ⟨S + 1, 3, none⟩ (.slice av nv cv)).setCell ⟨S + 1, 4, none⟩ (.slice ta L.length tc)).setCell ⟨S + 1, 5, none⟩ (.int .i64 (p2.at' : Int))).setCell ⟨S + 1, 6, none⟩ (.int .u32 p2.q.group)).setCell ⟨S + 1, 7, none⟩ (.slice af nf cf)).setCell ⟨S + 1, 8, none⟩ (.slice ac nc cc)).setCell ⟨S + 1, 9, none⟩ (.slice ao no co)).setCell ⟨S + 1, 10, none⟩ (.int .i64 p2.q.limit)).setCell ⟨S + 1, 11, none⟩ (.int .i64 (p2.err : Int))) = Wf at *
  have z0 := HKF.out.c 0
  have z1 := HKF.out.c 1
  have z2 := HKF.out.c 2
  have z3 := HKF.out.c 3
  have z4 := HKF.out.c 4
  have z5 := HKF.out.c 5
  have z6 := HKF.out.c 6
  have z7 := HKF.out.c 7
  have z8 := HKF.out.c 8
  have z9 := HKF.out.c 9
  have z10 := HKF.out.c 10
  have z11 := HKF.out.c 11
  refine bodyPost_ret (v := .tuple #[.agg #[.slice ad nd cd, .slice ai ni ci, .slice an nn cn, .slice av nv cv, .slice ta L.length tc, .int .i64 (p2.at' : Int), .int .u32 p2.q.group, .slice af nf cf, .slice ac nc cc, .slice ao no co, .int .i64 p2.q.limit, .int .i64 (p2.err : Int)], .int .i64 0]) (by simp [results, Tryz.results117, go_sem, z0, z1, z2, z3, z4, z5, z6, z7, z8, z9, z10, z11]) rfl ?_
  exact ⟨by rw [HRR.out]; rfl, by rw [HSW.out]; exact HBF.out⟩
end Go.Proofs.YtaofjnidniekjaaGreatDoor
/- The reference's reading (package bushelref36): dim. Conditions: those stated. -/
namespace Go.Proofs.YtaofjnidniekjaaGreatDoor
open Go.RowKit

set_option maxRecDepth 100000 in
set_option maxHeartbeats 1000000 in
theorem vdim_any (X : RX) (m : QryL) (p : PState) (w : World) (hX : X.At w) (hi : p.at' < X.L.length) :
  Calls Tryz.prog 118 #[StV X m p] w (RStN X m ((placeR (dimN X.s) X.L p).1, ((placeR (dimN X.s) X.L p).2 : Int)) w) := by
 have HP : Hid (∀ (w' : World) (ya : Option Addr) (yn yc : Nat), Below w.heap.size w w' → RowS w' ya yn yc (dimN X.s) → Calls Tryz.prog 117 #[StV X m p, .slice ya yn yc] w' (RStN X m ((placeR (dimN X.s) X.L p).1, ((placeR (dimN X.s) X.L p).2 : Int)) w')) := Lib.hid (fun w' ya yn yc hb hy => vplace_any X m p w' (hX.below hb (Nat.le_refl _)) hi ya yn yc _ hy)
 have HD : Hid (∀ w', Below w.heap.size w w' → RowG 2 w' X.l.ad X.l.nd X.l.cd (dimCells X.s.dims)) := Lib.hid (fun w' hb => hX.sch.1.below hb (Nat.le_refl _))
 have HLN : Hid (X.s.dims.length = X.l.nd) := Lib.hid hX.sch.2.1
 have hnd : X.l.nd ≤ 6 := by have := (chk_dims hX.chk).1; rw [HLN.out] at this; exact this
 clear hX hi
 unfold RStN at *
 obtain ⟨⟨p1, pn⟩, hp1⟩ : ∃ x, placeR (dimN X.s) X.L p = x := ⟨_, rfl⟩
 rw [hp1] at HP ⊢
 clear hp1
 unfold StV at *
 obtain ⟨⟨ad, nd, cd, ai, ni, ci, an, nn, cn, av, nv, cv⟩, s, ta, tc, L⟩ := X
 obtain ⟨af, nf, cf, ac, nc, cc, ao, no, co⟩ := m
 obtain ⟨i, ⟨g, fq, cq, oq, lm⟩, er⟩ := p
 (try dsimp only at *)
 obtain ⟨W0, hW0⟩ : ∃ W0, ((w.alloc (.cells #[.slice ad nd cd, .slice ai ni ci, .slice an nn cn, .slice av nv cv, .slice ta L.length tc, .int .i64 (i : Int), .int .u32 g, .slice af nf cf, .slice ac nc cc, .slice ao no co, .int .i64 lm, .int .i64 (er : Int)] 122)).alloc (.cells #[.slice none 0 0, .slice none 0 0, .slice none 0 0, .slice none 0 0, .slice none 0 0, .int .i64 0, .int .u32 0, .slice none 0 0, .slice none 0 0, .slice none 0 0, .int .i64 0, .int .i64 0] 122)) = W0 := ⟨_, rfl⟩
 have HB0 : Hid (Below w.heap.size w W0) := Lib.hid (by
  rw [← hW0]
  exact (((Below.refl _ _).alloc (Nat.le_refl _) _).alloc (by simp) _))
 have HZ0 : Hid (W0.heap.size = w.heap.size + 2) := Lib.hid (by rw [← hW0]; simp)
 have HK0 : Hid (Blk W0 (w.heap.size) 122 #[.slice ad nd cd, .slice ai ni ci, .slice an nn cn, .slice av nv cv, .slice ta L.length tc, .int .i64 (i : Int), .int .u32 g, .slice af nf cf, .slice ac nc cc, .slice ao no co, .int .i64 lm, .int .i64 (er : Int)]) := Lib.hid (by
  rw [← hW0]
  have h := Blk.new w 122 #[.slice ad nd cd, .slice ai ni ci, .slice an nn cn, .slice av nv cv, .slice ta L.length tc, .int .i64 (i : Int), .int .u32 g, .slice af nf cf, .slice ac nc cc, .slice ao no co, .int .i64 lm, .int .i64 (er : Int)]
  exact h.alloc _)
 have HK1 : Hid (Blk W0 (w.heap.size + 1) 122 #[.slice none 0 0, .slice none 0 0, .slice none 0 0, .slice none 0 0, .slice none 0 0, .int .i64 0, .int .u32 0, .slice none 0 0, .slice none 0 0, .slice none 0 0, .int .i64 0, .int .i64 0]) := Lib.hid (by
  rw [← hW0]
  have h := Blk.new (w.alloc (.cells #[.slice ad nd cd, .slice ai ni ci, .slice an nn cn, .slice av nv cv, .slice ta L.length tc, .int .i64 (i : Int), .int .u32 g, .slice af nf cf, .slice ac nc cc, .slice ao no co, .int .i64 lm, .int .i64 (er : Int)] 122)) 122 #[.slice none 0 0, .slice none 0 0, .slice none 0 0, .slice none 0 0, .slice none 0 0, .int .i64 0, .int .u32 0, .slice none 0 0, .slice none 0 0, .slice none 0 0, .int .i64 0, .int .i64 0]
  rw [World.size_alloc] at h
  exact h)
 (try unfold StV)
 (try dsimp only)
 go_enter Tryz.func118, Tryz.ntmps118
 go_upto_region 1 with fail
 clear hW0
 generalize hS : w.heap.size = S at *
 have HSW := Lib.hid hS
 clear hS
 have c0 := HK0.out.c 0
 go_wp2_with fail
 go_loopg [4, 5] nd (fun q v iu wr => ∃ (j : Nat), iu = .int .i64 j ∧ j + q = nd ∧ wr.ownsRow (S + 2) 9 1 v j (((dimN s).take j).map Value.string) ∧ Below (S + 2) W0 wr)
 case atStart => exact ⟨0, rfl, by omega, World.ownsRow_nil _ _ _ _, Below.refl _ _⟩
 case round =>
  obtain ⟨j, rfl, hq, hown, hb⟩ := hrel
  have HQ := Lib.hid hq
  have HOW := Lib.hid hown
  have HB := Lib.hid hb
  have HBW := Lib.hid (HB0.out.trans (hb.mono (show S ≤ S + 2 by omega)))
  have hsz : S + 2 ≤ wr.heap.size := by have := hb.size; have := HZ0.out; omega
  have c0 : wr.cell? ⟨S, 0, none⟩ = some (.slice ad nd cd) := (HK0.out.below HB.out (by omega)).cell 0
  clear hq hown hb
  by_cases hlt : j < nd
  ·obtain ⟨b, off, e, hbl, hc⟩ := (HD.out wr HBW.out).at (by show 0 < nd; omega)
   (try simp only at e)
   subst e
   have hlen : s.dims.length = nd := HLN.out
   have d0 := hc (j * 2) (by show j * 2 < nd * 2; omega)
   obtain ⟨g0, -⟩ := dimCells_get (ds := s.dims) (i := j) (by omega)
   rw [g0] at d0
   have HT := Lib.hid (dim_take (ds := s.dims) (i := j) (by omega))
   obtain ⟨nm, hnm⟩ : ∃ x, (dimAt s.dims j).1 = x := ⟨_, rfl⟩
   rw [hnm] at d0 HT
   obtain ⟨L0, hL0⟩ : ∃ L, ((s.dims.map (·.1)).take j).map Value.string = L := ⟨_, rfl⟩
   have hown : wr.ownsRow (S + 2) 9 1 u4 j (((s.dims.map (·.1)).take j).map Value.string) := HOW.out
   rw [hL0] at hown HT
   have HOW1 := Lib.hid hown
   clear hc g0 hnm hlen hown hL0 HOW
   go_wp2_with (at_builtin; refine wpList_append_oneG (z := .string ByteArray.empty) (sz := 1) (bytes := 16) info_string rfl (by decide) Tryz.underlying23 rfl _ _ rfl wr _ #[.string nm] (S + 2) u4 j L0 wr.heap.size rfl rfl rfl rfl HOW1.out (fun u hu => by simp at hu; subst hu; rfl) (by omega) (by unfold maxLen; omega) hsz ?_)
   intro v' w' h2 h3 h4
   have HOW2 : Hid (w'.ownsRow (S + 2) 9 1 v' (j + 1) (((dimN s).take (j + 1)).map Value.string)) := Lib.hid (by unfold dimN; rw [HT.out]; exact h2)
   have HB2 := Lib.hid (h4 W0 HB.out)
   clear h2 h3 h4 d0 c0
   go_wp2_with fail
   go_roundg (nd - j - 1)
   case measure => have := HQ.out; omega
   case rel => exact ⟨j + 1, by go_num, by have := HQ.out; omega, HOW2.out, HB2.out⟩
  ·obtain rfl : j = nd := by have := HQ.out; omega
   have hlen : s.dims.length = j := HLN.out
   have hown := HOW.out
   rw [List.take_of_length_le (by unfold dimN; rw [List.length_map, hlen]; exact Nat.le_refl _)] at hown
   obtain ⟨ya, yc, rfl⟩ := own_form hown
   have HRS := Lib.hid (RowS.of_g (RowG.of_own hown))
   have HKA := Lib.hid (HK0.out.below HB.out (by omega))
   have HKB := Lib.hid (HK1.out.below HB.out (by omega))
   clear hown hlen HOW c0
   have c0 := HKA.out.c 0
   have c1 := HKA.out.c 1
   have c2 := HKA.out.c 2
   have c3 := HKA.out.c 3
   have c4 := HKA.out.c 4
   have c5 := HKA.out.c 5
   have c6 := HKA.out.c 6
   have c7 := HKA.out.c 7
   have c8 := HKA.out.c 8
   have c9 := HKA.out.c 9
   have c10 := HKA.out.c 10
   have c11 := HKA.out.c 11
   go_wp2_with fail
   refine (HP.out wr ya j yc HBW.out HRS.out).mono ?_; rintro e w2 ⟨rfl, hb2⟩
   have HB2 := Lib.hid (HBW.out.trans (hb2.mono (by omega)))
   have HKC := Lib.hid (HKB.out.below hb2 HKB.out.lt)
   clear hb2
   clear c0 c1 c2 c3 c4 c5 c6 c7 c8 c9 c10 c11
   have d0 := HKC.out.c 0
   have d1 := HKC.out.c 1
   have d2 := HKC.out.c 2
   have d3 := HKC.out.c 3
   have d4 := HKC.out.c 4
   have d5 := HKC.out.c 5
   have d6 := HKC.out.c 6
   have d7 := HKC.out.c 7
   have d8 := HKC.out.c 8
   have d9 := HKC.out.c 9
   have d10 := HKC.out.c 10
   have d11 := HKC.out.c 11
   have fzd : ∀ o, w2.frozen? ⟨S + 1, o, none⟩ = false := fun o => HKC.out.frozen o
   go_wp2_with fail
   have HKF := Lib.hid (blk_st12 (HKC.out) (.slice ad j cd) (.slice ai ni ci) (.slice an nn cn) (.slice av nv cv) (.slice ta L.length tc) (.int .i64 (p1.at' : Int)) (.int .u32 p1.q.group) (.slice af nf cf) (.slice ac nc cc) (.slice ao no co) (.int .i64 p1.q.limit) (.int .i64 (p1.err : Int)))
   have HBF := Lib.hid (below_st12 (HB2.out) (b := S + 1) (by have := HSW.out; omega) (.slice ad j cd) (.slice ai ni ci) (.slice an nn cn) (.slice av nv cv) (.slice ta L.length tc) (.int .i64 (p1.at' : Int)) (.int .u32 p1.q.group) (.slice af nf cf) (.slice ac nc cc) (.slice ao no co) (.int .i64 p1.q.limit) (.int .i64 (p1.err : Int)))
   generalize ((((((((((((w2.setCell ⟨S + 1, 0, none⟩ (.slice ad j cd)).setCell ⟨S + 1, 1, none⟩ (.slice ai ni ci)).setCell ⟨S + 1, 2, none⟩ (.slice an nn cn)).setCell ⟨S + 1, 3, none⟩ (.slice av nv cv)).setCell ⟨S + 1, 4, none⟩ (.slice ta L.length tc)).setCell ⟨S + 1, 5, none⟩ (.int .i64 (p1.at' : Int))).setCell ⟨S + 1, 6, none⟩ (.int .u32 p1.q.group)).setCell ⟨S + 1, 7, none⟩ (.slice af nf cf)).setCell ⟨S + 1, 8, none⟩ (.slice ac nc cc)).setCell ⟨S + 1, 9, none⟩ (.slice ao no co)).setCell ⟨S + 1, 10, none⟩ (.int .i64 p1.q.limit)).setCell ⟨S + 1, 11, none⟩ (.int .i64 (p1.err : Int))) = Wf at *
   have z0 := HKF.out.c 0
   have z1 := HKF.out.c 1
   have z2 := HKF.out.c 2
   have z3 := HKF.out.c 3
   have z4 := HKF.out.c 4
   have z5 := HKF.out.c 5
   have z6 := HKF.out.c 6
   have z7 := HKF.out.c 7
   have z8 := HKF.out.c 8
   have z9 := HKF.out.c 9
   have z10 := HKF.out.c 10
   have z11 := HKF.out.c 11
   refine bodyPost_ret (v := .tuple #[.agg #[.slice ad j cd, .slice ai ni ci, .slice an nn cn, .slice av nv cv, .slice ta L.length tc, .int .i64 (p1.at' : Int), .int .u32 p1.q.group, .slice af nf cf, .slice ac nc cc, .slice ao no co, .int .i64 p1.q.limit, .int .i64 (p1.err : Int)], .int .i64 (pn : Int)]) (by simp [results, Tryz.results118, go_sem, z0, z1, z2, z3, z4, z5, z6, z7, z8, z9, z10, z11]) rfl ?_
   exact ⟨rfl, by rw [HSW.out]; exact HBF.out⟩
end Go.Proofs.YtaofjnidniekjaaGreatDoor
