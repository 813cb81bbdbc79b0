/- The reference's reading, state by state (plain): it ends where the reading of XParA ends. No conditions. -/
import Derived.Test.YtaofjnidniekjaaGreatDoorMPaA
import Derived.Test.YtaofjnidniekjaaGreatDoorMPaB
import Derived.Test.YtaofjnidniekjaaGreatDoorMRs1
namespace Go.Proofs.YtaofjnidniekjaaGreatDoor
open Go.RowKit

structure PState where
 at' : Nat
 q : QP
 err : Nat
def isR (L : List Tok) (p : PState) (t : List UInt8) : Bool := decide (p.err = 0) && wordAt L p.at' t
def onR (p : PState) : PState := { p with at' := p.at' + 1 }
def failR (p : PState) (e : Nat) : PState := if p.err = 0 then { p with err := e } else p
def wantR (L : List Tok) (p : PState) (t : List UInt8) : PState := if isR L p t then onR p else failR p 6
def numTR (L : List Tok) (p : PState) : PState × Int := if p.err ≠ 0 ∨ (tokAt L p.at').k ≠ 3 then (failR p 6, 0) else (onR p, (tokAt L p.at').n)
def placeR (names : List ByteArray) (L : List Tok) (p : PState) : PState × Nat :=
 if p.err ≠ 0 ∨ (tokAt L p.at').k ≠ 2 then (failR p 6, 0) else if place names (tokAt L p.at').t < 0 then (failR p 11, 0) else (onR p, (place names (tokAt L p.at').t).toNat)
/-- what a state says of a reading -/
def SaysR (p : PState) (r : Except (Nat × Nat) (Nat × QP)) : Prop := match r with
 | .ok x => p = ⟨x.1, x.2, 0⟩
 | .error e => p.at' = e.1 ∧ p.err = e.2 ∧ e.2 ≠ 0
/-- nothing is behind a fault -/
def StuckR (p p' : PState) : Prop := p'.at' = p.at' ∧ p'.err = p.err
theorem StuckR.refl (p : PState) : StuckR p p := ⟨rfl, rfl⟩
theorem six (a : Nat) : ((a, 6) : Nat × Nat).2 ≠ 0 := fun h => absurd (show (6 : Nat) = 0 from h) (by decide)
theorem six' (i : Nat) (q : QP) : (⟨i, q, 6⟩ : PState).err ≠ 0 := fun h => absurd (show (6 : Nat) = 0 from h) (by decide)
theorem is_stuck {L : List Tok} {p : PState} {t : List UInt8} (h : p.err ≠ 0) : isR L p t = false := by unfold isR; rw [decide_eq_false h]; rfl
theorem is_ok {L : List Tok} {i : Nat} {q : QP} {t : List UInt8} : isR L ⟨i, q, 0⟩ t = wordAt L i t := by unfold isR; rw [decide_eq_true rfl]; rfl
theorem fail_stuck {p : PState} {e : Nat} (h : p.err ≠ 0) : failR p e = p := by unfold failR; rw [if_neg h]
theorem want_stuck {L : List Tok} {p : PState} {t : List UInt8} (h : p.err ≠ 0) : wantR L p t = p := by unfold wantR; rw [is_stuck h, if_neg (by decide), fail_stuck h]
theorem place_stuck {names : List ByteArray} {L : List Tok} {p : PState} (h : p.err ≠ 0) : placeR names L p = (p, 0) := by unfold placeR; rw [if_pos (.inl h), fail_stuck h]
theorem want_says (L : List Tok) (i : Nat) (q : QP) (t : List UInt8) : (∃ j, wantS L i t = .ok j ∧ wantR L ⟨i, q, 0⟩ t = ⟨j, q, 0⟩) ∨ (wantS L i t = .error (i, 6) ∧ wantR L ⟨i, q, 0⟩ t = ⟨i, q, 6⟩) := by
 unfold wantR wantS
 rw [is_ok]
 cases wordAt L i t
 ·exact .inr ⟨rfl, rfl⟩
 ·exact .inl ⟨_, rfl, rfl⟩
theorem num_says (L : List Tok) (i : Nat) (q : QP) : (∃ j n, numT L i = .ok (j, n) ∧ numTR L ⟨i, q, 0⟩ = (⟨j, q, 0⟩, n)) ∨ (numT L i = .error (i, 6) ∧ numTR L ⟨i, q, 0⟩ = (⟨i, q, 6⟩, 0)) := by
 unfold numTR numT
 by_cases h : (tokAt L i).k = 3
 ·rw [if_pos h, if_neg (by simp [h])]
  exact .inl ⟨_, _, rfl, rfl⟩
 ·rw [if_neg h, if_pos (.inr h)]
  exact .inr ⟨rfl, rfl⟩
theorem place_says (names : List ByteArray) (L : List Tok) (i : Nat) (q : QP) : (∃ j n, nameS names L i = .ok (j, n) ∧ placeR names L ⟨i, q, 0⟩ = (⟨j, q, 0⟩, n)) ∨ (∃ e, e ≠ 0 ∧ nameS names L i = .error (i, e) ∧ placeR names L ⟨i, q, 0⟩ = (⟨i, q, e⟩, 0)) := by
 unfold placeR nameS
 by_cases h : (tokAt L i).k = 2
 ·have hnn : ¬ ((⟨i, q, 0⟩ : PState).err ≠ 0 ∨ (tokAt L (⟨i, q, 0⟩ : PState).at').k ≠ 2) := by
   rintro (h1 | h1)
   ·exact h1 rfl
   ·exact h1 h
  rw [if_pos h, if_neg hnn]
  by_cases hp : place names (tokAt L i).t < 0
  ·rw [if_pos hp]; rw [if_pos hp]; exact .inr ⟨11, by decide, rfl, rfl⟩
  ·rw [if_neg hp]; rw [if_neg hp]; exact .inl ⟨_, _, rfl, rfl⟩
 ·rw [if_neg h, if_pos (.inr h)]
  exact .inr ⟨6, by decide, rfl, rfl⟩
/-- a column -/
def colR (meas : List ByteArray) (L : List Tok) (p : PState) : PState :=
 match (if p.err = 0 then kindAt L p.at' aggW 0 else none) with
 | none => failR p 6
 | some 0 => { onR p with q := { p.q with cols := p.q.cols ++ [(0, 0)] } }
 | some (k + 1) =>
  let x := placeR meas L (wantR L (onR p) [40])
  let y := wantR L x.1 [41]
  { y with q := { y.q with cols := y.q.cols ++ [(((k + 1 : Nat) : Int), (x.2 : Int))] } }
theorem col_stuck {meas : List ByteArray} {L : List Tok} {p : PState} (h : p.err ≠ 0) : StuckR p (colR meas L p) := by
 unfold colR; rw [if_neg h]; dsimp only; rw [fail_stuck h]; exact StuckR.refl p
theorem col_says (meas : List ByteArray) (L : List Tok) (i : Nat) (q : QP) : SaysR (colR meas L ⟨i, q, 0⟩) (colS meas L i q) := by
 unfold colR colS
 rw [if_pos rfl]
 dsimp only
 cases kindAt L i aggW 0 with
 | none => exact ⟨rfl, rfl, six _⟩
 | some k =>
  cases k with
  | zero => rfl
  | succ k =>
   dsimp only [onR]
   rcases want_says L (i + 1) q [40] with ⟨j, h1, h2⟩ | ⟨h1, h2⟩
   ·rw [h1, h2]
    rcases place_says meas L j q with ⟨j2, n, h3, h4⟩ | ⟨e, he, h3, h4⟩
    ·show SaysR _ (nameS meas L j >>= _)
     rw [h3, h4]
     rcases want_says L j2 q [41] with ⟨j3, h5, h6⟩ | ⟨h5, h6⟩
     ·show SaysR _ (wantS L j2 [41] >>= _)
      rw [h5]; dsimp only; rw [h6]; rfl
     ·show SaysR _ (wantS L j2 [41] >>= _)
      rw [h5]; dsimp only; rw [h6]; exact ⟨rfl, rfl, six _⟩
    ·show SaysR _ (nameS meas L j >>= _)
     rw [h3, h4]; dsimp only; rw [want_stuck he]; exact ⟨rfl, rfl, he⟩
   ·rw [h1, h2, place_stuck (six' _ _)]; dsimp only; rw [want_stuck (six' _ _)]; exact ⟨rfl, rfl, six _⟩
/-- what rows are put in order by -/
def ordR (L : List Tok) (p : PState) : PState :=
 let x := numTR L p
 let d := isR L x.1 [100, 101, 115, 99]
 let y := if d || isR L x.1 [97, 115, 99] then onR x.1 else x.1
 { y with q := { y.q with ord := y.q.ord ++ [(x.2 - 1, d)] } }
theorem ord_says (L : List Tok) (i : Nat) (q : QP) : SaysR (ordR L ⟨i, q, 0⟩) (ordS L i q) := by
 unfold ordR ordS
 rcases num_says L i q with ⟨j, n, h1, h2⟩ | ⟨h1, h2⟩
 ·show SaysR _ (numT L i >>= _)
  rw [h1, h2]
  dsimp only
  rw [is_ok, is_ok]
  show SaysR _ (if wordAt L j [100, 101, 115, 99] = true then _ else _)
  cases wordAt L j [100, 101, 115, 99]
  ·show SaysR _ (if wordAt L j [97, 115, 99] = true then _ else _)
   cases wordAt L j [97, 115, 99] <;> rfl
  ·rfl
 ·show SaysR _ (numT L i >>= _)
  rw [h1, h2]
  dsimp only
  rw [is_stuck (six' _ _), is_stuck (six' _ _)]
  exact ⟨rfl, rfl, six _⟩
/-- a name behind by -/
def groupR (dims : List ByteArray) (L : List Tok) (p : PState) : PState :=
 let x := placeR dims L p
 if x.1.err = 0 ∧ p.q.group / 2 ^ x.2 % 2 = 1 then failR p 9
 else if x.1.err = 0 then { x.1 with q := { x.1.q with group := x.1.q.group + 2 ^ x.2 } } else x.1
theorem group_says (dims : List ByteArray) (L : List Tok) (i : Nat) (q : QP) : SaysR (groupR dims L ⟨i, q, 0⟩) (groupS dims L i q) := by
 unfold groupR groupS
 rcases place_says dims L i q with ⟨j, d, h1, h2⟩ | ⟨e, he, h1, h2⟩
 ·show SaysR _ (nameS dims L i >>= _)
  rw [h1, h2]
  show SaysR _ (if q.group / 2 ^ d % 2 = 1 then _ else _)
  by_cases hg : q.group / 2 ^ d % 2 = 1
  ·rw [if_pos hg]
   dsimp only
   rw [if_pos ⟨rfl, hg⟩]
   exact ⟨rfl, rfl, fun h => absurd (show (9 : Nat) = 0 from h) (by decide)⟩
  ·rw [if_neg hg]
   dsimp only
   rw [if_neg (fun k => hg k.2), if_pos rfl]
   rfl
 ·show SaysR _ (nameS dims L i >>= _)
  rw [h1, h2]
  dsimp only
  rw [if_neg (fun k => he k.1), if_neg he]
  exact ⟨rfl, rfl, he⟩
/-- the numbers of a condition -/
def codesR (L : List Tok) : Nat → PState → List Int → PState × List Int
 | 0, p, l => (failR p 6, l)
 | f + 1, p, l => if p.err ≠ 0 then (p, l) else if isR L (numTR L p).1 [44] then codesR L f (onR (numTR L p).1) (l ++ [(numTR L p).2]) else ((numTR L p).1, l ++ [(numTR L p).2])
theorem codes_stuck {L : List Tok} {p : PState} (h : p.err ≠ 0) : ∀ (f : Nat) (l : List Int), codesR L f p l = (p, l)
 | 0, l => by unfold codesR; rw [fail_stuck h]
 | f + 1, l => by unfold codesR; rw [if_pos h]
theorem codes_says (L : List Tok) (q : QP) : ∀ (f i : Nat) (l : List Int), (∃ j l', numsS L f i l = .ok (j, l') ∧ codesR L f ⟨i, q, 0⟩ l = (⟨j, q, 0⟩, l')) ∨ (∃ j l', numsS L f i l = .error (j, 6) ∧ codesR L f ⟨i, q, 0⟩ l = (⟨j, q, 6⟩, l'))
 | 0, i, l => .inr ⟨i, l, rfl, rfl⟩
 | f + 1, i, l => by
  unfold codesR
  rw [if_neg (fun h => h rfl)]
  rcases num_says L i q with ⟨j, n, h1, h2⟩ | ⟨h1, h2⟩
  ·have e : numsS L (f + 1) i l = if wordAt L j [44] = true then numsS L f (j + 1) (l ++ [n]) else .ok (j, l ++ [n]) := by
    show (numT L i >>= _) = _
    rw [h1]; rfl
   rw [e, h2]
   dsimp only
   rw [is_ok]
   cases wordAt L j [44]
   ·exact .inl ⟨_, _, rfl, rfl⟩
   ·exact codes_says L q f (j + 1) (l ++ [n])
  ·have e : numsS L (f + 1) i l = .error (i, 6) := by
    show (numT L i >>= _) = _
    rw [h1]; rfl
   rw [e, h2]
   dsimp only
   rw [is_stuck (six' _ _)]
   exact .inr ⟨_, _, rfl, rfl⟩
/-- a condition -/
def condR (dims : List ByteArray) (L : List Tok) (p : PState) : PState :=
 let x := placeR dims L p
 if isR L x.1 [61] then
  let y := numTR L (onR x.1)
  { y.1 with q := { y.1.q with flts := y.1.q.flts ++ [((x.2 : Int), [y.2])] } }
 else
  let y := wantR L (wantR L x.1 [105, 110]) [40]
  let z := if isR L y [41] then (y, []) else codesR L L.length y []
  let v := wantR L z.1 [41]
  { v with q := { v.q with flts := v.q.flts ++ [((x.2 : Int), z.2)] } }
theorem cond_says (dims : List ByteArray) (L : List Tok) (i : Nat) (q : QP) : SaysR (condR dims L ⟨i, q, 0⟩) (condS dims L i q) := by
 unfold condR condS
 rcases place_says dims L i q with ⟨j, d, h1, h2⟩ | ⟨e, he, h1, h2⟩
 ·show SaysR _ (nameS dims L i >>= _)
  rw [h1, h2]
  dsimp only
  rw [is_ok]
  show SaysR _ (if wordAt L j [61] = true then _ else _)
  cases wordAt L j [61]
  ·show SaysR _ (wantS L j [105, 110] >>= _)
   rcases want_says L j q [105, 110] with ⟨j2, h3, h4⟩ | ⟨h3, h4⟩
   ·rw [h3]
    show SaysR _ (wantS L j2 [40] >>= _)
    simp only [h4, Bool.false_eq_true, if_false]
    rcases want_says L j2 q [40] with ⟨j3, h5, h6⟩ | ⟨h5, h6⟩
    ·rw [h5]
     simp only [h6, is_ok]
     show SaysR _ (if wordAt L j3 [41] = true then _ else _)
     cases hw : wordAt L j3 [41]
     ·simp only [Bool.false_eq_true, if_false]
      show SaysR _ (numsS L L.length j3 [] >>= _)
      rcases codes_says L q L.length j3 [] with ⟨j4, l, h7, h8⟩ | ⟨j4, l, h7, h8⟩
      ·rw [h7]
       show SaysR _ (wantS L j4 [41] >>= _)
       simp only [h8]
       rcases want_says L j4 q [41] with ⟨j5, h9, h10⟩ | ⟨h9, h10⟩
       ·rw [h9]; simp only [h10]; rfl
       ·rw [h9]; simp only [h10]; exact ⟨rfl, rfl, six _⟩
      ·rw [h7]
       simp only [h8, want_stuck (six' _ _)]
       exact ⟨rfl, rfl, six _⟩
     ·simp only [if_true]
      have e : wantR L ⟨j3, q, 0⟩ [41] = ⟨j3 + 1, q, 0⟩ := by unfold wantR; rw [is_ok, hw]; rfl
      rw [e]; rfl
    ·rw [h5]
     simp only [h6, is_stuck (six' _ _), codes_stuck (six' _ _), want_stuck (six' _ _), Bool.false_eq_true, if_false]
     exact ⟨rfl, rfl, six _⟩
   ·rw [h3]
    simp only [h4, is_stuck (six' _ _), codes_stuck (six' _ _), want_stuck (six' _ _), Bool.false_eq_true, if_false]
    exact ⟨rfl, rfl, six _⟩
  ·show SaysR _ (numT L (j + 1) >>= _)
   simp only [if_true]
   rcases num_says L (j + 1) q with ⟨j2, n, h3, h4⟩ | ⟨h3, h4⟩
   ·rw [h3]; simp only [onR, h4]; rfl
   ·rw [h3]; simp only [onR, h4]; exact ⟨rfl, rfl, six _⟩
 ·show SaysR _ (nameS dims L i >>= _)
  rw [h1, h2]
  simp only [is_stuck (p := ⟨i, q, e⟩) he, want_stuck (p := ⟨i, q, e⟩) he, codes_stuck (p := ⟨i, q, e⟩) he, Bool.false_eq_true, if_false]
  exact ⟨rfl, rfl, he⟩
/-- a part's things -/
def partR (one : PState → PState) (L : List Tok) (b : List UInt8) : Nat → PState → PState
 | 0, p => failR p 6
 | f + 1, p => if isR L (one p) b then partR one L b f (onR (one p)) else one p
theorem part_stuck {one : PState → PState} (L : List Tok) (b : List UInt8) (ho : ∀ p : PState, p.err ≠ 0 → StuckR p (one p)) {p : PState} (h : p.err ≠ 0) : ∀ f, StuckR p (partR one L b f p)
 | 0 => by unfold partR; rw [fail_stuck h]; exact StuckR.refl p
 | f + 1 => by
  have h1 := ho p h
  have h2 : (one p).err ≠ 0 := by rw [h1.2]; exact h
  unfold partR
  rw [is_stuck h2, if_neg (by decide)]
  exact h1
theorem part_says {one : PState → PState} {oneS : Nat → QP → Except (Nat × Nat) (Nat × QP)} (L : List Tok) (b : List UInt8) (ho : ∀ i q, SaysR (one ⟨i, q, 0⟩) (oneS i q)) : ∀ f i q, SaysR (partR one L b f ⟨i, q, 0⟩) (listS oneS L b f i q)
 | 0, i, q => ⟨rfl, rfl, six _⟩
 | f + 1, i, q => by
  have h := ho i q
  show SaysR _ (oneS i q >>= fun x => if wordAt L x.1 b = true then listS oneS L b f (x.1 + 1) x.2 else pure (x.1, x.2))
  unfold partR
  rcases hx : oneS i q with e | x
  ·rw [hx] at h
   obtain ⟨h1, h2, h3⟩ := h
   have h4 : (one ⟨i, q, 0⟩).err ≠ 0 := by rw [h2]; exact h3
   rw [is_stuck h4, if_neg (by decide)]
   exact ⟨h1, h2, h3⟩
  ·rw [hx] at h
   have h : one ⟨i, q, 0⟩ = ⟨x.1, x.2, 0⟩ := h
   rw [h, is_ok]
   show SaysR _ (if wordAt L x.1 b = true then listS oneS L b f (x.1 + 1) x.2 else pure (x.1, x.2))
   cases wordAt L x.1 b
   ·rfl
   ·exact part_says L b ho f (x.1 + 1) x.2
theorem says_bind {p : PState} {r : Except (Nat × Nat) (Nat × QP)} {g : PState → PState} {k : Nat × QP → Except (Nat × Nat) (Nat × QP)} (h : SaysR p r) (hs : ∀ p : PState, p.err ≠ 0 → StuckR p (g p)) (ho : ∀ i q, SaysR (g ⟨i, q, 0⟩) (k (i, q))) : SaysR (g p) (r >>= k) := by
 rcases r with e | x
 ·obtain ⟨h1, h2, h3⟩ := h
  have h4 : p.err ≠ 0 := by rw [h2]; exact h3
  obtain ⟨h5, h6⟩ := hs p h4
  exact ⟨h5.trans h1, h6.trans h2, h3⟩
 ·have h : p = ⟨x.1, x.2, 0⟩ := h
  rw [h]
  exact ho x.1 x.2
/-- a part that may be missing -/
def stepR (one : PState → PState) (L : List Tok) (hd b : List UInt8) (p : PState) : PState := if isR L p hd then partR one L b L.length (onR p) else p
theorem step_stuck {one : PState → PState} (L : List Tok) (hd b : List UInt8) (p : PState) (h : p.err ≠ 0) : StuckR p (stepR one L hd b p) := by
 unfold stepR; rw [is_stuck h, if_neg (by decide)]; exact StuckR.refl p
theorem step_says {one : PState → PState} {oneS : Nat → QP → Except (Nat × Nat) (Nat × QP)} (L : List Tok) (hd b : List UInt8) (ho : ∀ i q, SaysR (one ⟨i, q, 0⟩) (oneS i q)) (i : Nat) (q : QP) : SaysR (stepR one L hd b ⟨i, q, 0⟩) (partS oneS L hd b (i, q)) := by
 unfold stepR partS
 rw [is_ok]
 dsimp only
 cases wordAt L i hd
 ·rfl
 ·exact part_says L b ho L.length (i + 1) q
def limR (L : List Tok) (p : PState) : PState := if isR L p [108, 105, 109, 105, 116] then { (numTR L (onR p)).1 with q := { (numTR L (onR p)).1.q with limit := (numTR L (onR p)).2 } } else p
theorem lim_stuck (L : List Tok) (p : PState) (h : p.err ≠ 0) : StuckR p (limR L p) := by
 unfold limR; rw [is_stuck h, if_neg (by decide)]; exact StuckR.refl p
theorem lim_says (L : List Tok) (i : Nat) (q : QP) : SaysR (limR L ⟨i, q, 0⟩) (limS L (i, q)) := by
 unfold limR limS
 rw [is_ok]
 dsimp only [onR]
 cases wordAt L i [108, 105, 109, 105, 116]
 ·rfl
 ·simp only [if_true]
  rcases num_says L (i + 1) q with ⟨j, n, h1, h2⟩ | ⟨h1, h2⟩
  ·rw [h1, h2]; rfl
  ·rw [h1, h2]; exact ⟨rfl, rfl, six _⟩
def endR (L : List Tok) (p : PState) : PState := if p.err = 0 ∧ (tokAt L p.at').k ≠ 0 then failR p 6 else p
theorem end_stuck (L : List Tok) (p : PState) (h : p.err ≠ 0) : StuckR p (endR L p) := by
 unfold endR; rw [if_neg (fun k => h k.1)]; exact StuckR.refl p
theorem end_says (L : List Tok) (i : Nat) (q : QP) : SaysR (endR L ⟨i, q, 0⟩) (endS L (i, q)) := by
 unfold endR endS
 dsimp only
 by_cases h : (tokAt L i).k = 0
 ·rw [if_pos h, if_neg (fun k => k.2 h)]; rfl
 ·rw [if_neg h, if_pos ⟨rfl, h⟩]; exact ⟨rfl, rfl, six _⟩
/-- the whole reading -/
def queryR (dims meas : List ByteArray) (L : List Tok) : PState :=
 endR L (limR L (stepR (ordR L) L [111, 114, 100, 101, 114] [44] (stepR (condR dims L) L [119, 104, 101, 114, 101] [97, 110, 100] (stepR (groupR dims L) L [98, 121] [44] (partR (colR meas L) L [44] L.length (wantR L ⟨0, QP.nul, 0⟩ [115, 101, 108, 101, 99, 116]))))))
theorem query_says (dims meas : List ByteArray) (L : List Tok) : SaysR (queryR dims meas L) (queryS dims meas L) := by
 have e : queryS dims meas L = ((((((wantS L 0 [115, 101, 108, 101, 99, 116] >>= fun i => (pure (i, QP.nul) : Except (Nat × Nat) (Nat × QP))) >>= fun x => listS (colS meas L) L [44] L.length x.1 x.2) >>= partS (groupS dims L) L [98, 121] [44]) >>= partS (condS dims L) L [119, 104, 101, 114, 101] [97, 110, 100]) >>= partS (ordS L) L [111, 114, 100, 101, 114] [44]) >>= limS L) >>= endS L := by
  unfold queryS
  simp only [bind_assoc, pure_bind]
 rw [e]
 unfold queryR
 refine says_bind (says_bind (says_bind (says_bind (says_bind (says_bind ?_ (fun p h => part_stuck L _ (fun p h => col_stuck h) h _) (fun i q => part_says L _ (col_says meas L) _ i q)) (step_stuck L _ _) (step_says L _ _ (group_says dims L))) (step_stuck L _ _) (step_says L _ _ (cond_says dims L))) (step_stuck L _ _) (step_says L _ _ (ord_says L))) (lim_stuck L) (lim_says L)) (end_stuck L) (end_says L)
 rcases want_says L 0 QP.nul [115, 101, 108, 101, 99, 116] with ⟨j, h1, h2⟩ | ⟨h1, h2⟩
 ·rw [h1, h2]; rfl
 ·rw [h1, h2]; exact ⟨rfl, rfl, six _⟩
end Go.Proofs.YtaofjnidniekjaaGreatDoor
/- The reference's reading (package bushelref36): its state, and next, is, on, fail, want. Conditions: those stated. -/
namespace Go.Proofs.YtaofjnidniekjaaGreatDoor
open Go.RowKit

end Go.Proofs.YtaofjnidniekjaaGreatDoor
/- The reference's reading (package bushelref36): on, fail, want. Conditions: those stated. -/
namespace Go.Proofs.YtaofjnidniekjaaGreatDoor
open Go.RowKit

end Go.Proofs.YtaofjnidniekjaaGreatDoor
/- The reference's reading (package bushelref36): number. Conditions: those stated. -/
namespace Go.Proofs.YtaofjnidniekjaaGreatDoor
open Go.RowKit

end Go.Proofs.YtaofjnidniekjaaGreatDoor
/- The reference's reading (package bushelref36): place. Conditions: those stated. -/
namespace Go.Proofs.YtaofjnidniekjaaGreatDoor
open Go.RowKit

end Go.Proofs.YtaofjnidniekjaaGreatDoor
/- The reference's reading (package bushelref36): dim. Conditions: those stated. -/
namespace Go.Proofs.YtaofjnidniekjaaGreatDoor
open Go.RowKit

end Go.Proofs.YtaofjnidniekjaaGreatDoor
