/- Which sum bytes are, by definition (plain). No conditions. -/
import Derived.Test.YtehmompbmnejkaaGreatMExr
namespace Go.Proofs.YtehmompbmnejkaaGreat
open Go.RowKit Ieee

/-- byte number i -/
def btN (bs : List Int) (i : Nat) : Nat := (bs.getD i 0).toNat
/-- what the first k bytes of word i come to -/
def wdK (bs : List Int) (i : Nat) : Nat → Nat
 | 0 => 0
 | k + 1 => wdK bs i k * 256 + btN bs (3 + 4 * i + k)
def wdN (bs : List Int) (i : Nat) : Nat := wdK bs i 4
def badF (f : Nat) : Bool := decide (63 < f) || (decide (f / 32 = 1) && decide (f / 16 % 2 = 0))
def badL (f l : Nat) : Bool := decide (69 < l) || (decide (0 < l) && decide (f / 16 % 2 = 0))
def badM (f l m : Nat) : Bool := decide (70 < l + m) || (decide (0 < m) && decide (f / 16 % 2 = 0)) || (decide (m = 0) && (decide (0 < l) || decide (f / 32 = 1)))
def hdrN (bs : List Int) : Nat :=
 if bs.length = 0 then 5 else if badF (btN bs 0) = true then 6 else if bs.length = 1 then 5 else if badL (btN bs 0) (btN bs 1) = true then 6 else if bs.length = 2 then 5
 else if badM (btN bs 0) (btN bs 1) (btN bs 2) = true then 6 else 0
/-- from word i on, g words being left of m -/
def bodyN (bs : List Int) (m : Nat) : Nat → Nat → Nat
 | 0, _ => if 3 + 4 * m < bs.length then 7 else 0
 | g + 1, i => if bs.length < 3 + 4 * i + 4 then 5 else if (i = 0 ∨ i + 1 = m) ∧ wdN bs i = 0 then 6 else bodyN bs m g (i + 1)
/-- the error -/
def codeN (bs : List Int) : Nat := if hdrN bs = 0 then bodyN bs (btN bs 2) (btN bs 2) 0 else hdrN bs
/-- the words, of which i have been read -/
def magN (bs : List Int) (l m i : Nat) : List Int := (List.range (l + m)).map fun j => if l + m ≤ j + i then (wdN bs (l + m - 1 - j) : Int) else 0
def zOf (bs : List Int) : Int :=
 if btN bs 0 / 32 = 1 then -V 4294967296 (magN bs (btN bs 1) (btN bs 2) (btN bs 2)) else V 4294967296 (magN bs (btN bs 1) (btN bs 2) (btN bs 2))
def bOf (bs : List Int) : Nat := btN bs 0 % 32
def Byt (bs : List Int) : Prop := ∀ x ∈ bs, 0 ≤ x ∧ x < 256

theorem Byt.lt {bs : List Int} (h : Byt bs) (i : Nat) : btN bs i < 256 ∧ bs.getD i 0 = (btN bs i : Int) := by
 unfold btN
 by_cases hi : i < bs.length
 ·have := h _ (getD_mem (xs := bs) (i := i) hi)
  omega
 ·have e : bs.getD i 0 = 0 := by rw [List.getD_eq_getElem?_getD, List.getElem?_eq_none (by omega)]; rfl
  rw [e]; decide
theorem wdK_lt {bs : List Int} (h : Byt bs) (i : Nat) : ∀ k, wdK bs i k < 256 ^ k
 | 0 => by show 0 < _; decide
 | k + 1 => by
  have h1 := wdK_lt h i k
  have h2 := (h.lt (3 + 4 * i + k)).1
  show wdK bs i k * 256 + btN bs (3 + 4 * i + k) < _
  rw [Nat.pow_succ]
  omega
theorem wdN_lt {bs : List Int} (h : Byt bs) (i : Nat) : wdN bs i < 4294967296 := wdK_lt h i 4
theorem magN_len (bs : List Int) (l m i : Nat) : (magN bs l m i).length = l + m := by simp [magN]
theorem magN_get {bs : List Int} {l m i j : Nat} (h : j < l + m) : (magN bs l m i).getD j 0 = if l + m ≤ j + i then (wdN bs (l + m - 1 - j) : Int) else 0 := by
 unfold magN
 rw [List.getD_eq_getElem?_getD, List.getElem?_map, List.getElem?_range h]
 rfl
theorem magN_zero (bs : List Int) (l m : Nat) : magN bs l m 0 = List.replicate (l + m) 0 := by
 refine List.ext_getElem (by simp [magN]) fun j h1 h2 => ?_
 simp [magN] at h1 ⊢
 intro h; omega
theorem magN_set {bs : List Int} {l m i : Nat} (h : i < m) : (magN bs l m i).set (l + m - 1 - i) (wdN bs i : Int) = magN bs l m (i + 1) := by
 refine List.ext_getElem (by simp [magN]) fun j h1 h2 => ?_
 have hj : j < l + m := by simpa [magN] using h2
 rw [List.getElem_set]
 by_cases hji : l + m - 1 - i = j
 ·rw [if_pos hji]
  simp only [magN, List.getElem_map, List.getElem_range]
  rw [if_pos (by omega), show l + m - 1 - j = i from by omega]
 ·rw [if_neg hji]
  simp only [magN, List.getElem_map, List.getElem_range]
  by_cases h3 : l + m ≤ j + i
  ·rw [if_pos h3, if_pos (by omega)]
  ·rw [if_neg h3, if_neg (by omega)]
theorem magN_dig {bs : List Int} (h : Byt bs) (l m i : Nat) : Dig 4294967296 (magN bs l m i) := by
 intro x hx
 simp only [magN, List.mem_map, List.mem_range] at hx
 obtain ⟨j, hj, rfl⟩ := hx
 split
 ·have := wdN_lt h (l + m - 1 - j); omega
 ·decide
/-- all is well from word i on -/
theorem body_ok {bs : List Int} {m : Nat} : ∀ {g i : Nat}, g + i = m → bodyN bs m g i = 0 → (∀ j, i ≤ j → j < m → (j = 0 ∨ j + 1 = m) → wdN bs j ≠ 0) ∧ bs.length ≤ 3 + 4 * m ∧ (i < m → 3 + 4 * m ≤ bs.length)
 | 0, i, hg, h => by
  unfold bodyN at h
  by_cases h1 : 3 + 4 * m < bs.length
  ·rw [if_pos h1] at h; omega
  ·exact ⟨fun j h2 h3 => by omega, by omega, fun h2 => by omega⟩
 | g + 1, i, hg, h => by
  unfold bodyN at h
  by_cases h1 : bs.length < 3 + 4 * i + 4
  ·rw [if_pos h1] at h; omega
  ·rw [if_neg h1] at h
   by_cases h2 : (i = 0 ∨ i + 1 = m) ∧ wdN bs i = 0
   ·rw [if_pos h2] at h; omega
   ·rw [if_neg h2] at h
    obtain ⟨k1, k2, k3⟩ := body_ok (g := g) (i := i + 1) (by omega) h
    refine ⟨fun j h3 h4 h5 => ?_, k2, fun h3 => ?_⟩
    ·by_cases hji : j = i
     ·subst hji; exact fun h6 => h2 ⟨h5, h6⟩
     ·exact k1 j (by omega) h4 h5
    ·by_cases h4 : i + 1 < m
     ·exact k3 h4
     ·omega
theorem tail_bytes {bs : List Int} (hb : Byt bs) {l m : Nat} (hl : bs.length = 3 + 4 * m) : ∀ j, j ≤ m → tailB (magN bs l m m) j = (bs.drop 3).take (4 * j)
 | 0, _ => by rw [Nat.mul_zero, List.take_zero]; rfl
 | j + 1, hj => by
  show tailB (magN bs l m m) j ++ be4 ((magN bs l m m).getD ((magN bs l m m).length - 1 - j) 0) = _
  rw [tail_bytes hb hl j (by omega), magN_len, magN_get (by omega), if_pos (by omega), show l + m - 1 - (l + m - 1 - j) = j from by omega]
  have h0 := hb.lt (3 + 4 * j)
  have h1 := hb.lt (3 + 4 * j + 1)
  have h2 := hb.lt (3 + 4 * j + 2)
  have h3 := hb.lt (3 + 4 * j + 3)
  have hw : (wdN bs j : Int) = ((bs.getD (3 + 4 * j) 0 * 256 + bs.getD (3 + 4 * j + 1) 0) * 256 + bs.getD (3 + 4 * j + 2) 0) * 256 + bs.getD (3 + 4 * j + 3) 0 := by
   have : wdN bs j = ((btN bs (3 + 4 * j) * 256 + btN bs (3 + 4 * j + 1)) * 256 + btN bs (3 + 4 * j + 2)) * 256 + btN bs (3 + 4 * j + 3) := by
    show (((0 * 256 + btN bs (3 + 4 * j + 0)) * 256 + btN bs (3 + 4 * j + 1)) * 256 + btN bs (3 + 4 * j + 2)) * 256 + btN bs (3 + 4 * j + 3) = _
    rw [Nat.zero_mul, Nat.zero_add, Nat.add_zero]
   rw [this, h0.2, h1.2, h2.2, h3.2]
   omega
  have hbe : be4 (wdN bs j : Int) = [bs.getD (3 + 4 * j) 0, bs.getD (3 + 4 * j + 1) 0, bs.getD (3 + 4 * j + 2) 0, bs.getD (3 + 4 * j + 3) 0] := by
   unfold be4
   rw [hw]
   congr 1
   ·omega
   congr 1
   ·omega
   congr 1
   ·omega
   congr 1
   omega
  rw [hbe, show 4 * (j + 1) = 4 * j + 1 + 1 + 1 + 1 from by omega]
  have step : ∀ q, q < 4 * m → (bs.drop 3).take (q + 1) = (bs.drop 3).take q ++ [bs.getD (3 + q) 0] := fun q hq => by
   rw [List.take_succ_eq_append_getElem (by rw [List.length_drop]; omega), List.getElem_drop]
   simp [List.getD_eq_getElem?_getD, show 3 + q < bs.length from by omega]
  rw [step (4 * j + 1 + 1 + 1) (by omega), step (4 * j + 1 + 1) (by omega), step (4 * j + 1) (by omega), step (4 * j) (by omega)]
  simp [Nat.add_assoc]
theorem hdr_ok {bs : List Int} (h : hdrN bs = 0) : 3 ≤ bs.length ∧ badF (btN bs 0) = false ∧ badL (btN bs 0) (btN bs 1) = false ∧ badM (btN bs 0) (btN bs 1) (btN bs 2) = false := by
 unfold hdrN at h
 by_cases h0 : bs.length = 0
 ·rw [if_pos h0] at h; omega
 rw [if_neg h0] at h
 by_cases h1 : badF (btN bs 0) = true
 ·rw [if_pos h1] at h; omega
 rw [if_neg h1] at h
 by_cases h2 : bs.length = 1
 ·rw [if_pos h2] at h; omega
 rw [if_neg h2] at h
 by_cases h3 : badL (btN bs 0) (btN bs 1) = true
 ·rw [if_pos h3] at h; omega
 rw [if_neg h3] at h
 by_cases h4 : bs.length = 2
 ·rw [if_pos h4] at h; omega
 rw [if_neg h4] at h
 by_cases h5 : badM (btN bs 0) (btN bs 1) (btN bs 2) = true
 ·rw [if_pos h5] at h; omega
 refine ⟨by omega, ?_, ?_, ?_⟩ <;> simp_all
/-- what the header of good bytes says -/
theorem hdr_says {f l m : Nat} (hf : badF f = false) (hl : badL f l = false) (hm : badM f l m = false) : f ≤ 63 ∧ l + m ≤ 70 ∧ (f / 32 = 1 → 0 < m ∧ 16 ≤ f % 32) ∧ (m = 0 → l = 0) ∧ (0 < m → 16 ≤ f % 32) := by
 unfold badF at hf
 unfold badL at hl
 unfold badM at hm
 simp only [Bool.or_eq_false_iff, Bool.and_eq_false_iff, decide_eq_false_iff_not] at hf hl hm
 omega
theorem codeN_ok {bs : List Int} (h : codeN bs = 0) : hdrN bs = 0 ∧ bodyN bs (btN bs 2) (btN bs 2) 0 = 0 := by
 unfold codeN at h
 by_cases h1 : hdrN bs = 0
 ·rw [if_pos h1] at h; exact ⟨h1, h⟩
 ·rw [if_neg h1] at h; exact absurd h h1
/-- good bytes are a sum's bytes -/
theorem read_ok {bs : List Int} (hb : Byt bs) (h : codeN bs = 0) : IsBytes (bOf bs) (zOf bs) bs ∧ bOf bs < 32 ∧ (zOf bs).natAbs < ROOM ∧ Plus (bOf bs) (zOf bs) ∧
  Trimmed (magN bs (btN bs 1) (btN bs 2) (btN bs 2)) ∧ V 4294967296 (magN bs (btN bs 1) (btN bs 2) (btN bs 2)) = (((zOf bs).natAbs : Nat) : Int) ∧ decide (btN bs 0 / 32 = 1) = decide (zOf bs < 0) := by
 obtain ⟨h1, h2⟩ := codeN_ok h
 obtain ⟨hl, hf, hL, hM⟩ := hdr_ok h1
 obtain ⟨q1, q2, q3, q4, q5⟩ := hdr_says hf hL hM
 have h0 := hb.lt 0
 have h01 := hb.lt 1
 have h02 := hb.lt 2
 obtain ⟨f, hf0⟩ : ∃ f, btN bs 0 = f := ⟨_, rfl⟩
 obtain ⟨l, hl0⟩ : ∃ l, btN bs 1 = l := ⟨_, rfl⟩
 obtain ⟨m, hm0⟩ : ∃ m, btN bs 2 = m := ⟨_, rfl⟩
 have hzd : zOf bs = if f / 32 = 1 then -V 4294967296 (magN bs l m m) else V 4294967296 (magN bs l m m) := by unfold zOf; rw [hf0, hl0, hm0]
 have hbd : bOf bs = f % 32 := by unfold bOf; rw [hf0]
 rw [hf0] at h0 q1 q3 q5
 rw [hl0] at h01 q2 q4
 rw [hm0] at h02 q2 q3 q4 q5 h2
 rw [hl0, hm0]
 obtain ⟨w1, w2, w3⟩ := body_ok (by omega) h2
 have hlen : bs.length = 3 + 4 * m := by
  rcases Nat.eq_zero_or_pos m with h | h
  ·omega
  ·have := w3 h; omega
 have hdig := magN_dig hb l m m
 have hlm := magN_len bs l m m
 have htr : Trimmed (magN bs l m m) := by
  rcases Nat.eq_zero_or_pos m with h | h
  ·left
   exact List.eq_nil_of_length_eq_zero (by rw [hlm]; have := q4 h; omega)
  ·right
   rw [hlm, magN_get (by omega), if_pos (by omega), show l + m - 1 - (l + m - 1) = 0 from by omega]
   have := w1 0 (by omega) h (.inl rfl)
   omega
 have hV0 := (V_bd (B := 4294967296) (by decide) hdig)
 have hpos : 0 < m → 0 < V 4294967296 (magN bs l m m) := fun hm => by
  have hne : magN bs l m m ≠ [] := fun e => by rw [e] at hlm; simp at hlm; omega
  have := V_ge (B := 4294967296) (by decide) hdig htr hne
  have h2 : (0 : Int) < 4294967296 ^ ((magN bs l m m).length - 1) := Int.pow_pos (by decide)
  omega
 have hnz : m = 0 → V 4294967296 (magN bs l m m) = 0 := fun hm => by
  have : magN bs l m m = [] := List.eq_nil_of_length_eq_zero (by rw [hlm]; have := q4 hm; omega)
  rw [this]; rfl
 have hab : V 4294967296 (magN bs l m m) = (((zOf bs).natAbs : Nat) : Int) := by rw [hzd]; split <;> omega
 have hsg : decide (f / 32 = 1) = decide (zOf bs < 0) := by
  rw [hzd]
  by_cases h : f / 32 = 1
  ·rw [if_pos h, decide_eq_true h]
   have := hpos (q3 h).1
   exact (decide_eq_true (by omega)).symm
  ·rw [if_neg h, decide_eq_false h]
   exact (decide_eq_false (by omega)).symm
 have hroom : (zOf bs).natAbs < ROOM := by
  obtain ⟨k, hk, hr⟩ := room_words
  have h3 := hV0.2
  rw [hlm, hab] at h3
  rw [hr]
  have h4 : (4294967296 : Nat) ^ (l + m) ≤ 4294967296 ^ k := Nat.pow_le_pow_right (by decide) (by omega)
  have h6 : ((4294967296 ^ (l + m) : Nat) : Int) = 4294967296 ^ (l + m) := by rw [Int.natCast_pow]; rfl
  have h5 : ((4294967296 ^ k : Nat) : Int) = 4294967296 ^ k := by rw [Int.natCast_pow]; rfl
  omega
 refine ⟨⟨magN bs l m m, l, hdig, htr, hab, ⟨by omega, fun j hj => ?_, fun hj => ?_⟩, ?_⟩, by omega, hroom, fun hz => ?_, htr, hab, by rw [hf0]; exact hsg⟩
 ·rw [magN_get (by omega), if_neg (by omega)]
 ·rw [magN_get (by omega), if_pos (by omega), show l + m - 1 - l = m - 1 from by omega]
  have := w1 (m - 1) (by omega) (by omega) (.inr (by omega))
  omega
 ·rw [hlm, show l + m - l = m from by omega, tail_bytes hb hlen m (Nat.le_refl _), List.take_of_length_le (by rw [List.length_drop]; omega)]
  have e1 : bs = bs.take 3 ++ bs.drop 3 := (List.take_append_drop 3 bs).symm
  have e2 : bs.take 3 = [bs.getD 0 0, bs.getD 1 0, bs.getD 2 0] := by
   have step : ∀ q, q < bs.length → bs.take (q + 1) = bs.take q ++ [bs.getD q 0] := fun q hq => by
    rw [List.take_succ_eq_append_getElem hq]
    simp [List.getD_eq_getElem?_getD, hq]
   rw [show 3 = 0 + 1 + 1 + 1 from rfl, step (0 + 1 + 1) (by omega), step (0 + 1) (by omega), step 0 (by omega)]
   simp
  have e3 : bOf bs + (if zOf bs < 0 then 32 else 0) = f := by
   rw [hbd]
   have := decide_eq_decide.1 hsg
   by_cases h : f / 32 = 1
   ·rw [if_pos (this.1 h)]; omega
   ·rw [if_neg (fun h3 => h (this.2 h3))]; omega
  rw [e3, ← h0.2, ← h01.2, ← h02.2, ← e2]
  exact e1
 ·rw [hbd]
  refine q5 ?_
  rcases Nat.eq_zero_or_pos m with h | h
  ·have := hnz h
   omega
  ·exact h
end Go.Proofs.YtehmompbmnejkaaGreat
/- Contract of package exact's head. No conditions. -/
namespace Go.Proofs.YtehmompbmnejkaaGreat
open Go.RowKit Ieee

def headN (bs : List Int) : Nat := if (decide (0 < bs.length) && badF (btN bs 0)) = true then 6 else if (decide (1 < bs.length) && badL (btN bs 0) (btN bs 1)) = true then 6 else if (decide (2 < bs.length) && badM (btN bs 0) (btN bs 1) (btN bs 2)) = true then 6 else 0
theorem hdr_head (bs : List Int) : hdrN bs = if headN bs = 0 then (if bs.length < 3 then 5 else 0) else 6 := by
 unfold hdrN headN
 have h : bs.length = 0 ∨ bs.length = 1 ∨ bs.length = 2 ∨ 3 ≤ bs.length := by omega
 rcases h with h | h | h | h
 ·simp [h]
 ·by_cases h1 : badF (btN bs 0) = true
  ·simp [h, h1]
  ·simp [h, h1]
 ·by_cases h1 : badF (btN bs 0) = true
  ·simp [h, h1]
  ·by_cases h2 : badL (btN bs 0) (btN bs 1) = true
   ·simp [h, h1, h2]
   ·simp [h, h1, h2]
 ·have e0 : ¬ bs.length = 0 := by omega
  have e1 : ¬ bs.length = 1 := by omega
  have e2 : ¬ bs.length = 2 := by omega
  have e3 : ¬ bs.length < 3 := by omega
  rw [if_neg e0, if_neg e1, if_neg e2, if_neg e3]
  simp only [show decide (0 < bs.length) = true from decide_eq_true (by omega), show decide (1 < bs.length) = true from decide_eq_true (by omega), show decide (2 < bs.length) = true from decide_eq_true (by omega), Bool.true_and]
  by_cases h1 : badF (btN bs 0) = true
  ·simp [h1]
  ·by_cases h2 : badL (btN bs 0) (btN bs 1) = true
   ·simp [h1, h2]
   ·by_cases h3 : badM (btN bs 0) (btN bs 1) (btN bs 2) = true
    ·simp [h1, h2, h3]
    ·simp [h1, h2, h3]
theorem RowK.at {k : IntKind} {w : World} {a : Option Addr} {n c : Nat} {xs : List Int} (h : RowK k w a n c xs) {i : Nat} (hi : i < n) : ∃ b off, a = some ⟨b, off, .none⟩ ∧ b < w.heap.size ∧ ∀ j, j < n → w.cell? ⟨b, off + j, .none⟩ = some (.int k (xs.getD j 0)) := by
 obtain ⟨h1, h2, h3, h4⟩ := h
 rcases h4 with h4 | h4
 ·omega
 ·exact h4
theorem and_32_16 : ∀ b, b < 256 → b &&& 32 = 32 * (b / 32 % 2) ∧ b &&& 16 = 16 * (b / 16 % 2) := by decide +kernel

set_option maxRecDepth 100000 in
set_option maxHeartbeats 4000000 in
theorem head_any (w : World) (a : Option Addr) (n c : Nat) (bs : List Int) (hr : RowK .u8 w a n c bs) (hb : Byt bs) :
  Calls Tryz.prog 69 #[.slice a n c] w fun e w' => e = .returned (.int .i64 ((headN bs : Nat) : Int)) ∧ Below w.heap.size w w' := by
 have hlen : bs.length = n := hr.1
 have hn : n ≤ 9223372036854775807 := by have := hr.2.1; have := hr.2.2.1; unfold maxLen at this; omega
 have h0 := hb.lt 0
 have h1 := hb.lt 1
 have h2 := hb.lt 2
 obtain ⟨F, hF⟩ : ∃ F, bs.getD 0 0 = F := ⟨_, rfl⟩
 obtain ⟨L, hL⟩ : ∃ L, bs.getD 1 0 = L := ⟨_, rfl⟩
 obtain ⟨M, hM⟩ : ∃ M, bs.getD 2 0 = M := ⟨_, rfl⟩
 obtain ⟨f, hf⟩ : ∃ f, btN bs 0 = f := ⟨_, rfl⟩
 obtain ⟨l, hl⟩ : ∃ l, btN bs 1 = l := ⟨_, rfl⟩
 obtain ⟨m, hm⟩ : ∃ m, btN bs 2 = m := ⟨_, rfl⟩
 rw [hF, hf] at h0
 rw [hL, hl] at h1
 rw [hM, hm] at h2
 have F0 : 0 ≤ F := by omega
 have F1 : F < 256 := by omega
 have L0 : 0 ≤ L := by omega
 have L1 : L < 256 := by omega
 have M0 : 0 ≤ M := by omega
 have M1 : M < 256 := by omega
 obtain ⟨A, hA⟩ : ∃ A, bits .and .u8 F 32 = A := ⟨_, rfl⟩
 obtain ⟨B, hB⟩ : ∃ B, bits .and .u8 F 16 = B := ⟨_, rfl⟩
 obtain ⟨a1, a2⟩ := and_32_16 f h0.1
 have hAe : A = ((32 * (f / 32 % 2) : Nat) : Int) := by rw [← hA, h0.2, ← a1]; exact bits_and_u8 (b := 32) h0.1 (by omega)
 have hBe : B = ((16 * (f / 16 % 2) : Nat) : Int) := by rw [← hB, h0.2, ← a2]; exact bits_and_u8 (b := 16) h0.1 (by omega)
 obtain ⟨P, hP⟩ : ∃ P, (A != 0) = P := ⟨_, rfl⟩
 obtain ⟨Q, hQ⟩ : ∃ Q, (B == 0) = Q := ⟨_, rfl⟩
 have hPe : P = decide (f / 32 % 2 = 1) := by
  rw [← hP, Bool.eq_iff_iff]
  simp only [bne_iff_ne, ne_eq, decide_eq_true_eq]
  omega
 have hQe : Q = decide (f / 16 % 2 = 0) := by
  rw [← hQ, Bool.eq_iff_iff]
  simp only [beq_iff_eq, decide_eq_true_eq]
  omega
 obtain ⟨D, hD⟩ : ∃ D, decide (63 < F) = D := ⟨_, rfl⟩
 have hBF : badF f = (D || (P && Q)) := by
  unfold badF
  rw [hPe, hQe, ← hD, show decide (63 < F) = decide (63 < f) from by rw [Bool.eq_iff_iff]; simp only [decide_eq_true_eq]; omega]
  by_cases h : 63 < f
  ·rw [decide_eq_true h, Bool.true_or, Bool.true_or]
  ·rw [decide_eq_false h, Bool.false_or, Bool.false_or, show decide (f / 32 = 1) = decide (f / 32 % 2 = 1) from by rw [Bool.eq_iff_iff]; simp only [decide_eq_true_eq]; omega]
 obtain ⟨D2, hD2⟩ : ∃ D, decide (69 < L) = D := ⟨_, rfl⟩
 obtain ⟨G, hG⟩ : ∃ G, decide (0 < L) = G := ⟨_, rfl⟩
 have hGe : decide (0 < l) = G := by rw [← hG, Bool.eq_iff_iff]; simp only [decide_eq_true_eq]; omega
 have hBL : badL f l = (D2 || (G && Q)) := by
  unfold badL
  rw [hQe, hGe, ← hD2, show decide (69 < L) = decide (69 < l) from by rw [Bool.eq_iff_iff]; simp only [decide_eq_true_eq]; omega]
 obtain ⟨D3, hD3⟩ : ∃ D, decide (70 < L + M) = D := ⟨_, rfl⟩
 obtain ⟨R, hR⟩ : ∃ G, decide (0 < M) = G := ⟨_, rfl⟩
 have hR2 : (M == 0) = !R := by rw [← hR, Bool.eq_iff_iff]; simp only [beq_iff_eq, Bool.not_eq_true', decide_eq_false_iff_not]; omega
 have hBM : D = false → badM f l m = ((D3 || (R && Q)) || (!R && (G || P))) := fun hD0 => by
  have hf63 : ¬ 63 < f := by rw [hD0] at hD; have := of_decide_eq_false hD; omega
  unfold badM
  rw [hQe, hGe, hPe, ← hD3, ← hR, show decide (70 < L + M) = decide (70 < l + m) from by rw [Bool.eq_iff_iff]; simp only [decide_eq_true_eq]; omega, show decide (0 < M) = decide (0 < m) from by rw [Bool.eq_iff_iff]; simp only [decide_eq_true_eq]; omega,
   show decide (f / 32 = 1) = decide (f / 32 % 2 = 1) from by rw [Bool.eq_iff_iff]; simp only [decide_eq_true_eq]; omega, show (!decide (0 < m)) = decide (m = 0) from by rw [Bool.eq_iff_iff]; simp only [Bool.not_eq_true', decide_eq_false_iff_not, decide_eq_true_eq]; omega]
 have HBF := Lib.hid hBF
 have HBL := Lib.hid hBL
 have HBM := Lib.hid hBM
 have HEQ : Hid (headN bs = if (decide (0 < n) && badF f) = true then 6 else if (decide (1 < n) && badL f l) = true then 6 else if (decide (2 < n) && badM f l m) = true then 6 else 0) := Lib.hid (by unfold headN; rw [hlen, hf, hl, hm])
 have HR := Lib.hid hr
 have HF := Lib.hid hF
 have HL := Lib.hid hL
 have HM := Lib.hid hM
 clear hr hb hlen h0 h1 h2 hF hL hM hf hl hm a1 a2 hAe hBe hPe hQe hGe hBF hBL hBM
 go_enter Tryz.func69, Tryz.ntmps69
 go_upto_region 1 with fail
 go_cut [25] (fun v wx => v = .bool (decide (0 < n) && badF f) ∧ w = wx)
 case first =>
  by_cases hn0 : 0 < n
  ·obtain ⟨ba, oa, rfl, hba, hc⟩ := HR.out.at hn0
   have c0 := hc 0 hn0
   rw [Nat.add_zero, HF.out] at c0
   have hnd : decide (0 < n) = true := decide_eq_true hn0
   have HND := Lib.hid hnd
   clear hc
   cases D <;> cases P <;> cases Q
   all_goals
    go_wp2_with fail
    go_meet
    exact ⟨by rw [HBF.out, HND.out]; rfl, rfl⟩
  ·have hnd : decide (0 < n) = false := decide_eq_false hn0
   have HND := Lib.hid hnd
   go_wp2_with fail
   go_meet
   exact ⟨by rw [HND.out]; rfl, rfl⟩
 case rest =>
  obtain ⟨rfl, rfl⟩ := hcut
  rcases hq : (decide (0 < n) && badF f) with _ | _
  case true =>
   have HQ := Lib.hid hq
   clear hq
   go_wp2_with fail
   go_ret
   exact ⟨by rw [HEQ.out, HQ.out]; rfl, Below.refl _ _⟩
  case false =>
   have HQ1 := Lib.hid hq
   clear hq
   go_upto_region 3 with fail
   go_cut [47] (fun v wx => v = .bool (decide (1 < n) && badL f l) ∧ w = wx)
   case first =>
    by_cases hn0 : 1 < n
    ·obtain ⟨ba, oa, rfl, hba, hc⟩ := HR.out.at hn0
     have c0 := hc 0 (by omega)
     rw [Nat.add_zero, HF.out] at c0
     have c1 := hc 1 hn0
     rw [HL.out] at c1
     have hnz : 0 < n := by omega
     have hnd : decide (1 < n) = true := decide_eq_true hn0
     have HND := Lib.hid hnd
     clear hc
     cases D2 <;> cases G <;> cases Q
     all_goals
      go_wp2_with fail
      go_meet
      exact ⟨by rw [HBL.out, HND.out]; rfl, rfl⟩
    ·have hnd : decide (1 < n) = false := decide_eq_false hn0
     have HND := Lib.hid hnd
     go_wp2_with fail
     go_meet
     exact ⟨by rw [HND.out]; rfl, rfl⟩
   case rest =>
    obtain ⟨rfl, rfl⟩ := hcut
    rcases hq : (decide (1 < n) && badL f l) with _ | _
    case true =>
     have HQ := Lib.hid hq
     clear hq
     go_wp2_with fail
     go_ret
     exact ⟨by rw [HEQ.out, HQ1.out, HQ.out]; rfl, Below.refl _ _⟩
    case false =>
     have HQ2 := Lib.hid hq
     clear hq
     go_upto_region 5 with fail
     go_cut [94] (fun v wx => v = .bool (decide (2 < n) && badM f l m) ∧ w.drew = wx)
     case first =>
      by_cases hn0 : 2 < n
      ·obtain ⟨ba, oa, rfl, hba, hc⟩ := HR.out.at hn0
       have c0 := hc 0 (by omega)
       rw [Nat.add_zero, HF.out] at c0
       have c1 := hc 1 (by omega)
       rw [HL.out] at c1
       have c2 := hc 2 hn0
       rw [HM.out] at c2
       have hnz : 0 < n := by omega
       have hn1 : (1 : Int) < (n : Int) := by omega
       have hn2 : (2 : Int) < (n : Int) := by omega
       have hnd : decide (2 < n) = true := decide_eq_true hn0
       have hni : decide ((2 : Int) < (n : Int)) = true := decide_eq_true hn2
       have HND := Lib.hid hnd
       have hD0 : D = false := by
        have h := HQ1.out
        rw [HBF.out, decide_eq_true hnz] at h
        revert h; cases D <;> simp
       have HBE := Lib.hid (HBM.out hD0)
       have hwr : IntKind.i64.wrap (L + M) = L + M := IntWalk.i64_in _ (by omega)
       have hwL : IntKind.i64.wrap L = L := IntWalk.i64_in _ (by omega)
       have hwM : IntKind.i64.wrap M = M := IntWalk.i64_in _ (by omega)
       clear hc HBM
       have hcase : D3 = true ∨ (D3 = false ∧ R = true ∧ Q = true) ∨ (D3 = false ∧ R = true ∧ Q = false) ∨ (D3 = false ∧ R = false ∧ G = true) ∨ (D3 = false ∧ R = false ∧ G = false ∧ P = true) ∨ (D3 = false ∧ R = false ∧ G = false ∧ P = false) := by
        cases D3 <;> cases R <;> cases Q <;> cases G <;> cases P <;> simp
       rcases hcase with rfl | ⟨rfl, rfl, rfl⟩ | ⟨rfl, rfl, rfl⟩ | ⟨rfl, rfl, rfl⟩ | ⟨rfl, rfl, rfl, rfl⟩ | ⟨rfl, rfl, rfl, rfl⟩
       ·skip
        refine wp_regionN (fun w' => w'.cell? ⟨ba, oa, none⟩ = some (.int .u8 F) ∧ w'.cell? ⟨ba, oa + 1, none⟩ = some (.int .u8 L) ∧ w'.cell? ⟨ba, oa + 2, none⟩ = some (.int .u8 M)) [] (by kernel_rfl) (by exact ⟨c0, c1, c2⟩) (fun hHeld => ?_)
        refine wpAnyN_u 0 ⟨some 48, _, _, _, _, _⟩ _ rfl ?_
        try simp only [Act.put, putA, putB, putC]
        refine wpAnyN_u 1 ⟨some 49, _, _, _, _, _⟩ _ rfl ?_
        try simp only [Act.put, putA, putB, putC]
        refine wpAnyN_u 2 ⟨some 50, _, _, _, _, _⟩ _ rfl ?_
        try simp only [Act.put, putA, putB, putC]
        refine wpAnyN_u 3 ⟨some 51, _, _, _, _, _⟩ _ rfl ?_
        try simp only [Act.put, putA, putB, putC]
        refine wpAnyN_u 4 ⟨some 52, _, _, _, _, _⟩ _ rfl ?_
        try simp only [Act.put, putA, putB, putC]
        refine wpAnyN_u 5 ⟨some 53, _, _, _, _, _⟩ _ rfl ?_
        try simp only [Act.put, putA, putB, putC]
        refine wpAnyN_u 6 ⟨some 54, _, _, _, _, _⟩ _ rfl ?_
        try simp only [Act.put, putA, putB, putC]
        refine wpAnyN_u 7 ⟨some 55, _, _, _, _, _⟩ _ rfl ?_
        try simp only [Act.put, putA, putB, putC]
        refine wpAnyN_u 8 ⟨some 56, _, _, _, _, _⟩ _ rfl ?_
        try simp only [Act.put, putA, putB, putC]
        refine wpAnyN_u 9 ⟨some 57, _, _, _, _, _⟩ _ rfl ?_
        try simp only [Act.put, putA, putB, putC]
        refine wpAnyN_u 10 ⟨some 58, _, _, _, _, _⟩ _ rfl ?_
        try simp only [Act.put, putA, putB, putC]
        refine wpAnyN_u 11 ⟨some 59, _, _, _, _, _⟩ _ rfl ?_
        try simp only [Act.put, putA, putB, putC]
        refine wpAnyN_u 12 ⟨some 60, _, _, _, _, _⟩ _ rfl ?_
        try simp only [Act.put, putA, putB, putC]
        refine wpAnyN_u 13 ⟨some 61, _, _, _, _, _⟩ _ rfl ?_
        try simp only [Act.put, putA, putB, putC]
        refine wpAnyN_u 14 ⟨some 62, _, _, _, _, _⟩ _ rfl ?_
        try simp only [Act.put, putA, putB, putC]
        refine wpAnyN_s 15 ⟨some 63, _, _, _, _, _⟩ rfl ?_
        try simp only [Act.put, putA, putB, putC]
        refine wpAnyN_s 16 ⟨some 64, _, _, _, _, _⟩ rfl ?_
        try simp only [Act.put, putA, putB, putC]
        refine wpAnyN_s 17 ⟨some 65, _, _, _, _, _⟩ rfl ?_
        try simp only [Act.put, putA, putB, putC]
        refine wpAnyN_s 18 ⟨some 66, _, _, _, _, _⟩ rfl ?_
        try simp only [Act.put, putA, putB, putC]
        refine wpAnyN_s 19 ⟨some 67, _, _, _, _, _⟩ rfl ?_
        try simp only [Act.put, putA, putB, putC]
        refine wpAnyN_s 20 ⟨some 68, _, _, _, _, _⟩ rfl ?_
        try simp only [Act.put, putA, putB, putC]
        refine wpAnyN_s 21 ⟨some 69, _, _, _, _, _⟩ rfl ?_
        try simp only [Act.put, putA, putB, putC]
        refine wpAnyN_s 22 ⟨some 70, _, _, _, _, _⟩ rfl ?_
        try simp only [Act.put, putA, putB, putC]
        refine wpAnyN_s 23 ⟨some 71, _, _, _, _, _⟩ rfl ?_
        try simp only [Act.put, putA, putB, putC]
        refine wpAnyN_s 24 ⟨some 72, _, _, _, _, _⟩ rfl ?_
        try simp only [Act.put, putA, putB, putC]
        refine wpAnyN_s 25 ⟨some 73, _, _, _, _, _⟩ rfl ?_
        try simp only [Act.put, putA, putB, putC]
        refine wpAnyN_u 26 ⟨some 74, _, _, _, _, _⟩ _ rfl ?_
        try simp only [Act.put, putA, putB, putC]
        refine wpAnyN_u 27 ⟨some 75, _, _, _, _, _⟩ _ rfl ?_
        try simp only [Act.put, putA, putB, putC]
        refine wpAnyN_s 28 ⟨some 76, _, _, _, _, _⟩ rfl ?_
        try simp only [Act.put, putA, putB, putC]
        refine wpAnyN_s 29 ⟨some 77, _, _, _, _, _⟩ rfl ?_
        try simp only [Act.put, putA, putB, putC]
        refine wpAnyN_s 30 ⟨some 78, _, _, _, _, _⟩ rfl ?_
        try simp only [Act.put, putA, putB, putC]
        refine wpAnyN_s 31 ⟨some 79, _, _, _, _, _⟩ rfl ?_
        try simp only [Act.put, putA, putB, putC]
        refine wpAnyN_s 32 ⟨some 80, _, _, _, _, _⟩ rfl ?_
        try simp only [Act.put, putA, putB, putC]
        refine wpAnyN_s 33 ⟨some 81, _, _, _, _, _⟩ rfl ?_
        try simp only [Act.put, putA, putB, putC]
        refine wpAnyN_s 34 ⟨some 82, _, _, _, _, _⟩ rfl ?_
        try simp only [Act.put, putA, putB, putC]
        refine wpAnyN_s 35 ⟨some 83, _, _, _, _, _⟩ rfl ?_
        try simp only [Act.put, putA, putB, putC]
        refine wpAnyN_s 36 ⟨some 84, _, _, _, _, _⟩ rfl ?_
        try simp only [Act.put, putA, putB, putC]
        refine wpAnyN_s 37 ⟨some 85, _, _, _, _, _⟩ rfl ?_
        try simp only [Act.put, putA, putB, putC]
        refine wpAnyN_s 38 ⟨some 86, _, _, _, _, _⟩ rfl ?_
        try simp only [Act.put, putA, putB, putC]
        refine wpAnyN_s 39 ⟨some 87, _, _, _, _, _⟩ rfl ?_
        try simp only [Act.put, putA, putB, putC]
        refine wpAnyN_s 40 ⟨some 88, _, _, _, _, _⟩ rfl ?_
        try simp only [Act.put, putA, putB, putC]
        refine wpAnyN_s 41 ⟨some 89, _, _, _, _, _⟩ rfl ?_
        try simp only [Act.put, putA, putB, putC]
        refine wpAnyN_s 42 ⟨some 90, _, _, _, _, _⟩ rfl ?_
        try simp only [Act.put, putA, putB, putC]
        refine wpAnyN_s 43 ⟨some 91, _, _, _, _, _⟩ rfl ?_
        try simp only [Act.put, putA, putB, putC]
        refine wpAnyN_s 44 ⟨some 92, _, _, _, _, _⟩ rfl ?_
        try simp only [Act.put, putA, putB, putC]
        refine wpAnyN_u 45 ⟨some 93, _, _, _, _, _⟩ _ rfl ?_
        try simp only [Act.put, putA, putB, putC]
        refine wpAnyN_u 46 ⟨some 94, _, _, _, _, _⟩ _ rfl ?_
        try simp only [Act.put, putA, putB, putC]
        refine wpAnyN_end (by kernel_rfl) ?_
        go_wp2_with fail
        go_meet
        exact ⟨by rw [HBE.out, HND.out]; rfl, rfl⟩
       ·replace hR2 : (M == 0) = false := hR2
        refine wp_regionN (fun w' => w'.cell? ⟨ba, oa, none⟩ = some (.int .u8 F) ∧ w'.cell? ⟨ba, oa + 1, none⟩ = some (.int .u8 L) ∧ w'.cell? ⟨ba, oa + 2, none⟩ = some (.int .u8 M)) [] (by kernel_rfl) (by exact ⟨c0, c1, c2⟩) (fun hHeld => ?_)
        refine wpAnyN_u 0 ⟨some 48, _, _, _, _, _⟩ _ rfl ?_
        try simp only [Act.put, putA, putB, putC]
        refine wpAnyN_u 1 ⟨some 49, _, _, _, _, _⟩ _ rfl ?_
        try simp only [Act.put, putA, putB, putC]
        refine wpAnyN_u 2 ⟨some 50, _, _, _, _, _⟩ _ rfl ?_
        try simp only [Act.put, putA, putB, putC]
        refine wpAnyN_u 3 ⟨some 51, _, _, _, _, _⟩ _ rfl ?_
        try simp only [Act.put, putA, putB, putC]
        refine wpAnyN_u 4 ⟨some 52, _, _, _, _, _⟩ _ rfl ?_
        try simp only [Act.put, putA, putB, putC]
        refine wpAnyN_u 5 ⟨some 53, _, _, _, _, _⟩ _ rfl ?_
        try simp only [Act.put, putA, putB, putC]
        refine wpAnyN_u 6 ⟨some 54, _, _, _, _, _⟩ _ rfl ?_
        try simp only [Act.put, putA, putB, putC]
        refine wpAnyN_u 7 ⟨some 55, _, _, _, _, _⟩ _ rfl ?_
        try simp only [Act.put, putA, putB, putC]
        refine wpAnyN_u 8 ⟨some 56, _, _, _, _, _⟩ _ rfl ?_
        try simp only [Act.put, putA, putB, putC]
        refine wpAnyN_u 9 ⟨some 57, _, _, _, _, _⟩ _ rfl ?_
        try simp only [Act.put, putA, putB, putC]
        refine wpAnyN_u 10 ⟨some 58, _, _, _, _, _⟩ _ rfl ?_
        try simp only [Act.put, putA, putB, putC]
        refine wpAnyN_u 11 ⟨some 59, _, _, _, _, _⟩ _ rfl ?_
        try simp only [Act.put, putA, putB, putC]
        refine wpAnyN_u 12 ⟨some 60, _, _, _, _, _⟩ _ rfl ?_
        try simp only [Act.put, putA, putB, putC]
        refine wpAnyN_u 13 ⟨some 61, _, _, _, _, _⟩ _ rfl ?_
        try simp only [Act.put, putA, putB, putC]
        refine wpAnyN_u 14 ⟨some 62, _, _, _, _, _⟩ _ rfl ?_
        try simp only [Act.put, putA, putB, putC]
        refine wpAnyN_u 15 ⟨some 63, _, _, _, _, _⟩ _ rfl ?_
        try simp only [Act.put, putA, putB, putC]
        refine wpAnyN_u 16 ⟨some 64, _, _, _, _, _⟩ _ rfl ?_
        try simp only [Act.put, putA, putB, putC]
        refine wpAnyN_u 17 ⟨some 65, _, _, _, _, _⟩ _ rfl ?_
        try simp only [Act.put, putA, putB, putC]
        refine wpAnyN_u 18 ⟨some 66, _, _, _, _, _⟩ _ rfl ?_
        try simp only [Act.put, putA, putB, putC]
        refine wpAnyN_u 19 ⟨some 67, _, _, _, _, _⟩ _ rfl ?_
        try simp only [Act.put, putA, putB, putC]
        refine wpAnyN_u 20 ⟨some 68, _, _, _, _, _⟩ _ rfl ?_
        try simp only [Act.put, putA, putB, putC]
        refine wpAnyN_u 21 ⟨some 69, _, _, _, _, _⟩ _ rfl ?_
        try simp only [Act.put, putA, putB, putC]
        refine wpAnyN_u 22 ⟨some 70, _, _, _, _, _⟩ _ rfl ?_
        try simp only [Act.put, putA, putB, putC]
        refine wpAnyN_u 23 ⟨some 71, _, _, _, _, _⟩ _ rfl ?_
        try simp only [Act.put, putA, putB, putC]
        refine wpAnyN_u 24 ⟨some 72, _, _, _, _, _⟩ _ rfl ?_
        try simp only [Act.put, putA, putB, putC]
        refine wpAnyN_u 25 ⟨some 73, _, _, _, _, _⟩ _ rfl ?_
        try simp only [Act.put, putA, putB, putC]
        refine wpAnyN_u 26 ⟨some 74, _, _, _, _, _⟩ _ rfl ?_
        try simp only [Act.put, putA, putB, putC]
        refine wpAnyN_u 27 ⟨some 75, _, _, _, _, _⟩ _ rfl ?_
        try simp only [Act.put, putA, putB, putC]
        refine wpAnyN_s 28 ⟨some 76, _, _, _, _, _⟩ rfl ?_
        try simp only [Act.put, putA, putB, putC]
        refine wpAnyN_s 29 ⟨some 77, _, _, _, _, _⟩ rfl ?_
        try simp only [Act.put, putA, putB, putC]
        refine wpAnyN_s 30 ⟨some 78, _, _, _, _, _⟩ rfl ?_
        try simp only [Act.put, putA, putB, putC]
        refine wpAnyN_s 31 ⟨some 79, _, _, _, _, _⟩ rfl ?_
        try simp only [Act.put, putA, putB, putC]
        refine wpAnyN_s 32 ⟨some 80, _, _, _, _, _⟩ rfl ?_
        try simp only [Act.put, putA, putB, putC]
        refine wpAnyN_s 33 ⟨some 81, _, _, _, _, _⟩ rfl ?_
        try simp only [Act.put, putA, putB, putC]
        refine wpAnyN_s 34 ⟨some 82, _, _, _, _, _⟩ rfl ?_
        try simp only [Act.put, putA, putB, putC]
        refine wpAnyN_s 35 ⟨some 83, _, _, _, _, _⟩ rfl ?_
        try simp only [Act.put, putA, putB, putC]
        refine wpAnyN_s 36 ⟨some 84, _, _, _, _, _⟩ rfl ?_
        try simp only [Act.put, putA, putB, putC]
        refine wpAnyN_s 37 ⟨some 85, _, _, _, _, _⟩ rfl ?_
        try simp only [Act.put, putA, putB, putC]
        refine wpAnyN_s 38 ⟨some 86, _, _, _, _, _⟩ rfl ?_
        try simp only [Act.put, putA, putB, putC]
        refine wpAnyN_s 39 ⟨some 87, _, _, _, _, _⟩ rfl ?_
        try simp only [Act.put, putA, putB, putC]
        refine wpAnyN_s 40 ⟨some 88, _, _, _, _, _⟩ rfl ?_
        try simp only [Act.put, putA, putB, putC]
        refine wpAnyN_s 41 ⟨some 89, _, _, _, _, _⟩ rfl ?_
        try simp only [Act.put, putA, putB, putC]
        refine wpAnyN_s 42 ⟨some 90, _, _, _, _, _⟩ rfl ?_
        try simp only [Act.put, putA, putB, putC]
        refine wpAnyN_s 43 ⟨some 91, _, _, _, _, _⟩ rfl ?_
        try simp only [Act.put, putA, putB, putC]
        refine wpAnyN_s 44 ⟨some 92, _, _, _, _, _⟩ rfl ?_
        try simp only [Act.put, putA, putB, putC]
        refine wpAnyN_u 45 ⟨some 93, _, _, _, _, _⟩ _ rfl ?_
        try simp only [Act.put, putA, putB, putC]
        refine wpAnyN_u 46 ⟨some 94, _, _, _, _, _⟩ _ rfl ?_
        try simp only [Act.put, putA, putB, putC]
        refine wpAnyN_end (by kernel_rfl) ?_
        go_wp2_with fail
        go_meet
        exact ⟨by rw [HBE.out, HND.out]; rfl, rfl⟩
       ·replace hR2 : (M == 0) = false := hR2
        refine wp_regionN (fun w' => w'.cell? ⟨ba, oa, none⟩ = some (.int .u8 F) ∧ w'.cell? ⟨ba, oa + 1, none⟩ = some (.int .u8 L) ∧ w'.cell? ⟨ba, oa + 2, none⟩ = some (.int .u8 M)) [] (by kernel_rfl) (by exact ⟨c0, c1, c2⟩) (fun hHeld => ?_)
        refine wpAnyN_u 0 ⟨some 48, _, _, _, _, _⟩ _ rfl ?_
        try simp only [Act.put, putA, putB, putC]
        refine wpAnyN_u 1 ⟨some 49, _, _, _, _, _⟩ _ rfl ?_
        try simp only [Act.put, putA, putB, putC]
        refine wpAnyN_u 2 ⟨some 50, _, _, _, _, _⟩ _ rfl ?_
        try simp only [Act.put, putA, putB, putC]
        refine wpAnyN_u 3 ⟨some 51, _, _, _, _, _⟩ _ rfl ?_
        try simp only [Act.put, putA, putB, putC]
        refine wpAnyN_u 4 ⟨some 52, _, _, _, _, _⟩ _ rfl ?_
        try simp only [Act.put, putA, putB, putC]
        refine wpAnyN_u 5 ⟨some 53, _, _, _, _, _⟩ _ rfl ?_
        try simp only [Act.put, putA, putB, putC]
        refine wpAnyN_u 6 ⟨some 54, _, _, _, _, _⟩ _ rfl ?_
        try simp only [Act.put, putA, putB, putC]
        refine wpAnyN_u 7 ⟨some 55, _, _, _, _, _⟩ _ rfl ?_
        try simp only [Act.put, putA, putB, putC]
        refine wpAnyN_u 8 ⟨some 56, _, _, _, _, _⟩ _ rfl ?_
        try simp only [Act.put, putA, putB, putC]
        refine wpAnyN_u 9 ⟨some 57, _, _, _, _, _⟩ _ rfl ?_
        try simp only [Act.put, putA, putB, putC]
        refine wpAnyN_u 10 ⟨some 58, _, _, _, _, _⟩ _ rfl ?_
        try simp only [Act.put, putA, putB, putC]
        refine wpAnyN_u 11 ⟨some 59, _, _, _, _, _⟩ _ rfl ?_
        try simp only [Act.put, putA, putB, putC]
        refine wpAnyN_u 12 ⟨some 60, _, _, _, _, _⟩ _ rfl ?_
        try simp only [Act.put, putA, putB, putC]
        refine wpAnyN_u 13 ⟨some 61, _, _, _, _, _⟩ _ rfl ?_
        try simp only [Act.put, putA, putB, putC]
        refine wpAnyN_u 14 ⟨some 62, _, _, _, _, _⟩ _ rfl ?_
        try simp only [Act.put, putA, putB, putC]
        refine wpAnyN_u 15 ⟨some 63, _, _, _, _, _⟩ _ rfl ?_
        try simp only [Act.put, putA, putB, putC]
        refine wpAnyN_u 16 ⟨some 64, _, _, _, _, _⟩ _ rfl ?_
        try simp only [Act.put, putA, putB, putC]
        refine wpAnyN_u 17 ⟨some 65, _, _, _, _, _⟩ _ rfl ?_
        try simp only [Act.put, putA, putB, putC]
        refine wpAnyN_u 18 ⟨some 66, _, _, _, _, _⟩ _ rfl ?_
        try simp only [Act.put, putA, putB, putC]
        refine wpAnyN_u 19 ⟨some 67, _, _, _, _, _⟩ _ rfl ?_
        try simp only [Act.put, putA, putB, putC]
        refine wpAnyN_u 20 ⟨some 68, _, _, _, _, _⟩ _ rfl ?_
        try simp only [Act.put, putA, putB, putC]
        refine wpAnyN_u 21 ⟨some 69, _, _, _, _, _⟩ _ rfl ?_
        try simp only [Act.put, putA, putB, putC]
        refine wpAnyN_u 22 ⟨some 70, _, _, _, _, _⟩ _ rfl ?_
        try simp only [Act.put, putA, putB, putC]
        refine wpAnyN_u 23 ⟨some 71, _, _, _, _, _⟩ _ rfl ?_
        try simp only [Act.put, putA, putB, putC]
        refine wpAnyN_u 24 ⟨some 72, _, _, _, _, _⟩ _ rfl ?_
        try simp only [Act.put, putA, putB, putC]
        refine wpAnyN_u 25 ⟨some 73, _, _, _, _, _⟩ _ rfl ?_
        try simp only [Act.put, putA, putB, putC]
        refine wpAnyN_u 26 ⟨some 74, _, _, _, _, _⟩ _ rfl ?_
        try simp only [Act.put, putA, putB, putC]
        refine wpAnyN_u 27 ⟨some 75, _, _, _, _, _⟩ _ rfl ?_
        try simp only [Act.put, putA, putB, putC]
        refine wpAnyN_u 28 ⟨some 76, _, _, _, _, _⟩ _ rfl ?_
        try simp only [Act.put, putA, putB, putC]
        refine wpAnyN_u 29 ⟨some 77, _, _, _, _, _⟩ _ rfl ?_
        try simp only [Act.put, putA, putB, putC]
        refine wpAnyN_u 30 ⟨some 78, _, _, _, _, _⟩ _ rfl ?_
        try simp only [Act.put, putA, putB, putC]
        refine wpAnyN_u 31 ⟨some 79, _, _, _, _, _⟩ _ rfl ?_
        try simp only [Act.put, putA, putB, putC]
        refine wpAnyN_u 32 ⟨some 80, _, _, _, _, _⟩ _ rfl ?_
        try simp only [Act.put, putA, putB, putC]
        refine wpAnyN_s 33 ⟨some 81, _, _, _, _, _⟩ rfl ?_
        try simp only [Act.put, putA, putB, putC]
        refine wpAnyN_s 34 ⟨some 82, _, _, _, _, _⟩ rfl ?_
        try simp only [Act.put, putA, putB, putC]
        refine wpAnyN_s 35 ⟨some 83, _, _, _, _, _⟩ rfl ?_
        try simp only [Act.put, putA, putB, putC]
        refine wpAnyN_s 36 ⟨some 84, _, _, _, _, _⟩ rfl ?_
        try simp only [Act.put, putA, putB, putC]
        refine wpAnyN_s 37 ⟨some 85, _, _, _, _, _⟩ rfl ?_
        try simp only [Act.put, putA, putB, putC]
        refine wpAnyN_s 38 ⟨some 86, _, _, _, _, _⟩ rfl ?_
        try simp only [Act.put, putA, putB, putC]
        refine wpAnyN_s 39 ⟨some 87, _, _, _, _, _⟩ rfl ?_
        try simp only [Act.put, putA, putB, putC]
        refine wpAnyN_s 40 ⟨some 88, _, _, _, _, _⟩ rfl ?_
        try simp only [Act.put, putA, putB, putC]
        refine wpAnyN_s 41 ⟨some 89, _, _, _, _, _⟩ rfl ?_
        try simp only [Act.put, putA, putB, putC]
        refine wpAnyN_s 42 ⟨some 90, _, _, _, _, _⟩ rfl ?_
        try simp only [Act.put, putA, putB, putC]
        refine wpAnyN_s 43 ⟨some 91, _, _, _, _, _⟩ rfl ?_
        try simp only [Act.put, putA, putB, putC]
        refine wpAnyN_u 44 ⟨some 92, _, _, _, _, _⟩ _ rfl ?_
        try simp only [Act.put, putA, putB, putC]
        refine wpAnyN_u 45 ⟨some 93, _, _, _, _, _⟩ _ rfl ?_
        try simp only [Act.put, putA, putB, putC]
        refine wpAnyN_u 46 ⟨some 94, _, _, _, _, _⟩ _ rfl ?_
        try simp only [Act.put, putA, putB, putC]
        refine wpAnyN_end (by kernel_rfl) ?_
        go_wp2_with fail
        go_meet
        exact ⟨by rw [HBE.out, HND.out]; rfl, rfl⟩
       ·replace hR2 : (M == 0) = true := hR2
        refine wp_regionN (fun w' => w'.cell? ⟨ba, oa, none⟩ = some (.int .u8 F) ∧ w'.cell? ⟨ba, oa + 1, none⟩ = some (.int .u8 L) ∧ w'.cell? ⟨ba, oa + 2, none⟩ = some (.int .u8 M)) [] (by kernel_rfl) (by exact ⟨c0, c1, c2⟩) (fun hHeld => ?_)
        refine wpAnyN_u 0 ⟨some 48, _, _, _, _, _⟩ _ rfl ?_
        try simp only [Act.put, putA, putB, putC]
        refine wpAnyN_u 1 ⟨some 49, _, _, _, _, _⟩ _ rfl ?_
        try simp only [Act.put, putA, putB, putC]
        refine wpAnyN_u 2 ⟨some 50, _, _, _, _, _⟩ _ rfl ?_
        try simp only [Act.put, putA, putB, putC]
        refine wpAnyN_u 3 ⟨some 51, _, _, _, _, _⟩ _ rfl ?_
        try simp only [Act.put, putA, putB, putC]
        refine wpAnyN_u 4 ⟨some 52, _, _, _, _, _⟩ _ rfl ?_
        try simp only [Act.put, putA, putB, putC]
        refine wpAnyN_u 5 ⟨some 53, _, _, _, _, _⟩ _ rfl ?_
        try simp only [Act.put, putA, putB, putC]
        refine wpAnyN_u 6 ⟨some 54, _, _, _, _, _⟩ _ rfl ?_
        try simp only [Act.put, putA, putB, putC]
        refine wpAnyN_u 7 ⟨some 55, _, _, _, _, _⟩ _ rfl ?_
        try simp only [Act.put, putA, putB, putC]
        refine wpAnyN_u 8 ⟨some 56, _, _, _, _, _⟩ _ rfl ?_
        try simp only [Act.put, putA, putB, putC]
        refine wpAnyN_u 9 ⟨some 57, _, _, _, _, _⟩ _ rfl ?_
        try simp only [Act.put, putA, putB, putC]
        refine wpAnyN_u 10 ⟨some 58, _, _, _, _, _⟩ _ rfl ?_
        try simp only [Act.put, putA, putB, putC]
        refine wpAnyN_u 11 ⟨some 59, _, _, _, _, _⟩ _ rfl ?_
        try simp only [Act.put, putA, putB, putC]
        refine wpAnyN_u 12 ⟨some 60, _, _, _, _, _⟩ _ rfl ?_
        try simp only [Act.put, putA, putB, putC]
        refine wpAnyN_u 13 ⟨some 61, _, _, _, _, _⟩ _ rfl ?_
        try simp only [Act.put, putA, putB, putC]
        refine wpAnyN_u 14 ⟨some 62, _, _, _, _, _⟩ _ rfl ?_
        try simp only [Act.put, putA, putB, putC]
        refine wpAnyN_u 15 ⟨some 63, _, _, _, _, _⟩ _ rfl ?_
        try simp only [Act.put, putA, putB, putC]
        refine wpAnyN_u 16 ⟨some 64, _, _, _, _, _⟩ _ rfl ?_
        try simp only [Act.put, putA, putB, putC]
        refine wpAnyN_u 17 ⟨some 65, _, _, _, _, _⟩ _ rfl ?_
        try simp only [Act.put, putA, putB, putC]
        refine wpAnyN_u 18 ⟨some 66, _, _, _, _, _⟩ _ rfl ?_
        try simp only [Act.put, putA, putB, putC]
        refine wpAnyN_u 19 ⟨some 67, _, _, _, _, _⟩ _ rfl ?_
        try simp only [Act.put, putA, putB, putC]
        refine wpAnyN_s 20 ⟨some 68, _, _, _, _, _⟩ rfl ?_
        try simp only [Act.put, putA, putB, putC]
        refine wpAnyN_s 21 ⟨some 69, _, _, _, _, _⟩ rfl ?_
        try simp only [Act.put, putA, putB, putC]
        refine wpAnyN_s 22 ⟨some 70, _, _, _, _, _⟩ rfl ?_
        try simp only [Act.put, putA, putB, putC]
        refine wpAnyN_s 23 ⟨some 71, _, _, _, _, _⟩ rfl ?_
        try simp only [Act.put, putA, putB, putC]
        refine wpAnyN_s 24 ⟨some 72, _, _, _, _, _⟩ rfl ?_
        try simp only [Act.put, putA, putB, putC]
        refine wpAnyN_u 25 ⟨some 73, _, _, _, _, _⟩ _ rfl ?_
        try simp only [Act.put, putA, putB, putC]
        refine wpAnyN_u 26 ⟨some 74, _, _, _, _, _⟩ _ rfl ?_
        try simp only [Act.put, putA, putB, putC]
        refine wpAnyN_u 27 ⟨some 75, _, _, _, _, _⟩ _ rfl ?_
        try simp only [Act.put, putA, putB, putC]
        refine wpAnyN_u 28 ⟨some 76, _, _, _, _, _⟩ _ rfl ?_
        try simp only [Act.put, putA, putB, putC]
        refine wpAnyN_u 29 ⟨some 77, _, _, _, _, _⟩ _ rfl ?_
        try simp only [Act.put, putA, putB, putC]
        refine wpAnyN_u 30 ⟨some 78, _, _, _, _, _⟩ _ rfl ?_
        try simp only [Act.put, putA, putB, putC]
        refine wpAnyN_u 31 ⟨some 79, _, _, _, _, _⟩ _ rfl ?_
        try simp only [Act.put, putA, putB, putC]
        refine wpAnyN_u 32 ⟨some 80, _, _, _, _, _⟩ _ rfl ?_
        try simp only [Act.put, putA, putB, putC]
        refine wpAnyN_u 33 ⟨some 81, _, _, _, _, _⟩ _ rfl ?_
        try simp only [Act.put, putA, putB, putC]
        refine wpAnyN_u 34 ⟨some 82, _, _, _, _, _⟩ _ rfl ?_
        try simp only [Act.put, putA, putB, putC]
        refine wpAnyN_u 35 ⟨some 83, _, _, _, _, _⟩ _ rfl ?_
        try simp only [Act.put, putA, putB, putC]
        refine wpAnyN_u 36 ⟨some 84, _, _, _, _, _⟩ _ rfl ?_
        try simp only [Act.put, putA, putB, putC]
        refine wpAnyN_u 37 ⟨some 85, _, _, _, _, _⟩ _ rfl ?_
        try simp only [Act.put, putA, putB, putC]
        refine wpAnyN_s 38 ⟨some 86, _, _, _, _, _⟩ rfl ?_
        try simp only [Act.put, putA, putB, putC]
        refine wpAnyN_s 39 ⟨some 87, _, _, _, _, _⟩ rfl ?_
        try simp only [Act.put, putA, putB, putC]
        refine wpAnyN_s 40 ⟨some 88, _, _, _, _, _⟩ rfl ?_
        try simp only [Act.put, putA, putB, putC]
        refine wpAnyN_s 41 ⟨some 89, _, _, _, _, _⟩ rfl ?_
        try simp only [Act.put, putA, putB, putC]
        refine wpAnyN_s 42 ⟨some 90, _, _, _, _, _⟩ rfl ?_
        try simp only [Act.put, putA, putB, putC]
        refine wpAnyN_u 43 ⟨some 91, _, _, _, _, _⟩ _ rfl ?_
        try simp only [Act.put, putA, putB, putC]
        refine wpAnyN_u 44 ⟨some 92, _, _, _, _, _⟩ _ rfl ?_
        try simp only [Act.put, putA, putB, putC]
        refine wpAnyN_u 45 ⟨some 93, _, _, _, _, _⟩ _ rfl ?_
        try simp only [Act.put, putA, putB, putC]
        refine wpAnyN_u 46 ⟨some 94, _, _, _, _, _⟩ _ rfl ?_
        try simp only [Act.put, putA, putB, putC]
        refine wpAnyN_end (by kernel_rfl) ?_
        go_wp2_with fail
        go_meet
        exact ⟨by rw [HBE.out, HND.out]; rfl, rfl⟩
       ·replace hR2 : (M == 0) = true := hR2
        refine wp_regionN (fun w' => w'.cell? ⟨ba, oa, none⟩ = some (.int .u8 F) ∧ w'.cell? ⟨ba, oa + 1, none⟩ = some (.int .u8 L) ∧ w'.cell? ⟨ba, oa + 2, none⟩ = some (.int .u8 M)) [] (by kernel_rfl) (by exact ⟨c0, c1, c2⟩) (fun hHeld => ?_)
        refine wpAnyN_u 0 ⟨some 48, _, _, _, _, _⟩ _ rfl ?_
        try simp only [Act.put, putA, putB, putC]
        refine wpAnyN_u 1 ⟨some 49, _, _, _, _, _⟩ _ rfl ?_
        try simp only [Act.put, putA, putB, putC]
        refine wpAnyN_u 2 ⟨some 50, _, _, _, _, _⟩ _ rfl ?_
        try simp only [Act.put, putA, putB, putC]
        refine wpAnyN_u 3 ⟨some 51, _, _, _, _, _⟩ _ rfl ?_
        try simp only [Act.put, putA, putB, putC]
        refine wpAnyN_u 4 ⟨some 52, _, _, _, _, _⟩ _ rfl ?_
        try simp only [Act.put, putA, putB, putC]
        refine wpAnyN_u 5 ⟨some 53, _, _, _, _, _⟩ _ rfl ?_
        try simp only [Act.put, putA, putB, putC]
        refine wpAnyN_u 6 ⟨some 54, _, _, _, _, _⟩ _ rfl ?_
        try simp only [Act.put, putA, putB, putC]
        refine wpAnyN_u 7 ⟨some 55, _, _, _, _, _⟩ _ rfl ?_
        try simp only [Act.put, putA, putB, putC]
        refine wpAnyN_u 8 ⟨some 56, _, _, _, _, _⟩ _ rfl ?_
        try simp only [Act.put, putA, putB, putC]
        refine wpAnyN_u 9 ⟨some 57, _, _, _, _, _⟩ _ rfl ?_
        try simp only [Act.put, putA, putB, putC]
        refine wpAnyN_u 10 ⟨some 58, _, _, _, _, _⟩ _ rfl ?_
        try simp only [Act.put, putA, putB, putC]
        refine wpAnyN_u 11 ⟨some 59, _, _, _, _, _⟩ _ rfl ?_
        try simp only [Act.put, putA, putB, putC]
        refine wpAnyN_u 12 ⟨some 60, _, _, _, _, _⟩ _ rfl ?_
        try simp only [Act.put, putA, putB, putC]
        refine wpAnyN_u 13 ⟨some 61, _, _, _, _, _⟩ _ rfl ?_
        try simp only [Act.put, putA, putB, putC]
        refine wpAnyN_u 14 ⟨some 62, _, _, _, _, _⟩ _ rfl ?_
        try simp only [Act.put, putA, putB, putC]
        refine wpAnyN_u 15 ⟨some 63, _, _, _, _, _⟩ _ rfl ?_
        try simp only [Act.put, putA, putB, putC]
        refine wpAnyN_u 16 ⟨some 64, _, _, _, _, _⟩ _ rfl ?_
        try simp only [Act.put, putA, putB, putC]
        refine wpAnyN_u 17 ⟨some 65, _, _, _, _, _⟩ _ rfl ?_
        try simp only [Act.put, putA, putB, putC]
        refine wpAnyN_u 18 ⟨some 66, _, _, _, _, _⟩ _ rfl ?_
        try simp only [Act.put, putA, putB, putC]
        refine wpAnyN_u 19 ⟨some 67, _, _, _, _, _⟩ _ rfl ?_
        try simp only [Act.put, putA, putB, putC]
        refine wpAnyN_s 20 ⟨some 68, _, _, _, _, _⟩ rfl ?_
        try simp only [Act.put, putA, putB, putC]
        refine wpAnyN_s 21 ⟨some 69, _, _, _, _, _⟩ rfl ?_
        try simp only [Act.put, putA, putB, putC]
        refine wpAnyN_s 22 ⟨some 70, _, _, _, _, _⟩ rfl ?_
        try simp only [Act.put, putA, putB, putC]
        refine wpAnyN_s 23 ⟨some 71, _, _, _, _, _⟩ rfl ?_
        try simp only [Act.put, putA, putB, putC]
        refine wpAnyN_s 24 ⟨some 72, _, _, _, _, _⟩ rfl ?_
        try simp only [Act.put, putA, putB, putC]
        refine wpAnyN_u 25 ⟨some 73, _, _, _, _, _⟩ _ rfl ?_
        try simp only [Act.put, putA, putB, putC]
        refine wpAnyN_u 26 ⟨some 74, _, _, _, _, _⟩ _ rfl ?_
        try simp only [Act.put, putA, putB, putC]
        refine wpAnyN_u 27 ⟨some 75, _, _, _, _, _⟩ _ rfl ?_
        try simp only [Act.put, putA, putB, putC]
        refine wpAnyN_u 28 ⟨some 76, _, _, _, _, _⟩ _ rfl ?_
        try simp only [Act.put, putA, putB, putC]
        refine wpAnyN_u 29 ⟨some 77, _, _, _, _, _⟩ _ rfl ?_
        try simp only [Act.put, putA, putB, putC]
        refine wpAnyN_u 30 ⟨some 78, _, _, _, _, _⟩ _ rfl ?_
        try simp only [Act.put, putA, putB, putC]
        refine wpAnyN_u 31 ⟨some 79, _, _, _, _, _⟩ _ rfl ?_
        try simp only [Act.put, putA, putB, putC]
        refine wpAnyN_u 32 ⟨some 80, _, _, _, _, _⟩ _ rfl ?_
        try simp only [Act.put, putA, putB, putC]
        refine wpAnyN_u 33 ⟨some 81, _, _, _, _, _⟩ _ rfl ?_
        try simp only [Act.put, putA, putB, putC]
        refine wpAnyN_u 34 ⟨some 82, _, _, _, _, _⟩ _ rfl ?_
        try simp only [Act.put, putA, putB, putC]
        refine wpAnyN_u 35 ⟨some 83, _, _, _, _, _⟩ _ rfl ?_
        try simp only [Act.put, putA, putB, putC]
        refine wpAnyN_u 36 ⟨some 84, _, _, _, _, _⟩ _ rfl ?_
        try simp only [Act.put, putA, putB, putC]
        refine wpAnyN_u 37 ⟨some 85, _, _, _, _, _⟩ _ rfl ?_
        try simp only [Act.put, putA, putB, putC]
        refine wpAnyN_u 38 ⟨some 86, _, _, _, _, _⟩ _ rfl ?_
        try simp only [Act.put, putA, putB, putC]
        refine wpAnyN_u 39 ⟨some 87, _, _, _, _, _⟩ _ rfl ?_
        try simp only [Act.put, putA, putB, putC]
        refine wpAnyN_u 40 ⟨some 88, _, _, _, _, _⟩ _ rfl ?_
        try simp only [Act.put, putA, putB, putC]
        refine wpAnyN_u 41 ⟨some 89, _, _, _, _, _⟩ _ rfl ?_
        try simp only [Act.put, putA, putB, putC]
        refine wpAnyN_u 42 ⟨some 90, _, _, _, _, _⟩ _ rfl ?_
        try simp only [Act.put, putA, putB, putC]
        refine wpAnyN_u 43 ⟨some 91, _, _, _, _, _⟩ _ rfl ?_
        try simp only [Act.put, putA, putB, putC]
        refine wpAnyN_u 44 ⟨some 92, _, _, _, _, _⟩ _ rfl ?_
        try simp only [Act.put, putA, putB, putC]
        refine wpAnyN_u 45 ⟨some 93, _, _, _, _, _⟩ _ rfl ?_
        try simp only [Act.put, putA, putB, putC]
        refine wpAnyN_u 46 ⟨some 94, _, _, _, _, _⟩ _ rfl ?_
        try simp only [Act.put, putA, putB, putC]
        refine wpAnyN_end (by kernel_rfl) ?_
        go_wp2_with fail
        go_meet
        exact ⟨by rw [HBE.out, HND.out]; rfl, rfl⟩
       ·replace hR2 : (M == 0) = true := hR2
        refine wp_regionN (fun w' => w'.cell? ⟨ba, oa, none⟩ = some (.int .u8 F) ∧ w'.cell? ⟨ba, oa + 1, none⟩ = some (.int .u8 L) ∧ w'.cell? ⟨ba, oa + 2, none⟩ = some (.int .u8 M)) [] (by kernel_rfl) (by exact ⟨c0, c1, c2⟩) (fun hHeld => ?_)
        refine wpAnyN_u 0 ⟨some 48, _, _, _, _, _⟩ _ rfl ?_
        try simp only [Act.put, putA, putB, putC]
        refine wpAnyN_u 1 ⟨some 49, _, _, _, _, _⟩ _ rfl ?_
        try simp only [Act.put, putA, putB, putC]
        refine wpAnyN_u 2 ⟨some 50, _, _, _, _, _⟩ _ rfl ?_
        try simp only [Act.put, putA, putB, putC]
        refine wpAnyN_u 3 ⟨some 51, _, _, _, _, _⟩ _ rfl ?_
        try simp only [Act.put, putA, putB, putC]
        refine wpAnyN_u 4 ⟨some 52, _, _, _, _, _⟩ _ rfl ?_
        try simp only [Act.put, putA, putB, putC]
        refine wpAnyN_u 5 ⟨some 53, _, _, _, _, _⟩ _ rfl ?_
        try simp only [Act.put, putA, putB, putC]
        refine wpAnyN_u 6 ⟨some 54, _, _, _, _, _⟩ _ rfl ?_
        try simp only [Act.put, putA, putB, putC]
        refine wpAnyN_u 7 ⟨some 55, _, _, _, _, _⟩ _ rfl ?_
        try simp only [Act.put, putA, putB, putC]
        refine wpAnyN_u 8 ⟨some 56, _, _, _, _, _⟩ _ rfl ?_
        try simp only [Act.put, putA, putB, putC]
        refine wpAnyN_u 9 ⟨some 57, _, _, _, _, _⟩ _ rfl ?_
        try simp only [Act.put, putA, putB, putC]
        refine wpAnyN_u 10 ⟨some 58, _, _, _, _, _⟩ _ rfl ?_
        try simp only [Act.put, putA, putB, putC]
        refine wpAnyN_u 11 ⟨some 59, _, _, _, _, _⟩ _ rfl ?_
        try simp only [Act.put, putA, putB, putC]
        refine wpAnyN_u 12 ⟨some 60, _, _, _, _, _⟩ _ rfl ?_
        try simp only [Act.put, putA, putB, putC]
        refine wpAnyN_u 13 ⟨some 61, _, _, _, _, _⟩ _ rfl ?_
        try simp only [Act.put, putA, putB, putC]
        refine wpAnyN_u 14 ⟨some 62, _, _, _, _, _⟩ _ rfl ?_
        try simp only [Act.put, putA, putB, putC]
        refine wpAnyN_u 15 ⟨some 63, _, _, _, _, _⟩ _ rfl ?_
        try simp only [Act.put, putA, putB, putC]
        refine wpAnyN_u 16 ⟨some 64, _, _, _, _, _⟩ _ rfl ?_
        try simp only [Act.put, putA, putB, putC]
        refine wpAnyN_u 17 ⟨some 65, _, _, _, _, _⟩ _ rfl ?_
        try simp only [Act.put, putA, putB, putC]
        refine wpAnyN_u 18 ⟨some 66, _, _, _, _, _⟩ _ rfl ?_
        try simp only [Act.put, putA, putB, putC]
        refine wpAnyN_u 19 ⟨some 67, _, _, _, _, _⟩ _ rfl ?_
        try simp only [Act.put, putA, putB, putC]
        refine wpAnyN_s 20 ⟨some 68, _, _, _, _, _⟩ rfl ?_
        try simp only [Act.put, putA, putB, putC]
        refine wpAnyN_s 21 ⟨some 69, _, _, _, _, _⟩ rfl ?_
        try simp only [Act.put, putA, putB, putC]
        refine wpAnyN_s 22 ⟨some 70, _, _, _, _, _⟩ rfl ?_
        try simp only [Act.put, putA, putB, putC]
        refine wpAnyN_s 23 ⟨some 71, _, _, _, _, _⟩ rfl ?_
        try simp only [Act.put, putA, putB, putC]
        refine wpAnyN_s 24 ⟨some 72, _, _, _, _, _⟩ rfl ?_
        try simp only [Act.put, putA, putB, putC]
        refine wpAnyN_u 25 ⟨some 73, _, _, _, _, _⟩ _ rfl ?_
        try simp only [Act.put, putA, putB, putC]
        refine wpAnyN_u 26 ⟨some 74, _, _, _, _, _⟩ _ rfl ?_
        try simp only [Act.put, putA, putB, putC]
        refine wpAnyN_u 27 ⟨some 75, _, _, _, _, _⟩ _ rfl ?_
        try simp only [Act.put, putA, putB, putC]
        refine wpAnyN_u 28 ⟨some 76, _, _, _, _, _⟩ _ rfl ?_
        try simp only [Act.put, putA, putB, putC]
        refine wpAnyN_u 29 ⟨some 77, _, _, _, _, _⟩ _ rfl ?_
        try simp only [Act.put, putA, putB, putC]
        refine wpAnyN_u 30 ⟨some 78, _, _, _, _, _⟩ _ rfl ?_
        try simp only [Act.put, putA, putB, putC]
        refine wpAnyN_u 31 ⟨some 79, _, _, _, _, _⟩ _ rfl ?_
        try simp only [Act.put, putA, putB, putC]
        refine wpAnyN_u 32 ⟨some 80, _, _, _, _, _⟩ _ rfl ?_
        try simp only [Act.put, putA, putB, putC]
        refine wpAnyN_u 33 ⟨some 81, _, _, _, _, _⟩ _ rfl ?_
        try simp only [Act.put, putA, putB, putC]
        refine wpAnyN_u 34 ⟨some 82, _, _, _, _, _⟩ _ rfl ?_
        try simp only [Act.put, putA, putB, putC]
        refine wpAnyN_u 35 ⟨some 83, _, _, _, _, _⟩ _ rfl ?_
        try simp only [Act.put, putA, putB, putC]
        refine wpAnyN_u 36 ⟨some 84, _, _, _, _, _⟩ _ rfl ?_
        try simp only [Act.put, putA, putB, putC]
        refine wpAnyN_u 37 ⟨some 85, _, _, _, _, _⟩ _ rfl ?_
        try simp only [Act.put, putA, putB, putC]
        refine wpAnyN_u 38 ⟨some 86, _, _, _, _, _⟩ _ rfl ?_
        try simp only [Act.put, putA, putB, putC]
        refine wpAnyN_u 39 ⟨some 87, _, _, _, _, _⟩ _ rfl ?_
        try simp only [Act.put, putA, putB, putC]
        refine wpAnyN_u 40 ⟨some 88, _, _, _, _, _⟩ _ rfl ?_
        try simp only [Act.put, putA, putB, putC]
        refine wpAnyN_u 41 ⟨some 89, _, _, _, _, _⟩ _ rfl ?_
        try simp only [Act.put, putA, putB, putC]
        refine wpAnyN_u 42 ⟨some 90, _, _, _, _, _⟩ _ rfl ?_
        try simp only [Act.put, putA, putB, putC]
        refine wpAnyN_u 43 ⟨some 91, _, _, _, _, _⟩ _ rfl ?_
        try simp only [Act.put, putA, putB, putC]
        refine wpAnyN_u 44 ⟨some 92, _, _, _, _, _⟩ _ rfl ?_
        try simp only [Act.put, putA, putB, putC]
        refine wpAnyN_u 45 ⟨some 93, _, _, _, _, _⟩ _ rfl ?_
        try simp only [Act.put, putA, putB, putC]
        refine wpAnyN_u 46 ⟨some 94, _, _, _, _, _⟩ _ rfl ?_
        try simp only [Act.put, putA, putB, putC]
        refine wpAnyN_end (by kernel_rfl) ?_
        go_wp2_with fail
        go_meet
        exact ⟨by rw [HBE.out, HND.out]; rfl, rfl⟩
      ·have hnd : decide (2 < n) = false := decide_eq_false hn0
       have hni : decide ((2 : Int) < (n : Int)) = false := decide_eq_false (by omega)
       have HND := Lib.hid hnd
       refine wp_regionN (fun _ => True) [] (by kernel_rfl) (by trivial) (fun hHeld => ?_)
       refine wpAnyN_u 0 ⟨some 48, _, _, _, _, _⟩ _ rfl ?_
       try simp only [Act.put, putA, putB, putC]
       refine wpAnyN_u 1 ⟨some 49, _, _, _, _, _⟩ _ rfl ?_
       try simp only [Act.put, putA, putB, putC]
       refine wpAnyN_u 2 ⟨some 50, _, _, _, _, _⟩ _ rfl ?_
       try simp only [Act.put, putA, putB, putC]
       refine wpAnyN_u 3 ⟨some 51, _, _, _, _, _⟩ _ rfl ?_
       try simp only [Act.put, putA, putB, putC]
       refine wpAnyN_s 4 ⟨some 52, _, _, _, _, _⟩ rfl ?_
       try simp only [Act.put, putA, putB, putC]
       refine wpAnyN_s 5 ⟨some 53, _, _, _, _, _⟩ rfl ?_
       try simp only [Act.put, putA, putB, putC]
       refine wpAnyN_s 6 ⟨some 54, _, _, _, _, _⟩ rfl ?_
       try simp only [Act.put, putA, putB, putC]
       refine wpAnyN_s 7 ⟨some 55, _, _, _, _, _⟩ rfl ?_
       try simp only [Act.put, putA, putB, putC]
       refine wpAnyN_s 8 ⟨some 56, _, _, _, _, _⟩ rfl ?_
       try simp only [Act.put, putA, putB, putC]
       refine wpAnyN_s 9 ⟨some 57, _, _, _, _, _⟩ rfl ?_
       try simp only [Act.put, putA, putB, putC]
       refine wpAnyN_s 10 ⟨some 58, _, _, _, _, _⟩ rfl ?_
       try simp only [Act.put, putA, putB, putC]
       refine wpAnyN_s 11 ⟨some 59, _, _, _, _, _⟩ rfl ?_
       try simp only [Act.put, putA, putB, putC]
       refine wpAnyN_s 12 ⟨some 60, _, _, _, _, _⟩ rfl ?_
       try simp only [Act.put, putA, putB, putC]
       refine wpAnyN_s 13 ⟨some 61, _, _, _, _, _⟩ rfl ?_
       try simp only [Act.put, putA, putB, putC]
       refine wpAnyN_s 14 ⟨some 62, _, _, _, _, _⟩ rfl ?_
       try simp only [Act.put, putA, putB, putC]
       refine wpAnyN_s 15 ⟨some 63, _, _, _, _, _⟩ rfl ?_
       try simp only [Act.put, putA, putB, putC]
       refine wpAnyN_s 16 ⟨some 64, _, _, _, _, _⟩ rfl ?_
       try simp only [Act.put, putA, putB, putC]
       refine wpAnyN_s 17 ⟨some 65, _, _, _, _, _⟩ rfl ?_
       try simp only [Act.put, putA, putB, putC]
       refine wpAnyN_s 18 ⟨some 66, _, _, _, _, _⟩ rfl ?_
       try simp only [Act.put, putA, putB, putC]
       refine wpAnyN_s 19 ⟨some 67, _, _, _, _, _⟩ rfl ?_
       try simp only [Act.put, putA, putB, putC]
       refine wpAnyN_s 20 ⟨some 68, _, _, _, _, _⟩ rfl ?_
       try simp only [Act.put, putA, putB, putC]
       refine wpAnyN_s 21 ⟨some 69, _, _, _, _, _⟩ rfl ?_
       try simp only [Act.put, putA, putB, putC]
       refine wpAnyN_s 22 ⟨some 70, _, _, _, _, _⟩ rfl ?_
       try simp only [Act.put, putA, putB, putC]
       refine wpAnyN_s 23 ⟨some 71, _, _, _, _, _⟩ rfl ?_
       try simp only [Act.put, putA, putB, putC]
       refine wpAnyN_s 24 ⟨some 72, _, _, _, _, _⟩ rfl ?_
       try simp only [Act.put, putA, putB, putC]
       refine wpAnyN_s 25 ⟨some 73, _, _, _, _, _⟩ rfl ?_
       try simp only [Act.put, putA, putB, putC]
       refine wpAnyN_s 26 ⟨some 74, _, _, _, _, _⟩ rfl ?_
       try simp only [Act.put, putA, putB, putC]
       refine wpAnyN_s 27 ⟨some 75, _, _, _, _, _⟩ rfl ?_
       try simp only [Act.put, putA, putB, putC]
       refine wpAnyN_s 28 ⟨some 76, _, _, _, _, _⟩ rfl ?_
       try simp only [Act.put, putA, putB, putC]
       refine wpAnyN_s 29 ⟨some 77, _, _, _, _, _⟩ rfl ?_
       try simp only [Act.put, putA, putB, putC]
       refine wpAnyN_s 30 ⟨some 78, _, _, _, _, _⟩ rfl ?_
       try simp only [Act.put, putA, putB, putC]
       refine wpAnyN_s 31 ⟨some 79, _, _, _, _, _⟩ rfl ?_
       try simp only [Act.put, putA, putB, putC]
       refine wpAnyN_s 32 ⟨some 80, _, _, _, _, _⟩ rfl ?_
       try simp only [Act.put, putA, putB, putC]
       refine wpAnyN_s 33 ⟨some 81, _, _, _, _, _⟩ rfl ?_
       try simp only [Act.put, putA, putB, putC]
       refine wpAnyN_s 34 ⟨some 82, _, _, _, _, _⟩ rfl ?_
       try simp only [Act.put, putA, putB, putC]
       refine wpAnyN_s 35 ⟨some 83, _, _, _, _, _⟩ rfl ?_
       try simp only [Act.put, putA, putB, putC]
       refine wpAnyN_s 36 ⟨some 84, _, _, _, _, _⟩ rfl ?_
       try simp only [Act.put, putA, putB, putC]
       refine wpAnyN_s 37 ⟨some 85, _, _, _, _, _⟩ rfl ?_
       try simp only [Act.put, putA, putB, putC]
       refine wpAnyN_s 38 ⟨some 86, _, _, _, _, _⟩ rfl ?_
       try simp only [Act.put, putA, putB, putC]
       refine wpAnyN_s 39 ⟨some 87, _, _, _, _, _⟩ rfl ?_
       try simp only [Act.put, putA, putB, putC]
       refine wpAnyN_s 40 ⟨some 88, _, _, _, _, _⟩ rfl ?_
       try simp only [Act.put, putA, putB, putC]
       refine wpAnyN_s 41 ⟨some 89, _, _, _, _, _⟩ rfl ?_
       try simp only [Act.put, putA, putB, putC]
       refine wpAnyN_s 42 ⟨some 90, _, _, _, _, _⟩ rfl ?_
       try simp only [Act.put, putA, putB, putC]
       refine wpAnyN_s 43 ⟨some 91, _, _, _, _, _⟩ rfl ?_
       try simp only [Act.put, putA, putB, putC]
       refine wpAnyN_s 44 ⟨some 92, _, _, _, _, _⟩ rfl ?_
       try simp only [Act.put, putA, putB, putC]
       refine wpAnyN_s 45 ⟨some 93, _, _, _, _, _⟩ rfl ?_
       try simp only [Act.put, putA, putB, putC]
       refine wpAnyN_u 46 ⟨some 94, _, _, _, _, _⟩ _ rfl ?_
       try simp only [Act.put, putA, putB, putC]
       refine wpAnyN_end (by kernel_rfl) ?_
       go_wp2_with fail
       go_meet
       exact ⟨by rw [HND.out]; rfl, rfl⟩
     case rest =>
      obtain ⟨rfl, rfl⟩ := hcut
      rcases hq : (decide (2 < n) && badM f l m) with _ | _
      case true =>
       have HQ := Lib.hid hq
       clear hq
       go_wp2_with fail
       go_ret
       exact ⟨by rw [HEQ.out, HQ1.out, HQ2.out, HQ.out]; rfl, (Below.refl _ _).drew⟩
      case false =>
       have HQ := Lib.hid hq
       clear hq
       go_wp2_with fail
       go_ret
       exact ⟨by rw [HEQ.out, HQ1.out, HQ2.out, HQ.out]; rfl, (Below.refl _ _).drew⟩
end Go.Proofs.YtehmompbmnejkaaGreat
/- Contract of package exact's Read. No conditions. -/
namespace Go.Proofs.YtehmompbmnejkaaGreat
open Go.RowKit Ieee

theorem headN_cases (bs : List Int) : headN bs = 0 ∨ headN bs = 6 := by
 unfold headN
 split
 ·exact .inr rfl
 ·split
  ·exact .inr rfl
  ·split
   ·exact .inr rfl
   ·exact .inl rfl
theorem read_hdr6 {bs : List Int} (h : headN bs = 6) : codeN bs = 6 := by
 have h1 := hdr_head bs
 rw [h, if_neg (by omega)] at h1
 unfold codeN
 rw [h1, if_neg (by omega)]
theorem read_hdr5 {bs : List Int} (h : headN bs = 0) (hl : bs.length < 3) : codeN bs = 5 := by
 have h1 := hdr_head bs
 rw [h, if_pos rfl, if_pos hl] at h1
 unfold codeN
 rw [h1, if_neg (by omega)]
theorem read_body {bs : List Int} (h : headN bs = 0) (hl : ¬ bs.length < 3) : codeN bs = bodyN bs (btN bs 2) (btN bs 2) 0 := by
 have h1 := hdr_head bs
 rw [h, if_pos rfl, if_neg hl] at h1
 unfold codeN
 rw [h1, if_pos rfl]
theorem read_says {bs : List Int} (h : headN bs = 0) (hl : ¬ bs.length < 3) : btN bs 0 ≤ 63 ∧ btN bs 1 + btN bs 2 ≤ 70 := by
 have h1 := hdr_head bs
 rw [h, if_pos rfl, if_neg hl] at h1
 obtain ⟨-, hf, hL, hM⟩ := hdr_ok h1
 obtain ⟨q1, q2, -⟩ := hdr_says hf hL hM
 exact ⟨q1, q2⟩
def RRead (bs : List Int) (w : World) (e : Ending) (w' : World) : Prop := Below w.heap.size w w' ∧
  ((codeN bs = 0 ∧ ∃ g, e = .returned (.tuple #[.pointer (some ⟨g, 0, none⟩), .int .i64 0]) ∧ SumAt w' g (bOf bs) (zOf bs) ∧ w.heap.size ≤ g) ∨
   (codeN bs ≠ 0 ∧ e = .returned (.tuple #[.pointer none, .int .i64 ((codeN bs : Nat) : Int)])))
theorem RRead.no {bs : List Int} {w w' : World} {k : Nat} (h : codeN bs = k + 1) (hb : Below w.heap.size w w') : RRead bs w (.returned (.tuple #[.pointer none, .int .i64 ((k : Int) + 1)])) w' :=
 ⟨hb, .inr ⟨by omega, by rw [h]; rfl⟩⟩

theorem andnot32 : ∀ f : Nat, f < 64 → bits .andNot .u8 (f : Int) 32 = ((f % 32 : Nat) : Int) := by decide +kernel
theorem and32 : ∀ f : Nat, f < 64 → bits .and .u8 (f : Int) 32 = ((f / 32 * 32 : Nat) : Int) := by decide +kernel
theorem magN_start {bs : List Int} {l m i t : Nat} (ht : l + m = t) (h : i < m) : (magN bs l m i).set (t - 1 - i) ((wdK bs i 0 : Nat) : Int) = magN bs l m i := by
 subst ht
 refine List.ext_getElem (by simp [magN]) fun j h1 h2 => ?_
 have hj : j < l + m := by simpa [magN] using h2
 rw [List.getElem_set]
 by_cases hji : l + m - 1 - i = j
 ·rw [if_pos hji]
  simp only [magN, List.getElem_map, List.getElem_range]
  rw [if_neg (by omega)]; rfl
 ·rw [if_neg hji]
theorem body_short {bs : List Int} {m i : Nat} (h : i < m) (hl : bs.length < 3 + 4 * i + 4) : bodyN bs m (m - i) i = 5 := by
 obtain ⟨g, hg⟩ : ∃ g, m - i = g + 1 := ⟨m - i - 1, by omega⟩
 rw [hg]; unfold bodyN; rw [if_pos hl]
theorem body_form {bs : List Int} {m i : Nat} (h : i < m) (hl : ¬ bs.length < 3 + 4 * i + 4) (hf : (i = 0 ∨ i + 1 = m) ∧ wdN bs i = 0) : bodyN bs m (m - i) i = 6 := by
 obtain ⟨g, hg⟩ : ∃ g, m - i = g + 1 := ⟨m - i - 1, by omega⟩
 rw [hg]; unfold bodyN; rw [if_neg hl, if_pos hf]
theorem body_next {bs : List Int} {m i : Nat} (h : i < m) (hl : ¬ bs.length < 3 + 4 * i + 4) (hf : ¬ ((i = 0 ∨ i + 1 = m) ∧ wdN bs i = 0)) : bodyN bs m (m - i) i = bodyN bs m (m - (i + 1)) (i + 1) := by
 obtain ⟨g, hg⟩ : ∃ g, m - i = g + 1 := ⟨m - i - 1, by omega⟩
 rw [hg]; conv => lhs; unfold bodyN
 rw [if_neg hl, if_neg hf, show m - (i + 1) = g from by omega]

set_option maxRecDepth 100000 in
set_option maxHeartbeats 4000000 in
theorem read_any (w : World) (a : Option Addr) (n c : Nat) (bs : List Int) (hr : RowK .u8 w a n c bs) (hb : Byt bs) :
  Calls Tryz.prog 40 #[.slice a n c] w (RRead bs w) := by
 have hlen : bs.length = n := hr.1
 have hn : n ≤ 9223372036854775807 := by have := hr.2.1; have := hr.2.2.1; unfold maxLen at this; omega
 have HH := Lib.hid (head_any w a n c bs hr hb)
 have HR := Lib.hid hr
 have HBY := Lib.hid hb
 have HLEN := Lib.hid hlen
 clear hr hb hlen
 go_enter Tryz.func40, Tryz.ntmps40
 go_wp2_with fail
 refine HH.out.mono ?_; rintro e w1 ⟨rfl, hb1⟩
 have HB1 := Lib.hid hb1
 have hrow := HR.out.below hb1 (Nat.le_refl _)
 clear hb1
 rcases headN_cases bs with h6 | h6
 case inr =>
  rw [h6]
  have HC := Lib.hid (read_hdr6 h6)
  clear h6 hrow
  go_wp2_with fail
  go_ret2
  exact RRead.no (k := 5) HC.out HB1.out
 rw [h6]
 by_cases h3 : n < 3
 ·have hd3 : decide ((n : Int) < 3) = true := decide_eq_true (by omega)
  have HC := Lib.hid (read_hdr5 h6 (by rw [HLEN.out]; exact h3))
  clear h6 hrow h3
  go_wp2_with fail
  go_ret2
  exact RRead.no (k := 4) HC.out HB1.out
 ·have hd3 : decide ((n : Int) < 3) = false := decide_eq_false (by omega)
  have hC := read_body h6 (by rw [HLEN.out]; exact h3)
  obtain ⟨hs1, hs2⟩ := read_says h6 (by rw [HLEN.out]; exact h3)
  have h0 := HBY.out.lt 0
  have h1 := HBY.out.lt 1
  have h2 := HBY.out.lt 2
  obtain ⟨F, hF⟩ : ∃ F, bs.getD 0 0 = F := ⟨_, rfl⟩
  obtain ⟨L, hL⟩ : ∃ L, bs.getD 1 0 = L := ⟨_, rfl⟩
  obtain ⟨M, hM⟩ : ∃ M, bs.getD 2 0 = M := ⟨_, rfl⟩
  obtain ⟨f, hf⟩ : ∃ f, btN bs 0 = f := ⟨_, rfl⟩
  obtain ⟨l, hl⟩ : ∃ l, btN bs 1 = l := ⟨_, rfl⟩
  obtain ⟨m, hm⟩ : ∃ m, btN bs 2 = m := ⟨_, rfl⟩
  rw [hF, hf] at h0
  rw [hL, hl] at h1
  rw [hM, hm] at h2
  rw [hf] at hs1
  rw [hl, hm] at hs2
  rw [hm] at hC
  obtain ⟨ba, oa, rfl, hba, hc⟩ := hrow.at (i := 0) (by omega)
  have c0 := hc 0 (by omega)
  have c1 := hc 1 (by omega)
  have c2 := hc 2 (by omega)
  rw [Nat.add_zero, hF] at c0
  rw [hL] at c1
  rw [hM] at c2
  rw [h1.2] at c1
  rw [h2.2] at c2
  have hwL : IntKind.i64.wrap (l : Int) = (l : Int) := IntWalk.i64_in _ (by omega)
  have hwM : IntKind.i64.wrap (m : Int) = (m : Int) := IntWalk.i64_in _ (by omega)
  have hn1 : (1 : Int) < (n : Int) := by omega
  have hn2 : (2 : Int) < (n : Int) := by omega
  obtain ⟨t, ht⟩ : ∃ t, l + m = t := ⟨_, rfl⟩
  have hltm : (l : Int) + (m : Int) = (t : Int) := by omega
  have w1' : IntKind.i64.wrap (t : Int) = (t : Int) := IntWalk.i64_in _ (by omega)
  have HCELL := Lib.hid hc
  have HC := Lib.hid hC
  have HF := Lib.hid hF
  have HF0 := Lib.hid hf
  have HL0 := Lib.hid hl
  have HM0 := Lib.hid hm
  have H0 := Lib.hid h0
  have HS1 := Lib.hid hs1
  have HN3 := Lib.hid h3
  have HROW := Lib.hid hrow
  clear hc hC hF hf hl hm h0 h1 h2 hs1 h3 h6 hrow hM hL
  go_wp2_with fail
  refine wp_regionN (fun w' => w'.cell? ⟨ba, oa + 1, none⟩ = some (.int .u8 (l : Int)) ∧ w'.cell? ⟨ba, oa + 2, none⟩ = some (.int .u8 (m : Int))) [] (by kernel_rfl) (by exact ⟨c1, c2⟩) (fun hHeld => ?_)
  refine wpAnyN_u 0 ⟨some 19, _, _, _, _, _⟩ _ rfl ?_
  try simp only [Act.put, putA, putB, putC]
  refine wpAnyN_u 1 ⟨some 20, _, _, _, _, _⟩ _ rfl ?_
  try simp only [Act.put, putA, putB, putC]
  refine wpAnyN_u 2 ⟨some 21, _, _, _, _, _⟩ _ rfl ?_
  try simp only [Act.put, putA, putB, putC]
  refine wpAnyN_u 3 ⟨some 22, _, _, _, _, _⟩ _ rfl ?_
  try simp only [Act.put, putA, putB, putC]
  refine wpAnyN_u 4 ⟨some 23, _, _, _, _, _⟩ _ rfl ?_
  try simp only [Act.put, putA, putB, putC]
  refine wpAnyN_u 5 ⟨some 24, _, _, _, _, _⟩ _ rfl ?_
  try simp only [Act.put, putA, putB, putC]
  refine wpAnyN_u 6 ⟨some 25, _, _, _, _, _⟩ _ rfl ?_
  try simp only [Act.put, putA, putB, putC]
  refine wpAnyN_u 7 ⟨some 26, _, _, _, _, _⟩ _ rfl ?_
  try simp only [Act.put, putA, putB, putC]
  refine wpAnyN_u 8 ⟨some 5, _, _, _, _, _⟩ _ rfl ?_
  try simp only [Act.put, putA, putB, putC]
  refine wpAnyN_u 9 ⟨some 6, _, _, _, _, _⟩ _ rfl ?_
  try simp only [Act.put, putA, putB, putC]
  refine wpAnyN_end (by kernel_rfl) ?_
  clear hwL hwM hn1 hn2 c1 c2
  go_wp2_with (at_make; refine make_arr .u32 24 34 4 info_u32 (by decide) Tryz.underlying24 rfl _ _ rfl .i64 .i64 _ _ t _ rfl rfl (by omega) (by omega) (by omega) ?_)
  intro w2 harr hb2 hsz2
  have HB2 := Lib.hid (HB1.out.drew.trans (hb2.mono HB1.out.size))
  obtain ⟨g, hg⟩ : ∃ g, w1.heap.size = g := ⟨_, rfl⟩
  rw [hg] at harr ⊢
  have HG : Hid (w.heap.size ≤ g ∧ w1.heap.size = g) := Lib.hid ⟨by rw [← hg]; exact HB1.out.size, hg⟩
  have HA2 := Lib.hid harr
  have HT := Lib.hid ht
  clear harr hb2 hsz2 hg hba c0
  go_wp2_with fail
  go_loopg [32] m (fun gg i wr => ∃ k : Nat, i = .int .i64 (k : Int) ∧ k + gg = m ∧ Arr .u32 34 wr g (magN bs l m k) ∧ bodyN bs m (m - k) k = codeN bs ∧ Below w.heap.size w wr)
  case atStart => exact ⟨0, rfl, by omega, by rw [magN_zero, HT.out]; exact HA2.out, by rw [Nat.sub_zero]; exact HC.out.symm, HB2.out⟩
  case round =>
   obtain ⟨i, rfl, hk, harr, hbd, hb⟩ := hrel
   have HK := Lib.hid hk
   have HBD := Lib.hid hbd
   have HBW := Lib.hid hb
   have HAR := Lib.hid harr
   clear harr hbd hb HA2 HB2
   obtain ⟨wo, rfl⟩ : ∃ wo : World, wo = wr := ⟨_, rfl⟩
   by_cases hlt : i < m
   ·have hkd : decide (i < m) = true := decide_eq_true hlt
    have HLT := Lib.hid hlt
    have him : i ≤ 70 := by omega
    clear hk hlt
    go_wp2_with fail
    go_loopg [35] 4 (fun gg j wx => ∃ k2 : Nat, j = .int .i64 (k2 : Int) ∧ k2 + gg = 4 ∧ Arr .u32 34 wx g ((magN bs l m i).set (t - 1 - i) ((wdK bs i k2 : Nat) : Int)) ∧ (k2 = 0 ∨ 3 + 4 * i + k2 ≤ n) ∧ Below w.heap.size w wx)
    case atStart => exact ⟨0, rfl, by omega, by rw [magN_start HT.out HLT.out]; exact HAR.out, .inl rfl, HBW.out⟩
    case round =>
     obtain ⟨k2, rfl, hk2, harr2, hle, hb3⟩ := hrel
     have HA3 := Lib.hid harr2
     have HB3 := Lib.hid hb3
     have HLE := Lib.hid hle
     have hdig := magN_len bs l m i
     clear hle
     by_cases hlt2 : k2 < 4
     ·have hkd2 : decide ((k2 : Int) < 4) = true := decide_eq_true (by omega)
      have HK2 := Lib.hid hk2
      have hk3 : k2 ≤ 3 := by omega
      have HLT2 := Lib.hid hlt2
      obtain ⟨p, hp⟩ : ∃ p, 3 + 4 * i + k2 = p := ⟨_, rfl⟩
      have hpi : 3 + 4 * (i : Int) + (k2 : Int) = (p : Int) := by omega
      have HP := Lib.hid hp
      clear hk2 hlt2
      go_upto_region 15 with fail
      by_cases hpn : p < n
      ·have hpd : decide (n ≤ p) = false := decide_eq_false (by omega)
       have HPN := Lib.hid hpn
       obtain ⟨q, hq⟩ : ∃ q, t - 1 - i = q := ⟨_, rfl⟩
       have hlt := HLT.out
       have hqt : q < t := by have := HT.out; omega
       have hqi : (t : Int) - 1 - (i : Int) = (q : Int) := by have := HT.out; omega
       have HQ := Lib.hid hq
       rw [hq] at harr2
       have cg := harr2.cell (i := q) (by rw [List.length_set, hdig, HT.out]; exact hqt)
       rw [getD_set_self (by rw [hdig, HT.out]; exact hqt)] at cg
       obtain ⟨cur, hcur⟩ : ∃ cur, wdK bs i k2 = cur := ⟨_, rfl⟩
       have hcl := wdK_lt HBY.out i k2
       have hcl2 : (256 : Nat) ^ k2 ≤ 256 ^ 3 := Nat.pow_le_pow_right (by decide) hk3
       have hcl3 : cur < 16777216 := by rw [← hcur]; exact Nat.lt_of_lt_of_le hcl hcl2
       rw [hcur] at cg
       have HCUR := Lib.hid hcur
       obtain ⟨hB0, hB1⟩ := HBY.out.lt p
       obtain ⟨b', o', he, hba, hcc⟩ := (HR.out.below HB3.out (Nat.le_refl _)).at hpn
       cases he
       have cb := hcc p hpn
       rw [hB1] at cb
       obtain ⟨B, hBe⟩ : ∃ B, btN bs p = B := ⟨_, rfl⟩
       rw [hBe] at cb hB0
       have HBE := Lib.hid hBe
       have hgf : ∀ o, wr.frozen? ⟨g, o, none⟩ = false := fun o => HA3.out.frozen o
       have hb3s : g < wr.heap.size := HA3.out.lt
       have w2' : IntKind.i64.wrap ((t : Int) - 1) = (t : Int) - 1 := IntWalk.i64_in _ (by omega)
       have w3' : IntKind.i64.wrap (q : Int) = (q : Int) := IntWalk.i64_in _ (by omega)
       have hqn : (q : Int) < (t : Int) := by omega
       have hpn2 : (p : Int) < (n : Int) := by omega
       have w4' : IntKind.u32.wrap (B : Int) = (B : Int) := by simp only [IntKind.wrap, IntKind.bits, IntKind.signed]; simp; omega
       clear hcc hBe hb3 harr2 hcl hcl2 hB1 hq hp hcur hlt hdig
       go_wp2_with fail
       refine wp_regionN (fun w' => w'.cell? ⟨g, q, none⟩ = some (.int .u32 (cur : Int)) ∧ w'.cell? ⟨ba, oa + p, none⟩ = some (.int .u8 (B : Int))) [24] (by kernel_rfl) (by exact ⟨cg, cb⟩) (fun hHeld => ?_)
       refine wpAnyN_u 0 ⟨some 47, _, _, _, _, _⟩ _ rfl ?_
       try simp only [Act.put, putA, putB, putC]
       refine wpAnyN_u 1 ⟨some 48, _, _, _, _, _⟩ _ rfl ?_
       try simp only [Act.put, putA, putB, putC]
       refine wpAnyN_u 2 ⟨some 49, _, _, _, _, _⟩ _ rfl ?_
       try simp only [Act.put, putA, putB, putC]
       refine wpAnyN_u 3 ⟨some 50, _, _, _, _, _⟩ _ rfl ?_
       try simp only [Act.put, putA, putB, putC]
       refine wpAnyN_u 4 ⟨some 51, _, _, _, _, _⟩ _ rfl ?_
       try simp only [Act.put, putA, putB, putC]
       refine wpAnyN_u 5 ⟨some 52, _, _, _, _, _⟩ _ rfl ?_
       try simp only [Act.put, putA, putB, putC]
       refine wpAnyN_u 6 ⟨some 53, _, _, _, _, _⟩ _ rfl ?_
       try simp only [Act.put, putA, putB, putC]
       refine wpAnyN_u 7 ⟨some 54, _, _, _, _, _⟩ _ rfl ?_
       try simp only [Act.put, putA, putB, putC]
       refine wpAnyN_u 8 ⟨some 55, _, _, _, _, _⟩ _ rfl ?_
       try simp only [Act.put, putA, putB, putC]
       refine wpAnyN_u 9 ⟨some 56, _, _, _, _, _⟩ _ rfl ?_
       try simp only [Act.put, putA, putB, putC]
       refine wpAnyN_u 10 ⟨some 57, _, _, _, _, _⟩ _ rfl ?_
       try simp only [Act.put, putA, putB, putC]
       refine wpAnyN_u 11 ⟨some 58, _, _, _, _, _⟩ _ rfl ?_
       try simp only [Act.put, putA, putB, putC]
       refine wpAnyN_u 12 ⟨some 59, _, _, _, _, _⟩ _ rfl ?_
       try simp only [Act.put, putA, putB, putC]
       refine wpAnyN_u 13 ⟨some 60, _, _, _, _, _⟩ _ rfl ?_
       try simp only [Act.put, putA, putB, putC]
       refine wpAnyN_u 14 ⟨some 61, _, _, _, _, _⟩ _ rfl ?_
       try simp only [Act.put, putA, putB, putC]
       refine wpAnyN_u 15 ⟨some 62, _, _, _, _, _⟩ _ rfl ?_
       try simp only [Act.put, putA, putB, putC]
       refine wpAnyN_u 16 ⟨some 63, _, _, _, _, _⟩ _ rfl ?_
       try simp only [Act.put, putA, putB, putC]
       refine wpAnyN_u 17 ⟨some 64, _, _, _, _, _⟩ _ rfl ?_
       try simp only [Act.put, putA, putB, putC]
       refine wpAnyN_u 18 ⟨some 65, _, _, _, _, _⟩ _ rfl ?_
       try simp only [Act.put, putA, putB, putC]
       refine wpAnyN_u 19 ⟨some 66, _, _, _, _, _⟩ _ rfl ?_
       try simp only [Act.put, putA, putB, putC]
       refine wpAnyN_u 20 ⟨some 67, _, _, _, _, _⟩ _ rfl ?_
       try simp only [Act.put, putA, putB, putC]
       refine wpAnyN_u 21 ⟨some 68, _, _, _, _, _⟩ _ rfl ?_
       try simp only [Act.put, putA, putB, putC]
       refine wpAnyN_u 22 ⟨some 69, _, _, _, _, _⟩ _ rfl ?_
       try simp only [Act.put, putA, putB, putC]
       refine wpAnyN_u 23 ⟨some 70, _, _, _, _, _⟩ _ rfl ?_
       try simp only [Act.put, putA, putB, putC]
       refine wpAnyN_late (i := 24) (o := ⟨none, _, _, _, _, _⟩) (by kernel_rfl) (by kernel_rfl) rfl (fun K hK => ?_)
       go_simp
       refine hK.out _ _ ?_
       clear hK K
       try simp only [Act.put, putA, putB, putC]
       refine wpAnyN_end (by kernel_rfl) ?_
       have hor : bits .or .u32 (IntKind.u32.wrap ((cur : Int) * 256)) (B : Int) = ((wdK bs i (k2 + 1) : Nat) : Int) := by
        rw [show IntKind.u32.wrap ((cur : Int) * 256) = (cur : Int) * 256 from IntWalk.u32_in _ (by omega), bits_or_u32 (by omega) (by omega) (by omega) (by omega)]
        have ec : ((cur : Int) * 256).toNat = cur * 2 ^ 8 := by omega
        rw [ec, Int.toNat_natCast, or_nat (by omega)]
        show _ = ((wdK bs i k2 * 256 + btN bs (3 + 4 * i + k2) : Nat) : Int)
        rw [HP.out, HBE.out, HCUR.out]
       rw [hor]
       clear hor hHeld
       have hkw : IntKind.i64.wrap ((k2 : Int) + 1) = (k2 : Int) + 1 := IntWalk.i64_in _ (by omega)
       go_wp2_with fail
       go_roundg (gk - 1)
       case measure => have := HLT2.out; have := HK2.out; omega
       case rel => exact ⟨k2 + 1, rfl, by have := HLT2.out; have := HK2.out; omega, by have h := HA3.out.set q ((wdK bs i (k2 + 1) : Nat) : Int); rw [HQ.out] at h ⊢; rw [List.set_set] at h; exact h, .inr (by have := HP.out; have := HPN.out; omega), (HB3.out.setCell HG.out.1 _).drew⟩
      ·have hpd : decide (n ≤ p) = true := decide_eq_true (by omega)
       have HC5 : Hid (codeN bs = 4 + 1) := Lib.hid (by rw [← HBD.out]; exact body_short HLT.out (by rw [HLEN.out]; have := HP.out; omega))
       clear hpn harr2
       go_wp2_with fail
       go_ret2
       exact RRead.no HC5.out HB3.out
     ·have hkd2 : decide ((k2 : Int) < 4) = false := decide_eq_false (by omega)
      have hk4 : k2 = 4 := by omega
      subst hk4
      have hlt := HLT.out
      have htm := HT.out
      have hA4 : Arr .u32 34 wr g (magN bs l m (i + 1)) := by rw [← magN_set hlt, htm]; exact HA3.out
      have hm4 := magN_len bs l m (i + 1)
      obtain ⟨q, hq⟩ : ∃ q, t - 1 = q := ⟨_, rfl⟩
      have ca := hA4.cell (i := q) (by rw [hm4]; omega)
      rw [magN_get (by omega), if_pos (by omega), show l + m - 1 - q = 0 from by omega] at ca
      have cm : i + 1 = m → wr.cell? ⟨g, l, none⟩ = some (.int .u32 ((wdN bs i : Nat) : Int)) := fun h => by
       have ch := hA4.cell (i := l) (by rw [hm4]; omega)
       rw [magN_get (by omega), if_pos (by omega), show l + m - 1 - l = i from by omega] at ch
       exact ch
      have hqi : (t : Int) - 1 = (q : Int) := by omega
      have w2' : IntKind.i64.wrap (q : Int) = (q : Int) := IntWalk.i64_in _ (by omega)
      have hqn : (q : Int) < (t : Int) := by omega
      have hln : (l : Int) < (t : Int) := by omega
      obtain ⟨r, hr⟩ : ∃ r, m - 1 = r := ⟨_, rfl⟩
      have hri : (m : Int) - 1 = (r : Int) := by omega
      have w3' : IntKind.i64.wrap (r : Int) = (r : Int) := IntWalk.i64_in _ (by omega)
      have HA4 := Lib.hid hA4
      have HR2 := Lib.hid hr
      have hle2 : 3 + 4 * i + 4 ≤ n := by
       rcases HLE.out with h | h
       ·omega
       ·exact h
      have HLE2 := Lib.hid hle2
      clear hlt2 hk2 harr2 hkd2 hA4 hm4 hlt htm hle2 HA3 HLE
      go_upto_region 19 with fail
      go_cut [96] (fun v wx => v = .bool (decide ((i = 0 ∨ i + 1 = m) ∧ wdN bs i = 0)) ∧ wr = wx)
      case first =>
       have HCM := Lib.hid cm
       clear cm
       by_cases hi0 : i = 0
       ·have HI0 := Lib.hid hi0
        have hid0 : ((i : Int) == 0) = true := by simp; omega
        by_cases hz : wdN bs 0 = 0
        ·have hzd : (((wdN bs 0 : Nat) : Int) == 0) = true := by simp; omega
         have HZ := Lib.hid hz
         clear hi0 hz
         go_wp2_with fail
         go_meet
         exact ⟨by rw [HI0.out, HZ.out]; rfl, rfl⟩
        ·have hzd : (((wdN bs 0 : Nat) : Int) == 0) = false := by simp; omega
         have HZ := Lib.hid hz
         clear hz
         by_cases hir : i = r
         ·have hird : ((i : Int) == (r : Int)) = true := by simp; omega
          have cl := HCM.out (by have := HR2.out; have := HLT.out; omega)
          rw [hi0] at cl
          clear hi0 hir
          go_wp2_with fail
          go_meet
          exact ⟨by rw [HI0.out, decide_eq_false (fun h => HZ.out h.2)], rfl⟩
         ·have hird : ((i : Int) == (r : Int)) = false := by simp; omega
          clear hi0 hir
          go_wp2_with fail
          go_meet
          exact ⟨by rw [HI0.out, decide_eq_false (fun h => HZ.out h.2)], rfl⟩
       ·have HI0 := Lib.hid hi0
        have hid0 : ((i : Int) == 0) = false := by simp; omega
        by_cases hir : i = r
        ·have hird : ((i : Int) == (r : Int)) = true := by simp; omega
         have cl := HCM.out (by have := HR2.out; have := HLT.out; omega)
         have HIR : Hid (i + 1 = m) := Lib.hid (by have := HR2.out; have := HLT.out; omega)
         clear hi0 hir
         obtain ⟨zz, hzz⟩ : ∃ zz, (((wdN bs i : Nat) : Int) == 0) = zz := ⟨_, rfl⟩
         have HZZ : Hid (decide (wdN bs i = 0) = zz) := Lib.hid (by rw [← hzz, Bool.eq_iff_iff]; simp only [decide_eq_true_eq, beq_iff_eq]; omega)
         go_wp2_with fail
         go_meet
         exact ⟨by rw [← HZZ.out]; congr 1; rw [decide_eq_decide]; exact ⟨fun h => ⟨.inr HIR.out, h⟩, fun h => h.2⟩, rfl⟩
        ·have hird : ((i : Int) == (r : Int)) = false := by simp; omega
         have HIR : Hid (i + 1 ≠ m) := Lib.hid (by have := HR2.out; have := HLT.out; omega)
         clear hi0 hir
         go_wp2_with fail
         go_meet
         exact ⟨by rw [decide_eq_false (fun h => by rcases h.1 with h | h; exact HI0.out h; exact HIR.out h)], rfl⟩
      case rest =>
       obtain ⟨rfl, rfl⟩ := hcut
       clear cm ca
       rcases hf : (decide ((i = 0 ∨ i + 1 = m) ∧ wdN bs i = 0)) with _ | _
       case true =>
        have HC6 : Hid (codeN bs = 5 + 1) := Lib.hid (by rw [← HBD.out]; exact body_form HLT.out (by rw [HLEN.out]; have := HLE2.out; omega) (of_decide_eq_true hf))
        clear hf
        go_wp2_with fail
        go_ret2
        exact RRead.no HC6.out HB3.out
       case false =>
        have HBN : Hid (bodyN bs m (m - (i + 1)) (i + 1) = codeN bs) := Lib.hid (by rw [← HBD.out]; exact (body_next HLT.out (by rw [HLEN.out]; have := HLE2.out; omega) (of_decide_eq_false hf)).symm)
        clear hf
        have him2 : IntKind.i64.wrap ((i : Int) + 1) = (i : Int) + 1 := IntWalk.i64_in _ (by omega)
        go_wp2_with fail
        go_roundg (m - i - 1)
        case measure => have := HLT.out; have := HK.out; omega
        case rel => exact ⟨i + 1, rfl, by have := HLT.out; omega, HA4.out, HBN.out, HB3.out⟩
   ·have hkd : decide (i < m) = false := decide_eq_false hlt
    obtain rfl : i = m := by omega
    have hbd := HBD.out
    rw [Nat.sub_self] at hbd
    unfold bodyN at hbd
    by_cases h7 : 3 + 4 * i < n
    ·have h7d : decide (3 + 4 * (i : Int) < (n : Int)) = true := decide_eq_true (by omega)
     rw [if_pos (by rw [HLEN.out]; exact h7)] at hbd
     have HC7 : Hid (codeN bs = 6 + 1) := Lib.hid hbd.symm
     clear hbd h7 hlt hk
     go_wp2_with fail
     go_ret2
     exact RRead.no HC7.out HBW.out
    ·have h7d : decide (3 + 4 * (i : Int) < (n : Int)) = false := decide_eq_false (by omega)
     rw [if_neg (by rw [HLEN.out]; exact h7)] at hbd
     obtain ⟨k1, k2, k3, k4, k5, k6, k7⟩ := read_ok HBY.out hbd.symm
     have HC0 : Hid (codeN bs = 0) := Lib.hid hbd.symm
     rw [HL0.out, HM0.out] at k5 k6
     rw [HF0.out] at k7
     have hnat : NatC wo (some ⟨g, 0, none⟩) t t (((zOf bs).natAbs : Nat) : Int) := by
      have hfull := HAR.out.full (by rw [magN_len]; omega)
      rw [magN_len, HT.out] at hfull
      exact ⟨_, hfull, magN_dig HBY.out l i i, k5, k6⟩
     have HNAT := Lib.hid hnat
     have HSG := Lib.hid k7
     have hfb : f < 64 := by have := HS1.out; omega
     have hn3 := HN3.out
     have hn0' : 0 < n := by omega
     have e1 := andnot32 f hfb
     have e2 := and32 f hfb
     have HBO : Hid (f % 32 = bOf bs) := Lib.hid (by unfold bOf; rw [HF0.out])
     have c0 : wo.cell? ⟨ba, oa, none⟩ = some (.int .u8 (f : Int)) := by
      obtain ⟨b', o', he, hba, hcc⟩ := (HR.out.below HBW.out (Nat.le_refl _)).at (i := 0) (by omega)
      cases he
      have := hcc 0 (by omega)
      rw [Nat.add_zero, HF.out, H0.out.2] at this
      exact this
     have hn0 : (0 : Int) < (n : Int) := by omega
     clear hbd h7 hlt hk k1 k2 k3 k4 k5 k6 k7 hnat hn3
     go_wp2_with fail
     refine wp_regionN (fun w' => w'.cell? ⟨ba, oa, none⟩ = some (.int .u8 (f : Int))) [11, 12, 13] (by kernel_rfl) (by exact c0) (fun hHeld => ?_)
     refine wpAnyN_u 0 ⟨some 104, _, _, _, _, _⟩ _ rfl ?_
     try simp only [Act.put, putA, putB, putC]
     refine wpAnyN_u 1 ⟨some 105, _, _, _, _, _⟩ _ rfl ?_
     try simp only [Act.put, putA, putB, putC]
     refine wpAnyN_u 2 ⟨some 106, _, _, _, _, _⟩ _ rfl ?_
     try simp only [Act.put, putA, putB, putC]
     refine wpAnyN_u 3 ⟨some 107, _, _, _, _, _⟩ _ rfl ?_
     try simp only [Act.put, putA, putB, putC]
     refine wpAnyN_u 4 ⟨some 108, _, _, _, _, _⟩ _ rfl ?_
     try simp only [Act.put, putA, putB, putC]
     refine wpAnyN_u 5 ⟨some 109, _, _, _, _, _⟩ _ rfl ?_
     try simp only [Act.put, putA, putB, putC]
     refine wpAnyN_u 6 ⟨some 110, _, _, _, _, _⟩ _ rfl ?_
     try simp only [Act.put, putA, putB, putC]
     refine wpAnyN_u 7 ⟨some 111, _, _, _, _, _⟩ _ rfl ?_
     try simp only [Act.put, putA, putB, putC]
     refine wpAnyN_u 8 ⟨some 112, _, _, _, _, _⟩ _ rfl ?_
     try simp only [Act.put, putA, putB, putC]
     refine wpAnyN_u 9 ⟨some 113, _, _, _, _, _⟩ _ rfl ?_
     try simp only [Act.put, putA, putB, putC]
     refine wpAnyN_u 10 ⟨some 114, _, _, _, _, _⟩ _ rfl ?_
     try simp only [Act.put, putA, putB, putC]
     refine wpAnyN_late (i := 11) (o := ⟨some 115, _, _, _, _, _⟩) (by kernel_rfl) (by kernel_rfl) rfl (fun K hK => ?_)
     go_simp
     refine hK.out _ _ ?_
     clear hK K
     try simp only [Act.put, putA, putB, putC]
     refine wpAnyN_free (i := 12) (oi := ⟨some 2, _, _, _, _, _⟩) (v := ?_) rfl (by kernel_rfl) (by kernel_rfl) (by kernel_rfl) (by kernel_rfl) (by kernel_rfl) (fun _ _ _ h => h) (Or.inl ⟨by rfl, ?_⟩) ?_
     rotate_left 1
     ·(intro w hSw; clear hSw; go_simp; try with_reducible rfl)
     try simp only [Act.put, putA, putB, putC]
     refine wpAnyN_free (i := 13) (oi := ⟨some 3, _, _, _, _, _⟩) (v := ?_) rfl (by kernel_rfl) (by kernel_rfl) (by kernel_rfl) (by kernel_rfl) (by kernel_rfl) (fun _ _ _ h => h) (Or.inl ⟨by rfl, ?_⟩) ?_
     rotate_left 1
     ·(intro w hSw; clear hSw; go_simp; try with_reducible rfl)
     try simp only [Act.put, putA, putB, putC]
     refine wpAnyN_end (by kernel_rfl) ?_
     have hbk : Blk (wo.alloc (.cells #[.bool true, .int .u8 ((f : Int) % 32), .bool ((f : Int) / 32 * 32 != 0), .slice (some ⟨g, 0, none⟩) t t] 134)).drew wo.heap.size 134 (sumCells (bOf bs) (decide (zOf bs < 0)) (some ⟨g, 0, none⟩) t t) := by
      refine (Blk.new _ _ _).drew.to ?_
      have q1 : (f : Int) % 32 = ((bOf bs : Nat) : Int) := by have := HBO.out; omega
      have q2 : ((f : Int) / 32 * 32 != 0) = decide (zOf bs < 0) := by
       rw [← HSG.out, Bool.eq_iff_iff]
       have := HS1.out
       simp only [bne_iff_ne, ne_eq, decide_eq_true_eq]
       omega
      rw [q1, q2]; rfl
     have hbz : Below w.heap.size w (wo.alloc (.cells #[.bool true, .int .u8 ((f : Int) % 32), .bool ((f : Int) / 32 * 32 != 0), .slice (some ⟨g, 0, none⟩) t t] 134)).drew := (HBW.out.alloc HBW.out.size _).drew
     have hnz : NatC (wo.alloc (.cells #[.bool true, .int .u8 ((f : Int) % 32), .bool ((f : Int) / 32 * 32 != 0), .slice (some ⟨g, 0, none⟩) t t] 134)).drew (some ⟨g, 0, none⟩) t t (((zOf bs).natAbs : Nat) : Int) := HNAT.out.below ((Below.refl _ _).alloc (Nat.le_refl _) _).drew (Nat.le_refl _)
     have HRR := Lib.hid (show RRead bs w (.returned (.tuple #[.pointer (some ⟨wo.heap.size, 0, none⟩), .int .i64 0])) _ from ⟨hbz, .inl ⟨HC0.out, wo.heap.size, rfl, ⟨_, t, t, hbk, hnz⟩, HBW.out.size⟩⟩)
     clear hbk hbz hnz hHeld
     go_wp2_with fail
     go_ret2
     exact HRR.out
end Go.Proofs.YtehmompbmnejkaaGreat
/- Contract of package bushelref05's Read. No conditions. -/
namespace Go.Proofs.YtehmompbmnejkaaGreat
open Go.RowKit Ieee

def RRef (bs : List Int) (w : World) (e : Ending) (w' : World) : Prop := Below w.heap.size w w' ∧ ∃ (b : Nat) (z : Int) (ng : Bool) (a : Option Addr) (l c : Nat),
 e = .returned (.tuple #[.agg (rsCells b ng a l c), .int .i64 ((codeN bs : Nat) : Int)]) ∧ NumC w' ng a l c z ∧ (codeN bs = 0 → b = bOf bs ∧ z = zOf bs)
theorem rs_zero : rsCells 0 false none 0 0 = #[.bool false, .bool false, .bool false, .bool false, .bool false, .bool false, .slice none 0 0] := by simp [rsCells, fN, fU, fD, fM, fP]
theorem RRef.no {bs : List Int} {w w' : World} {k S : Nat} (hS : w.heap.size = S) (h : codeN bs = k + 1) (hb : Below S w w') :
  RRef bs w (.returned (.tuple #[.agg #[.bool false, .bool false, .bool false, .bool false, .bool false, .bool false, .slice none 0 0], .int .i64 ((k : Int) + 1)]))
   (((((((w'.setCell ⟨S, 0, none⟩ (.bool false)).setCell ⟨S, 1, none⟩ (.bool false)).setCell ⟨S, 2, none⟩ (.bool false)).setCell ⟨S, 3, none⟩ (.bool false)).setCell ⟨S, 4, none⟩ (.bool false)).setCell ⟨S, 5, none⟩ (.bool false)).setCell ⟨S, 6, none⟩ (.slice none 0 0)) := by
 subst hS
 exact ⟨below_set7 hb (Nat.le_refl _) _ _ _ _ _ _ _, 0, 0, false, none, 0, 0, by rw [rs_zero, h]; rfl, NumC.zero, fun h0 => by omega⟩
theorem flags_read : ∀ f : Nat, f < 64 → ((f : Int) % 2 == 1) = fN (f % 32) ∧ ((f : Int) / 2 % 2 == 1) = fU (f % 32) ∧ ((f : Int) / 4 % 2 == 1) = fD (f % 32) ∧ ((f : Int) / 8 % 2 == 1) = fM (f % 32) ∧ ((f : Int) / 16 % 2 == 1) = fP (f % 32) := by decide +kernel
theorem RRef.ok {bs : List Int} {w w' : World} {S : Nat} {z : Int} {u0 u1 u2 u3 u4 ng : Bool} {a : Option Addr} {l c : Nat} (hS : w.heap.size = S) (h : codeN bs = 0) (hb : Below S w w')
  (hk : Blk w' S 89 #[.bool false, .bool false, .bool false, .bool false, .bool false, .bool false, .slice none 0 0]) (hN : NumC w' ng a l c z) (hz : z = zOf bs) (hq : rsCells (bOf bs) = fun ng a l c => #[.bool u0, .bool u1, .bool u2, .bool u3, .bool u4, .bool ng, .slice a l c]) :
  RRef bs w (.returned (.tuple #[.agg #[.bool u0, .bool u1, .bool u2, .bool u3, .bool u4, .bool ng, .slice a l c], .int .i64 0]))
   (((((((w'.setCell ⟨S, 0, none⟩ (.bool u0)).setCell ⟨S, 1, none⟩ (.bool u1)).setCell ⟨S, 2, none⟩ (.bool u2)).setCell ⟨S, 3, none⟩ (.bool u3)).setCell ⟨S, 4, none⟩ (.bool u4)).setCell ⟨S, 5, none⟩ (.bool ng)).setCell ⟨S, 6, none⟩ (.slice a l c)) := by
 subst hS
 exact ⟨below_set7 hb (Nat.le_refl _) _ _ _ _ _ _ _, bOf bs, z, ng, a, l, c, by rw [hq, h]; rfl, NumC.seven hk hN _ _ _ _ _ _ _ _ _, fun _ => ⟨rfl, hz⟩⟩
theorem rsread_results {w : World} {s : Nat} {k : Int} {tmps : Array Value} {v0 v1 v2 v3 v4 v5 v6 : Value} (h2 : tmps[2]? = some (.pointer (some ⟨s, 0, none⟩))) (h3 : tmps[3]? = some (.int .i64 k))
  (hk : Blk w s 89 #[v0, v1, v2, v3, v4, v5, v6]) :
  (Sem.run Tryz.prog (results Tryz.f55 tmps) w) = .ok (.tuple #[.agg #[v0, v1, v2, v3, v4, v5, v6], .int .i64 k]) w := by
 have d0 := hk.cell 0
 have d1 := hk.cell 1
 have d2 := hk.cell 2
 have d3 := hk.cell 3
 have d4 := hk.cell 4
 have d5 := hk.cell 5
 have d6 := hk.cell 6
 clear hk
 simp at d0 d1 d2 d3 d4 d5 d6
 simp [results, Tryz.results55, go_sem, h2, h3, d0, d1, d2, d3, d4, d5, d6]
set_option maxRecDepth 100000 in
/-- a sum is stored into a box -/
theorem store_seven {ops : Array Oper} {rest : List Oper} {w : World} {s i j : Nat} {Q : Exit → Act → World → Prop} {tmps : Array Value} {ds : List Deferred} {c0 c1 c2 c3 c4 c5 c6 : Value} {ty : TypeId} {pos : String} {after : Array Edge} (u0 u1 u2 u3 u4 u5 : Bool) (a : Option Addr) (l c : Nat)
  (hi : tmps[i]? = some (.pointer (some ⟨s, 0, none⟩))) (hj : tmps[j]? = some (.agg #[.bool u0, .bool u1, .bool u2, .bool u3, .bool u4, .bool u5, .slice a l c]))
  (r0 : w.cell? ⟨s, 0, none⟩ = some c0) (r1 : w.cell? ⟨s, 1, none⟩ = some c1) (r2 : w.cell? ⟨s, 2, none⟩ = some c2) (r3 : w.cell? ⟨s, 3, none⟩ = some c3) (r4 : w.cell? ⟨s, 4, none⟩ = some c4) (r5 : w.cell? ⟨s, 5, none⟩ = some c5) (r6 : w.cell? ⟨s, 6, none⟩ = some c6)
  (rf : ∀ o, w.frozen? ⟨s, o, none⟩ = false)
  (hk : wpList Tryz.prog ops Q rest ⟨tmps, ds⟩ (((((((w.setCell ⟨s, 0, none⟩ (.bool u0)).setCell ⟨s, 1, none⟩ (.bool u1)).setCell ⟨s, 2, none⟩ (.bool u2)).setCell ⟨s, 3, none⟩ (.bool u3)).setCell ⟨s, 4, none⟩ (.bool u4)).setCell ⟨s, 5, none⟩ (.bool u5)).setCell ⟨s, 6, none⟩ (.slice a l c))) :
  wpList Tryz.prog ops Q (⟨none, .store 89 (.tmp i) (.tmp j), ty, pos, after, none⟩ :: rest) ⟨tmps, ds⟩ w := by
 refine wpList_plain rfl (fun K hK => ?_)
 replace hk := hK _ _ hk
 revert hk
 clear hK
 go_simp
theorem code_hdr {bs : List Int} {k : Nat} (h : hdrN bs = k + 1) : codeN bs = k + 1 := by unfold codeN; rw [h, if_neg (by omega)]
theorem hdr_a {bs : List Int} (h : bs.length = 0) : hdrN bs = 5 := by unfold hdrN; rw [if_pos h]
theorem hdr_b {bs : List Int} (h : bs.length ≠ 0) (h1 : badF (btN bs 0) = true) : hdrN bs = 6 := by unfold hdrN; rw [if_neg h, if_pos h1]
theorem hdr_c {bs : List Int} (h : bs.length = 1) (h1 : badF (btN bs 0) = false) : hdrN bs = 5 := by unfold hdrN; rw [if_neg (by omega), if_neg (by rw [h1]; decide), if_pos h]
theorem hdr_d {bs : List Int} (h : 1 < bs.length) (h1 : badF (btN bs 0) = false) (h2 : badL (btN bs 0) (btN bs 1) = true) : hdrN bs = 6 := by
 unfold hdrN; rw [if_neg (by omega), if_neg (by rw [h1]; decide), if_neg (by omega), if_pos h2]
theorem hdr_e {bs : List Int} (h : bs.length = 2) (h1 : badF (btN bs 0) = false) (h2 : badL (btN bs 0) (btN bs 1) = false) : hdrN bs = 5 := by
 unfold hdrN; rw [if_neg (by omega), if_neg (by rw [h1]; decide), if_neg (by omega), if_neg (by rw [h2]; decide), if_pos h]
theorem hdr_f {bs : List Int} (h : 2 < bs.length) (h1 : badF (btN bs 0) = false) (h2 : badL (btN bs 0) (btN bs 1) = false) (h3 : badM (btN bs 0) (btN bs 1) (btN bs 2) = true) : hdrN bs = 6 := by
 unfold hdrN; rw [if_neg (by omega), if_neg (by rw [h1]; decide), if_neg (by omega), if_neg (by rw [h2]; decide), if_neg (by omega), if_pos h3]
theorem hdr_g {bs : List Int} (h : 2 < bs.length) (h1 : badF (btN bs 0) = false) (h2 : badL (btN bs 0) (btN bs 1) = false) (h3 : badM (btN bs 0) (btN bs 1) (btN bs 2) = false) : hdrN bs = 0 := by
 unfold hdrN; rw [if_neg (by omega), if_neg (by rw [h1]; decide), if_neg (by omega), if_neg (by rw [h2]; decide), if_neg (by omega), if_neg (by rw [h3]; decide)]

set_option maxRecDepth 100000 in
set_option maxHeartbeats 40000000 in
theorem rsread_any (w : World) (a : Option Addr) (n c : Nat) (bs : List Int) (hr : RowK .u8 w a n c bs) (hb : Byt bs) :
    Calls Tryz.prog 55 #[.slice a n c] w (RRef bs w) := by
  have hlen : bs.length = n := hr.1
  have hn : n ≤ 9223372036854775807 := by have := hr.2.1; have := hr.2.2.1; unfold maxLen at this; omega
  obtain ⟨hk0, hk1, hbw, -⟩ := two_bx w 89 #[.bool false, .bool false, .bool false, .bool false, .bool false, .bool false, .slice none 0 0] #[.bool false, .bool false, .bool false, .bool false, .bool false, .bool false, .slice none 0 0]
  have HBY := Lib.hid hb
  have HLEN := Lib.hid hlen
  obtain ⟨s, hs⟩ : ∃ s, w.heap.size = s := ⟨_, rfl⟩
  have HROW : Hid (∀ w', Below s w w' → RowK .u8 w' a n c bs) := Lib.hid (fun w' h => hr.below h (by rw [hs]; exact Nat.le_refl _))
  go_enter Tryz.func55, Tryz.ntmps55
  go_upto_region 2 with fail
  rw [hs] at hbw hk0 hk1
  generalize ((w.alloc (.cells #[.bool false, .bool false, .bool false, .bool false, .bool false, .bool false, .slice none 0 0] 89)).alloc (.cells #[.bool false, .bool false, .bool false, .bool false, .bool false, .bool false, .slice none 0 0] 89)) = w7 at *
  have HSZ := Lib.hid hs
  have HK0 := Lib.hid hk0
  have HK1 := Lib.hid hk1
  have HB := Lib.hid hbw
  clear hk0 hk1 hbw hs hr hb hlen
  by_cases hn0 : n = 0
  · subst hn0
    have HC := Lib.hid (code_hdr (k := 4) (hdr_a HLEN.out))
    have hk0z := HK0.out
    have hk1z := HK1.out
    have r0 := hk0z.c 0
    have r1 := hk0z.c 1
    have r2 := hk0z.c 2
    have r3 := hk0z.c 3
    have r4 := hk0z.c 4
    have r5 := hk0z.c 5
    have r6 := hk0z.c 6
    have x0 := hk1z.c 0
    have x1 := hk1z.c 1
    have x2 := hk1z.c 2
    have x3 := hk1z.c 3
    have x4 := hk1z.c 4
    have x5 := hk1z.c 5
    have x6 := hk1z.c 6
    have rf : ∀ o, w7.frozen? ⟨s, o, none⟩ = false := fun o => hk0z.frozen o
    have HRZ := Lib.hid (RRef.no (bs := bs) (w := w) (k := 4) HSZ.out HC.out HB.out)
    have HKZ := Lib.hid (Blk.seven hk0z false false false false false false none 0 0)
    clear hk0z hk1z
    go_wp2_with (first
      | (with_reducible refine store_seven (s := s) _ _ _ _ _ _ _ _ _ (by with_unfolding_all rfl) (by with_unfolding_all rfl) r0 r1 r2 r3 r4 r5 r6 rf ?_
         generalize (World.setCell _ _ _) = wz at HRZ HKZ ⊢)
      | (with_reducible refine bodyPost_ret ?_ ?_ HRZ.out
         rotate_left
         · rfl
         · exact rsread_results rfl rfl HKZ.out))
  have hd0 : ((n : Int) == 0) = false := by simpa using hn0
  have hn1 : 0 < n := by omega
  obtain ⟨ba, oa, rfl, hba, hc⟩ := (HROW.out _ HB.out).at hn1
  have c0 := hc 0 hn1
  obtain ⟨q1, q2⟩ := HBY.out.lt 0
  obtain ⟨f, hf⟩ : ∃ f, btN bs 0 = f := ⟨_, rfl⟩
  rw [hf] at q1 q2
  rw [Nat.add_zero, q2] at c0
  have HF := Lib.hid hf
  have HN0 : Hid (bs.length ≠ 0) := Lib.hid (by rw [HLEN.out]; exact hn0)
  have hwF : IntKind.i64.wrap (f : Int) = (f : Int) := IntWalk.i64_in _ (by omega)
  have HCELL := Lib.hid hc
  clear hc hf q2 hn0
  go_upto_region 5 with fail
  obtain ⟨D, hD⟩ : ∃ D, decide (63 < (f : Int)) = D := ⟨_, rfl⟩
  obtain ⟨P, hP⟩ : ∃ P, ((f : Int) / 32 == 1) = P := ⟨_, rfl⟩
  obtain ⟨PL, hPL⟩ : ∃ PL, ((f : Int) / 16 % 2 == 1) = PL := ⟨_, rfl⟩
  have hQ : ((f : Int) / 16 % 2 == 0) = !PL := by
    rw [← hPL, Bool.eq_iff_iff]; simp only [beq_iff_eq, Bool.not_eq_true', beq_eq_false_iff_ne]; omega
  have hDf : decide (63 < f) = D := by rw [← hD, decide_eq_decide]; omega
  have hPf : decide (f / 32 = 1) = P := by rw [← hP, Bool.eq_iff_iff, decide_eq_true_eq, beq_iff_eq]; omega
  have hQf : decide (f / 16 % 2 = 0) = !PL := by rw [← hQ, Bool.eq_iff_iff, decide_eq_true_eq, beq_iff_eq]; omega
  have hPLf : decide (f / 16 % 2 = 1) = PL := by rw [← hPL, Bool.eq_iff_iff, decide_eq_true_eq, beq_iff_eq]; omega
  have HBF : Hid (badF f = (D || (P && !PL))) := Lib.hid (by unfold badF; rw [hDf, hPf, hQf])
  have HPf := Lib.hid hPf
  have HQf := Lib.hid hQf
  have HPLf := Lib.hid hPLf
  clear hDf hPf hQf hPLf
  go_cut [35] (fun v wx => v = .bool (badF f) ∧ w7 = wx)
  case first =>
    as_aux_lemma =>
      have hcase : D = true ∨ (D = false ∧ P = false) ∨ (D = false ∧ P = true) := by cases D <;> cases P <;> simp
      rcases hcase with rfl | ⟨rfl, rfl⟩ | ⟨rfl, rfl⟩
      all_goals
        go_wp2_with fail
        go_meet
        exact ⟨by rw [HBF.out]; rfl, rfl⟩
  case rest =>
    obtain ⟨rfl, rfl⟩ := hcut
    clear hD
    rcases hq : badF f with _ | _
    case true =>
      have HC := Lib.hid (code_hdr (k := 5) (hdr_b HN0.out (by rw [HF.out]; exact hq)))
      clear hq c0
      have hk0z := HK0.out
      have hk1z := HK1.out
      have r0 := hk0z.c 0
      have r1 := hk0z.c 1
      have r2 := hk0z.c 2
      have r3 := hk0z.c 3
      have r4 := hk0z.c 4
      have r5 := hk0z.c 5
      have r6 := hk0z.c 6
      have x0 := hk1z.c 0
      have x1 := hk1z.c 1
      have x2 := hk1z.c 2
      have x3 := hk1z.c 3
      have x4 := hk1z.c 4
      have x5 := hk1z.c 5
      have x6 := hk1z.c 6
      have rf : ∀ o, w7.frozen? ⟨s, o, none⟩ = false := fun o => hk0z.frozen o
      have HRZ := Lib.hid (RRef.no (bs := bs) (w := w) (k := 5) HSZ.out HC.out HB.out)
      have HKZ := Lib.hid (Blk.seven hk0z false false false false false false none 0 0)
      clear hk0z hk1z
      go_wp2_with (first
        | (with_reducible refine store_seven (s := s) _ _ _ _ _ _ _ _ _ (by with_unfolding_all rfl) (by with_unfolding_all rfl) r0 r1 r2 r3 r4 r5 r6 rf ?_
           generalize (World.setCell _ _ _) = wz at HRZ HKZ ⊢)
        | (with_reducible refine bodyPost_ret ?_ ?_ HRZ.out
           rotate_left
           · rfl
           · exact rsread_results rfl rfl HKZ.out))
    case false =>
      have HQF : Hid (badF (btN bs 0) = false) := Lib.hid (by rw [HF.out]; exact hq)
      clear hq
      go_upto_region 8 with fail
      by_cases hn2 : n = 1
      · have hd1 : ((n : Int) == 1) = true := by rw [hn2]; rfl
        have HC := Lib.hid (code_hdr (k := 4) (hdr_c (by rw [HLEN.out]; exact hn2) HQF.out))
        clear hn2 c0
        have hk0z := HK0.out
        have hk1z := HK1.out
        have r0 := hk0z.c 0
        have r1 := hk0z.c 1
        have r2 := hk0z.c 2
        have r3 := hk0z.c 3
        have r4 := hk0z.c 4
        have r5 := hk0z.c 5
        have r6 := hk0z.c 6
        have x0 := hk1z.c 0
        have x1 := hk1z.c 1
        have x2 := hk1z.c 2
        have x3 := hk1z.c 3
        have x4 := hk1z.c 4
        have x5 := hk1z.c 5
        have x6 := hk1z.c 6
        have rf : ∀ o, w7.frozen? ⟨s, o, none⟩ = false := fun o => hk0z.frozen o
        have HRZ := Lib.hid (RRef.no (bs := bs) (w := w) (k := 4) HSZ.out HC.out HB.out)
        have HKZ := Lib.hid (Blk.seven hk0z false false false false false false none 0 0)
        clear hk0z hk1z
        go_wp2_with (first
          | (with_reducible refine store_seven (s := s) _ _ _ _ _ _ _ _ _ (by with_unfolding_all rfl) (by with_unfolding_all rfl) r0 r1 r2 r3 r4 r5 r6 rf ?_
             generalize (World.setCell _ _ _) = wz at HRZ HKZ ⊢)
          | (with_reducible refine bodyPost_ret ?_ ?_ HRZ.out
             rotate_left
             · rfl
             · exact rsread_results rfl rfl HKZ.out))
      have hd1 : ((n : Int) == 1) = false := by simp; omega
      have hn3 : 1 < n := by omega
      have hn3i : (1 : Int) < (n : Int) := by omega
      have c1 := HCELL.out 1 hn3
      obtain ⟨q3, q4⟩ := HBY.out.lt 1
      obtain ⟨l, hl⟩ : ∃ l, btN bs 1 = l := ⟨_, rfl⟩
      rw [hl] at q3 q4
      rw [q4] at c1
      have HL0 := Lib.hid hl
      have hwL : IntKind.i64.wrap (l : Int) = (l : Int) := IntWalk.i64_in _ (by omega)
      have HN1 : Hid (1 < bs.length) := Lib.hid (by rw [HLEN.out]; exact hn3)
      clear hl q4 hn2
      go_upto_region 11 with fail
      obtain ⟨D2, hD2⟩ : ∃ D, decide (69 < (l : Int)) = D := ⟨_, rfl⟩
      obtain ⟨G, hG⟩ : ∃ G, decide (0 < (l : Int)) = G := ⟨_, rfl⟩
      have hG2 : decide (0 < l) = G := by rw [← hG, decide_eq_decide]; omega
      have hD2f : decide (69 < l) = D2 := by rw [← hD2, decide_eq_decide]; omega
      have HBL : Hid (badL f l = (D2 || (G && !PL))) := Lib.hid (by unfold badL; rw [hD2f, hG2, HQf.out])
      clear hD2f
      go_cut [61] (fun v wx => v = .bool (badL f l) ∧ w7 = wx)
      case first =>
        as_aux_lemma =>
          have hcase : D2 = true ∨ (D2 = false ∧ G = false) ∨ (D2 = false ∧ G = true) := by cases D2 <;> cases G <;> simp
          rcases hcase with rfl | ⟨rfl, rfl⟩ | ⟨rfl, rfl⟩
          all_goals
            go_wp2_with fail
            go_meet
            exact ⟨by rw [HBL.out]; rfl, rfl⟩
      case rest =>
        obtain ⟨rfl, rfl⟩ := hcut
        clear hD2
        rcases hq : badL f l with _ | _
        case true =>
          have HC := Lib.hid (code_hdr (k := 5) (hdr_d HN1.out HQF.out (by rw [HF.out, HL0.out]; exact hq)))
          clear hq c0 c1
          have hk0z := HK0.out
          have hk1z := HK1.out
          have r0 := hk0z.c 0
          have r1 := hk0z.c 1
          have r2 := hk0z.c 2
          have r3 := hk0z.c 3
          have r4 := hk0z.c 4
          have r5 := hk0z.c 5
          have r6 := hk0z.c 6
          have x0 := hk1z.c 0
          have x1 := hk1z.c 1
          have x2 := hk1z.c 2
          have x3 := hk1z.c 3
          have x4 := hk1z.c 4
          have x5 := hk1z.c 5
          have x6 := hk1z.c 6
          have rf : ∀ o, w7.frozen? ⟨s, o, none⟩ = false := fun o => hk0z.frozen o
          have HRZ := Lib.hid (RRef.no (bs := bs) (w := w) (k := 5) HSZ.out HC.out HB.out)
          have HKZ := Lib.hid (Blk.seven hk0z false false false false false false none 0 0)
          clear hk0z hk1z
          go_wp2_with (first
            | (with_reducible refine store_seven (s := s) _ _ _ _ _ _ _ _ _ (by with_unfolding_all rfl) (by with_unfolding_all rfl) r0 r1 r2 r3 r4 r5 r6 rf ?_
               generalize (World.setCell _ _ _) = wz at HRZ HKZ ⊢)
            | (with_reducible refine bodyPost_ret ?_ ?_ HRZ.out
               rotate_left
               · rfl
               · exact rsread_results rfl rfl HKZ.out))
        case false =>
          have HQL : Hid (badL (btN bs 0) (btN bs 1) = false) := Lib.hid (by rw [HF.out, HL0.out]; exact hq)
          clear hq
          by_cases hn4 : n = 2
          · have hd2 : ((n : Int) == 2) = true := by rw [hn4]; rfl
            have HC := Lib.hid (code_hdr (k := 4) (hdr_e (by rw [HLEN.out]; exact hn4) HQF.out HQL.out))
            clear hn4 c0 c1
            have hk0z := HK0.out
            have hk1z := HK1.out
            have r0 := hk0z.c 0
            have r1 := hk0z.c 1
            have r2 := hk0z.c 2
            have r3 := hk0z.c 3
            have r4 := hk0z.c 4
            have r5 := hk0z.c 5
            have r6 := hk0z.c 6
            have x0 := hk1z.c 0
            have x1 := hk1z.c 1
            have x2 := hk1z.c 2
            have x3 := hk1z.c 3
            have x4 := hk1z.c 4
            have x5 := hk1z.c 5
            have x6 := hk1z.c 6
            have rf : ∀ o, w7.frozen? ⟨s, o, none⟩ = false := fun o => hk0z.frozen o
            have HRZ := Lib.hid (RRef.no (bs := bs) (w := w) (k := 4) HSZ.out HC.out HB.out)
            have HKZ := Lib.hid (Blk.seven hk0z false false false false false false none 0 0)
            clear hk0z hk1z
            go_wp2_with (first
              | (with_reducible refine store_seven (s := s) _ _ _ _ _ _ _ _ _ (by with_unfolding_all rfl) (by with_unfolding_all rfl) r0 r1 r2 r3 r4 r5 r6 rf ?_
                 generalize (World.setCell _ _ _) = wz at HRZ HKZ ⊢)
              | (with_reducible refine bodyPost_ret ?_ ?_ HRZ.out
                 rotate_left
                 · rfl
                 · exact rsread_results rfl rfl HKZ.out))
          have hd2 : ((n : Int) == 2) = false := by simp; omega
          have hn5 : 2 < n := by omega
          have hn5i : (2 : Int) < (n : Int) := by omega
          have c2 := HCELL.out 2 hn5
          obtain ⟨q5, q6⟩ := HBY.out.lt 2
          obtain ⟨m, hm⟩ : ∃ m, btN bs 2 = m := ⟨_, rfl⟩
          rw [hm] at q5 q6
          rw [q6] at c2
          have HM0 := Lib.hid hm
          have hwM : IntKind.i64.wrap (m : Int) = (m : Int) := IntWalk.i64_in _ (by omega)
          have HN2 : Hid (2 < bs.length) := Lib.hid (by rw [HLEN.out]; exact hn5)
          clear hm q6 hn4
          obtain ⟨t, ht⟩ : ∃ t, l + m = t := ⟨_, rfl⟩
          have hmlt : (m : Int) + (l : Int) = (t : Int) := by omega
          have hltm : (l : Int) + (m : Int) = (t : Int) := by omega
          have w1' : IntKind.i64.wrap (t : Int) = (t : Int) := IntWalk.i64_in _ (by omega)
          have HT := Lib.hid ht
          go_upto_region 16 with fail
          obtain ⟨D3, hD3⟩ : ∃ D, decide (70 < (t : Int)) = D := ⟨_, rfl⟩
          obtain ⟨R, hR⟩ : ∃ G, decide (0 < (m : Int)) = G := ⟨_, rfl⟩
          have hR2 : decide (0 < m) = R := by rw [← hR, decide_eq_decide]; omega
          have hZ : ((m : Int) == 0) = !R := by rw [← hR, Bool.eq_iff_iff]; simp only [beq_iff_eq, Bool.not_eq_true', decide_eq_false_iff_not]; omega
          have hD3f : decide (70 < l + m) = D3 := by rw [← hD3, decide_eq_decide]; omega
          have hZf : decide (m = 0) = !R := by rw [← hZ, Bool.eq_iff_iff]; simp only [beq_iff_eq, decide_eq_true_eq]; omega
          have HBM : Hid (badM f l m = ((D3 || (R && !PL)) || (!R && (G || P)))) := Lib.hid (by unfold badM; rw [hD3f, hR2, HQf.out, hZf, hG2, HPf.out])
          clear hD3f hZf
          go_cut [93] (fun v wx => v = .bool (badM f l m) ∧ w7 = wx)
          case first =>
            as_aux_lemma =>
              have hcase : D3 = true ∨ (D3 = false ∧ R = true ∧ PL = true) ∨ (D3 = false ∧ R = true ∧ PL = false) ∨ (D3 = false ∧ R = false ∧ G = true) ∨ (D3 = false ∧ R = false ∧ G = false) := by
                cases D3 <;> cases R <;> cases PL <;> cases G <;> simp
              rcases hcase with rfl | ⟨rfl, rfl, rfl⟩ | ⟨rfl, rfl, rfl⟩ | ⟨rfl, rfl, rfl⟩ | ⟨rfl, rfl, rfl⟩
              · go_wp2_with fail
                go_meet
                exact ⟨by rw [HBM.out]; rfl, rfl⟩
              · replace hZ : ((m : Int) == 0) = false := hZ
                go_wp2_with fail
                go_meet
                exact ⟨by rw [HBM.out]; rfl, rfl⟩
              · replace hZ : ((m : Int) == 0) = false := hZ
                go_wp2_with fail
                go_meet
                exact ⟨by rw [HBM.out]; rfl, rfl⟩
              · replace hZ : ((m : Int) == 0) = true := hZ
                go_wp2_with fail
                go_meet
                exact ⟨by rw [HBM.out]; rfl, rfl⟩
              · replace hZ : ((m : Int) == 0) = true := hZ
                go_wp2_with fail
                go_meet
                exact ⟨by rw [HBM.out]; rfl, rfl⟩
          case rest =>
            obtain ⟨rfl, rfl⟩ := hcut
            clear hD3 hR hR2 hZ hG hG2
            rcases hq : badM f l m with _ | _
            case true =>
              have HC := Lib.hid (code_hdr (k := 5) (hdr_f HN2.out HQF.out HQL.out (by rw [HF.out, HL0.out, HM0.out]; exact hq)))
              clear hq c0 c1 c2
              have hk0z := HK0.out
              have hk1z := HK1.out
              have r0 := hk0z.c 0
              have r1 := hk0z.c 1
              have r2 := hk0z.c 2
              have r3 := hk0z.c 3
              have r4 := hk0z.c 4
              have r5 := hk0z.c 5
              have r6 := hk0z.c 6
              have x0 := hk1z.c 0
              have x1 := hk1z.c 1
              have x2 := hk1z.c 2
              have x3 := hk1z.c 3
              have x4 := hk1z.c 4
              have x5 := hk1z.c 5
              have x6 := hk1z.c 6
              have rf : ∀ o, w7.frozen? ⟨s, o, none⟩ = false := fun o => hk0z.frozen o
              have HRZ := Lib.hid (RRef.no (bs := bs) (w := w) (k := 5) HSZ.out HC.out HB.out)
              have HKZ := Lib.hid (Blk.seven hk0z false false false false false false none 0 0)
              clear hk0z hk1z
              go_wp2_with (first
                | (with_reducible refine store_seven (s := s) _ _ _ _ _ _ _ _ _ (by with_unfolding_all rfl) (by with_unfolding_all rfl) r0 r1 r2 r3 r4 r5 r6 rf ?_
                   generalize (World.setCell _ _ _) = wz at HRZ HKZ ⊢)
                | (with_reducible refine bodyPost_ret ?_ ?_ HRZ.out
                   rotate_left
                   · rfl
                   · exact rsread_results rfl rfl HKZ.out))
            case false =>
              have hqm : badM (btN bs 0) (btN bs 1) (btN bs 2) = false := by rw [HF.out, HL0.out, HM0.out]; exact hq
              have hh := hdr_g HN2.out HQF.out HQL.out hqm
              obtain ⟨hs1, hs2, -⟩ := hdr_says HQF.out HQL.out hqm
              rw [HF.out] at hs1
              rw [HL0.out, HM0.out] at hs2
              have HC : Hid (codeN bs = bodyN bs m m 0) := Lib.hid (by unfold codeN; rw [hh, if_pos rfl, HM0.out])
              have HS1 := Lib.hid hs1
              clear hq hqm hh hs1 c1 c2
              go_wp2_with (at_make; refine make_arr .u32 24 34 4 info_u32 (by decide) Tryz.underlying24 rfl _ _ rfl .i64 .i64 _ _ t _ rfl rfl (by omega) (by omega) (by omega) ?_)
              intro w2 harr hb2 hsz2
              have HB2 := Lib.hid (HB.out.trans (hb2.mono (HSZ.out ▸ HB.out.size)))
              have HKA := Lib.hid (HK0.out.below hb2 HK0.out.lt)
              have HKB := Lib.hid (HK1.out.below hb2 HK1.out.lt)
              obtain ⟨g, hg⟩ : ∃ g, w7.heap.size = g := ⟨_, rfl⟩
              have HG : Hid (s + 1 < g) := Lib.hid (by rw [← hg]; exact HK1.out.lt)
              rw [hg] at harr ⊢
              have HA2 := Lib.hid harr
              clear harr hb2 hsz2 hg hba c0
              go_wp2_with fail
              go_loopg [11] m (fun gg i wr => ∃ k : Nat, i = .int .i64 (k : Int) ∧ k + gg = m ∧ Arr .u32 34 wr g (magN bs l m k) ∧ bodyN bs m (m - k) k = codeN bs ∧ Below s w wr ∧ Blk wr s 89 #[.bool false, .bool false, .bool false, .bool false, .bool false, .bool false, .slice none 0 0] ∧ Blk wr (s + 1) 89 #[.bool false, .bool false, .bool false, .bool false, .bool false, .bool false, .slice none 0 0])
              case atStart => exact ⟨0, rfl, by omega, by rw [magN_zero, HT.out]; exact HA2.out, by rw [Nat.sub_zero]; exact HC.out.symm, HB2.out, HKA.out, HKB.out⟩
              case round =>
                obtain ⟨i, rfl, hk, harr, hbd, hb, hka, hkb⟩ := hrel
                have HK := Lib.hid hk
                have HBD := Lib.hid hbd
                have HBW := Lib.hid hb
                have HAR := Lib.hid harr
                have HKC := Lib.hid hka
                have HKD := Lib.hid hkb
                clear harr hbd hb HA2 HB2 HKA HKB hka hkb
                obtain ⟨wo, rfl⟩ : ∃ wo : World, wo = wr := ⟨_, rfl⟩
                by_cases hlt : i < m
                · have hkd : decide (i < m) = true := decide_eq_true (by omega)
                  have HLT := Lib.hid hlt
                  have him : i ≤ 70 := by omega
                  clear hk hlt
                  go_wp2_with fail
                  go_loopg [12] 4 (fun gg j wx => ∃ k2 : Nat, j = .int .i64 (k2 : Int) ∧ k2 + gg = 4 ∧ Arr .u32 34 wx g ((magN bs l m i).set (t - 1 - i) ((wdK bs i k2 : Nat) : Int)) ∧ (k2 = 0 ∨ 3 + 4 * i + k2 ≤ n) ∧ Below s w wx ∧ Blk wx s 89 #[.bool false, .bool false, .bool false, .bool false, .bool false, .bool false, .slice none 0 0] ∧ Blk wx (s + 1) 89 #[.bool false, .bool false, .bool false, .bool false, .bool false, .bool false, .slice none 0 0])
                  case atStart => exact ⟨0, rfl, by omega, by rw [magN_start HT.out HLT.out]; exact HAR.out, .inl rfl, HBW.out, HKC.out, HKD.out⟩
                  case round =>
                    obtain ⟨k2, rfl, hk2, harr2, hle, hb3, hk3a, hk3b⟩ := hrel
                    have HA3 := Lib.hid harr2
                    have HB3 := Lib.hid hb3
                    have HLE := Lib.hid hle
                    have HK3A := Lib.hid hk3a
                    have HK3B := Lib.hid hk3b
                    have hdig := magN_len bs l m i
                    clear hle hk3a hk3b HKC HKD
                    by_cases hlt2 : k2 < 4
                    · have hkd2 : decide ((k2 : Int) < 4) = true := decide_eq_true (by omega)
                      have HK2 := Lib.hid hk2
                      have hk3 : k2 ≤ 3 := by omega
                      have HLT2 := Lib.hid hlt2
                      obtain ⟨p, hp⟩ : ∃ p, 3 + 4 * i + k2 = p := ⟨_, rfl⟩
                      have hpi : 3 + 4 * (i : Int) + (k2 : Int) = (p : Int) := by omega
                      have HP := Lib.hid hp
                      clear hk2 hlt2
                      go_upto_region 26 with fail
                      by_cases hpn : p < n
                      · have hpd : decide (n ≤ p) = false := decide_eq_false (by omega)
                        have HPN := Lib.hid hpn
                        obtain ⟨q, hq⟩ : ∃ q, t - 1 - i = q := ⟨_, rfl⟩
                        have hlt := HLT.out
                        have hqt : q < t := by have := HT.out; omega
                        have hqi : (t : Int) - 1 - (i : Int) = (q : Int) := by have := HT.out; omega
                        have HQ := Lib.hid hq
                        rw [hq] at harr2
                        have cg := harr2.cell (i := q) (by rw [List.length_set, hdig, HT.out]; exact hqt)
                        rw [getD_set_self (by rw [hdig, HT.out]; exact hqt)] at cg
                        obtain ⟨cur, hcur⟩ : ∃ cur, wdK bs i k2 = cur := ⟨_, rfl⟩
                        have hcl := wdK_lt HBY.out i k2
                        have hcl2 : (256 : Nat) ^ k2 ≤ 256 ^ 3 := Nat.pow_le_pow_right (by decide) hk3
                        have hcl3 : cur < 16777216 := by rw [← hcur]; exact Nat.lt_of_lt_of_le hcl hcl2
                        rw [hcur] at cg
                        have HCUR := Lib.hid hcur
                        obtain ⟨hB0, hB1⟩ := HBY.out.lt p
                        obtain ⟨b', o', he, hba, hcc⟩ := (HROW.out _ HB3.out).at hpn
                        cases he
                        have cb := hcc p hpn
                        rw [hB1] at cb
                        obtain ⟨B, hBe⟩ : ∃ B, btN bs p = B := ⟨_, rfl⟩
                        rw [hBe] at cb hB0
                        have HBE := Lib.hid hBe
                        have hgf : ∀ o, wr.frozen? ⟨g, o, none⟩ = false := fun o => HA3.out.frozen o
                        have hb3s : g < wr.heap.size := HA3.out.lt
                        have w2' : IntKind.i64.wrap ((t : Int) - 1) = (t : Int) - 1 := IntWalk.i64_in _ (by omega)
                        have w3' : IntKind.i64.wrap (q : Int) = (q : Int) := IntWalk.i64_in _ (by omega)
                        have hqn : (q : Int) < (t : Int) := by omega
                        have hpn2 : (p : Int) < (n : Int) := by omega
                        have w4' : IntKind.u32.wrap (B : Int) = (B : Int) := by simp only [IntKind.wrap, IntKind.bits, IntKind.signed]; simp; omega
                        clear hcc hBe hb3 harr2 hcl hcl2 hB1 hq hp hcur hlt hdig
                        go_wp2_with fail
                        refine wp_regionN (fun w' => w'.cell? ⟨g, q, none⟩ = some (.int .u32 (cur : Int)) ∧ w'.cell? ⟨ba, oa + p, none⟩ = some (.int .u8 (B : Int))) [24] (by kernel_rfl) (by exact ⟨cg, cb⟩) (fun hHeld => ?_)
                        refine wpAnyN_u 0 ⟨some 118, _, _, _, _, _⟩ _ rfl ?_
                        try simp only [Act.put, putA, putB, putC]
                        refine wpAnyN_u 1 ⟨some 119, _, _, _, _, _⟩ _ rfl ?_
                        try simp only [Act.put, putA, putB, putC]
                        refine wpAnyN_u 2 ⟨some 120, _, _, _, _, _⟩ _ rfl ?_
                        try simp only [Act.put, putA, putB, putC]
                        refine wpAnyN_u 3 ⟨some 121, _, _, _, _, _⟩ _ rfl ?_
                        try simp only [Act.put, putA, putB, putC]
                        refine wpAnyN_u 4 ⟨some 122, _, _, _, _, _⟩ _ rfl ?_
                        try simp only [Act.put, putA, putB, putC]
                        refine wpAnyN_u 5 ⟨some 123, _, _, _, _, _⟩ _ rfl ?_
                        try simp only [Act.put, putA, putB, putC]
                        refine wpAnyN_u 6 ⟨some 124, _, _, _, _, _⟩ _ rfl ?_
                        try simp only [Act.put, putA, putB, putC]
                        refine wpAnyN_u 7 ⟨some 125, _, _, _, _, _⟩ _ rfl ?_
                        try simp only [Act.put, putA, putB, putC]
                        refine wpAnyN_u 8 ⟨some 126, _, _, _, _, _⟩ _ rfl ?_
                        try simp only [Act.put, putA, putB, putC]
                        refine wpAnyN_u 9 ⟨some 127, _, _, _, _, _⟩ _ rfl ?_
                        try simp only [Act.put, putA, putB, putC]
                        refine wpAnyN_u 10 ⟨some 128, _, _, _, _, _⟩ _ rfl ?_
                        try simp only [Act.put, putA, putB, putC]
                        refine wpAnyN_u 11 ⟨some 129, _, _, _, _, _⟩ _ rfl ?_
                        try simp only [Act.put, putA, putB, putC]
                        refine wpAnyN_u 12 ⟨some 130, _, _, _, _, _⟩ _ rfl ?_
                        try simp only [Act.put, putA, putB, putC]
                        refine wpAnyN_u 13 ⟨some 131, _, _, _, _, _⟩ _ rfl ?_
                        try simp only [Act.put, putA, putB, putC]
                        refine wpAnyN_u 14 ⟨some 132, _, _, _, _, _⟩ _ rfl ?_
                        try simp only [Act.put, putA, putB, putC]
                        refine wpAnyN_u 15 ⟨some 133, _, _, _, _, _⟩ _ rfl ?_
                        try simp only [Act.put, putA, putB, putC]
                        refine wpAnyN_u 16 ⟨some 134, _, _, _, _, _⟩ _ rfl ?_
                        try simp only [Act.put, putA, putB, putC]
                        refine wpAnyN_u 17 ⟨some 135, _, _, _, _, _⟩ _ rfl ?_
                        try simp only [Act.put, putA, putB, putC]
                        refine wpAnyN_u 18 ⟨some 136, _, _, _, _, _⟩ _ rfl ?_
                        try simp only [Act.put, putA, putB, putC]
                        refine wpAnyN_u 19 ⟨some 137, _, _, _, _, _⟩ _ rfl ?_
                        try simp only [Act.put, putA, putB, putC]
                        refine wpAnyN_u 20 ⟨some 138, _, _, _, _, _⟩ _ rfl ?_
                        try simp only [Act.put, putA, putB, putC]
                        refine wpAnyN_u 21 ⟨some 139, _, _, _, _, _⟩ _ rfl ?_
                        try simp only [Act.put, putA, putB, putC]
                        refine wpAnyN_u 22 ⟨some 140, _, _, _, _, _⟩ _ rfl ?_
                        try simp only [Act.put, putA, putB, putC]
                        refine wpAnyN_u 23 ⟨some 141, _, _, _, _, _⟩ _ rfl ?_
                        try simp only [Act.put, putA, putB, putC]
                        refine wpAnyN_late (i := 24) (o := ⟨none, _, _, _, _, _⟩) (by kernel_rfl) (by kernel_rfl) rfl (fun K hK => ?_)
                        go_simp
                        refine hK.out _ _ ?_
                        clear hK K
                        try simp only [Act.put, putA, putB, putC]
                        refine wpAnyN_end (by kernel_rfl) ?_
                        have hor : IntKind.u32.wrap (IntKind.u32.wrap ((cur : Int) * 256) + (B : Int)) = ((wdK bs i (k2 + 1) : Nat) : Int) := by
                          rw [show IntKind.u32.wrap ((cur : Int) * 256) = (cur : Int) * 256 from IntWalk.u32_in _ (by omega), show IntKind.u32.wrap ((cur : Int) * 256 + (B : Int)) = (cur : Int) * 256 + (B : Int) from IntWalk.u32_in _ (by omega)]
                          show _ = ((wdK bs i k2 * 256 + btN bs (3 + 4 * i + k2) : Nat) : Int)
                          rw [HP.out, HBE.out, HCUR.out]
                          omega
                        rw [hor]
                        clear hor hHeld
                        have hkw : IntKind.i64.wrap ((k2 : Int) + 1) = (k2 : Int) + 1 := IntWalk.i64_in _ (by omega)
                        go_wp2_with fail
                        go_roundg (gk - 1)
                        case measure => have := HLT2.out; have := HK2.out; omega
                        case rel => exact ⟨k2 + 1, rfl, by have := HLT2.out; have := HK2.out; omega, by have h := HA3.out.set q ((wdK bs i (k2 + 1) : Nat) : Int); rw [HQ.out] at h ⊢; rw [List.set_set] at h; exact h, .inr (by have := HP.out; have := HPN.out; omega), (HB3.out.setCell (Nat.le_of_lt (Nat.lt_of_succ_lt HG.out)) _).drew, (HK3A.out.far (by have := HG.out; show s ≠ g; omega) _).drew, (HK3B.out.far (by have := HG.out; show s + 1 ≠ g; omega) _).drew⟩
                      · have hpd : decide (n ≤ p) = true := decide_eq_true (by omega)
                        have HC5 : Hid (codeN bs = 4 + 1) := Lib.hid (by rw [← HBD.out]; exact body_short HLT.out (by rw [HLEN.out]; have := HP.out; omega))
                        clear hpn harr2
                        as_aux_lemma =>
                          have hk0z := HK3A.out
                          have hk1z := HK3B.out
                          have r0 := hk0z.c 0
                          have r1 := hk0z.c 1
                          have r2 := hk0z.c 2
                          have r3 := hk0z.c 3
                          have r4 := hk0z.c 4
                          have r5 := hk0z.c 5
                          have r6 := hk0z.c 6
                          have x0 := hk1z.c 0
                          have x1 := hk1z.c 1
                          have x2 := hk1z.c 2
                          have x3 := hk1z.c 3
                          have x4 := hk1z.c 4
                          have x5 := hk1z.c 5
                          have x6 := hk1z.c 6
                          have rf : ∀ o, wr.frozen? ⟨s, o, none⟩ = false := fun o => hk0z.frozen o
                          have HRZ := Lib.hid (RRef.no (bs := bs) (w := w) (k := 4) HSZ.out HC5.out HB3.out)
                          have HKZ := Lib.hid (Blk.seven hk0z false false false false false false none 0 0)
                          clear hk0z hk1z
                          go_wp2_with (first
                            | (with_reducible refine store_seven (s := s) _ _ _ _ _ _ _ _ _ (by with_unfolding_all rfl) (by with_unfolding_all rfl) r0 r1 r2 r3 r4 r5 r6 rf ?_
                               generalize (World.setCell _ _ _) = wz at HRZ HKZ ⊢)
                            | (with_reducible refine bodyPost_ret ?_ ?_ HRZ.out
                               rotate_left
                               · rfl
                               · exact rsread_results rfl rfl HKZ.out))
                    · have hkd2 : decide ((k2 : Int) < 4) = false := decide_eq_false (by omega)
                      have hk4 : k2 = 4 := by omega
                      subst hk4
                      have hlt := HLT.out
                      have htm := HT.out
                      have hA4 : Arr .u32 34 wr g (magN bs l m (i + 1)) := by rw [← magN_set hlt, htm]; exact HA3.out
                      have hm4 := magN_len bs l m (i + 1)
                      obtain ⟨q, hq⟩ : ∃ q, t - 1 - i = q := ⟨_, rfl⟩
                      have ca := hA4.cell (i := q) (by rw [hm4]; omega)
                      rw [magN_get (by omega), if_pos (by omega), show l + m - 1 - q = i from by omega] at ca
                      have hqi : (t : Int) - 1 - (i : Int) = (q : Int) := by omega
                      have w2' : IntKind.i64.wrap ((t : Int) - 1) = (t : Int) - 1 := IntWalk.i64_in _ (by omega)
                      have w2'' : IntKind.i64.wrap (q : Int) = (q : Int) := IntWalk.i64_in _ (by omega)
                      have hqn : (q : Int) < (t : Int) := by omega
                      obtain ⟨r, hr⟩ : ∃ r, m - 1 = r := ⟨_, rfl⟩
                      have hri : (m : Int) - 1 = (r : Int) := by omega
                      have w3' : IntKind.i64.wrap (r : Int) = (r : Int) := IntWalk.i64_in _ (by omega)
                      have HA4 := Lib.hid hA4
                      have HR2 := Lib.hid hr
                      have hle2 : 3 + 4 * i + 4 ≤ n := by
                        rcases HLE.out with h | h
                        · omega
                        · exact h
                      have HLE2 := Lib.hid hle2
                      clear hlt2 hk2 harr2 hkd2 hA4 hm4 hlt htm hle2 HA3 HLE
                      go_upto_region 29 with fail
                      go_cut [161] (fun v wx => v = .bool (decide ((i = 0 ∨ i + 1 = m) ∧ wdN bs i = 0)) ∧ wr = wx)
                      case first =>
                        as_aux_lemma =>
                          obtain ⟨zz, hzz⟩ : ∃ zz, (((wdN bs i : Nat) : Int) == 0) = zz := ⟨_, rfl⟩
                          have HZZ : Hid (decide (wdN bs i = 0) = zz) := Lib.hid (by rw [← hzz, Bool.eq_iff_iff]; simp only [decide_eq_true_eq, beq_iff_eq]; omega)
                          by_cases hi0 : i = 0
                          · have HI0 := Lib.hid hi0
                            have hid0 : ((i : Int) == 0) = true := by simp; omega
                            clear hi0
                            go_wp2_with fail
                            go_meet
                            exact ⟨by rw [← HZZ.out]; congr 1; rw [decide_eq_decide]; exact ⟨fun h => ⟨.inl HI0.out, h⟩, fun h => h.2⟩, rfl⟩
                          · have HI0 := Lib.hid hi0
                            have hid0 : ((i : Int) == 0) = false := by simp; omega
                            by_cases hir : i = r
                            · have hird : ((i : Int) == (r : Int)) = true := by simp; omega
                              have HIR : Hid (i + 1 = m) := Lib.hid (by have := HR2.out; have := HLT.out; omega)
                              clear hi0 hir
                              go_wp2_with fail
                              go_meet
                              exact ⟨by rw [← HZZ.out]; congr 1; rw [decide_eq_decide]; exact ⟨fun h => ⟨.inr HIR.out, h⟩, fun h => h.2⟩, rfl⟩
                            · have hird : ((i : Int) == (r : Int)) = false := by simp; omega
                              have HIR : Hid (i + 1 ≠ m) := Lib.hid (by have := HR2.out; have := HLT.out; omega)
                              clear hi0 hir ca
                              go_wp2_with fail
                              go_meet
                              exact ⟨by rw [decide_eq_false (fun h => by rcases h.1 with h | h; exact HI0.out h; exact HIR.out h)], rfl⟩
                      case rest =>
                        obtain ⟨rfl, rfl⟩ := hcut
                        clear ca
                        rcases hf : (decide ((i = 0 ∨ i + 1 = m) ∧ wdN bs i = 0)) with _ | _
                        case true =>
                          have HC6 : Hid (codeN bs = 5 + 1) := Lib.hid (by rw [← HBD.out]; exact body_form HLT.out (by rw [HLEN.out]; have := HLE2.out; omega) (of_decide_eq_true hf))
                          clear hf
                          as_aux_lemma =>
                            have hk0z := HK3A.out
                            have hk1z := HK3B.out
                            have r0 := hk0z.c 0
                            have r1 := hk0z.c 1
                            have r2 := hk0z.c 2
                            have r3 := hk0z.c 3
                            have r4 := hk0z.c 4
                            have r5 := hk0z.c 5
                            have r6 := hk0z.c 6
                            have x0 := hk1z.c 0
                            have x1 := hk1z.c 1
                            have x2 := hk1z.c 2
                            have x3 := hk1z.c 3
                            have x4 := hk1z.c 4
                            have x5 := hk1z.c 5
                            have x6 := hk1z.c 6
                            have rf : ∀ o, wr.frozen? ⟨s, o, none⟩ = false := fun o => hk0z.frozen o
                            have HRZ := Lib.hid (RRef.no (bs := bs) (w := w) (k := 5) HSZ.out HC6.out HB3.out)
                            have HKZ := Lib.hid (Blk.seven hk0z false false false false false false none 0 0)
                            clear hk0z hk1z
                            go_wp2_with (first
                              | (with_reducible refine store_seven (s := s) _ _ _ _ _ _ _ _ _ (by with_unfolding_all rfl) (by with_unfolding_all rfl) r0 r1 r2 r3 r4 r5 r6 rf ?_
                                 generalize (World.setCell _ _ _) = wz at HRZ HKZ ⊢)
                              | (with_reducible refine bodyPost_ret ?_ ?_ HRZ.out
                                 rotate_left
                                 · rfl
                                 · exact rsread_results rfl rfl HKZ.out))
                        case false =>
                          have HBN : Hid (bodyN bs m (m - (i + 1)) (i + 1) = codeN bs) := Lib.hid (by rw [← HBD.out]; exact (body_next HLT.out (by rw [HLEN.out]; have := HLE2.out; omega) (of_decide_eq_false hf)).symm)
                          clear hf
                          have him2 : IntKind.i64.wrap ((i : Int) + 1) = (i : Int) + 1 := IntWalk.i64_in _ (by omega)
                          go_wp2_with fail
                          go_roundg (m - i - 1)
                          case measure => have := HLT.out; have := HK.out; omega
                          case rel => exact ⟨i + 1, rfl, by have := HLT.out; omega, HA4.out, HBN.out, HB3.out, HK3A.out, HK3B.out⟩
                · have hkd : decide (i < m) = false := decide_eq_false hlt
                  obtain rfl : i = m := by omega
                  have hbd := HBD.out
                  rw [Nat.sub_self] at hbd
                  unfold bodyN at hbd
                  by_cases h7 : 3 + 4 * i < n
                  · have h7d : decide (3 + 4 * (i : Int) < (n : Int)) = true := decide_eq_true (by omega)
                    rw [if_pos (by rw [HLEN.out]; exact h7)] at hbd
                    have HC7 : Hid (codeN bs = 6 + 1) := Lib.hid hbd.symm
                    clear hbd h7 hlt hk
                    as_aux_lemma =>
                      have hk0z := HKC.out
                      have hk1z := HKD.out
                      have r0 := hk0z.c 0
                      have r1 := hk0z.c 1
                      have r2 := hk0z.c 2
                      have r3 := hk0z.c 3
                      have r4 := hk0z.c 4
                      have r5 := hk0z.c 5
                      have r6 := hk0z.c 6
                      have x0 := hk1z.c 0
                      have x1 := hk1z.c 1
                      have x2 := hk1z.c 2
                      have x3 := hk1z.c 3
                      have x4 := hk1z.c 4
                      have x5 := hk1z.c 5
                      have x6 := hk1z.c 6
                      have rf : ∀ o, wo.frozen? ⟨s, o, none⟩ = false := fun o => hk0z.frozen o
                      have HRZ := Lib.hid (RRef.no (bs := bs) (w := w) (k := 6) HSZ.out HC7.out HBW.out)
                      have HKZ := Lib.hid (Blk.seven hk0z false false false false false false none 0 0)
                      clear hk0z hk1z
                      go_wp2_with (first
                        | (with_reducible refine store_seven (s := s) _ _ _ _ _ _ _ _ _ (by with_unfolding_all rfl) (by with_unfolding_all rfl) r0 r1 r2 r3 r4 r5 r6 rf ?_
                           generalize (World.setCell _ _ _) = wz at HRZ HKZ ⊢)
                        | (with_reducible refine bodyPost_ret ?_ ?_ HRZ.out
                           rotate_left
                           · rfl
                           · exact rsread_results rfl rfl HKZ.out))
                  · have h7d : decide (3 + 4 * (i : Int) < (n : Int)) = false := decide_eq_false (by omega)
                    rw [if_neg (by rw [HLEN.out]; exact h7)] at hbd
                    have HC0 : Hid (codeN bs = 0) := Lib.hid hbd.symm
                    clear hbd h7 hlt hk
                    have hfull := HAR.out.full (by rw [magN_len]; omega)
                    rw [magN_len, HT.out] at hfull
                    obtain ⟨vv, hvv⟩ : ∃ vv, V 4294967296 (magN bs l i i) = vv := ⟨_, rfl⟩
                    have HZO : Hid (zOf bs = if P = true then -vv else vv) := Lib.hid (by
                      unfold zOf
                      rw [HF.out, HL0.out, HM0.out, hvv, ← HPf.out]
                      by_cases h : f / 32 = 1
                      · rw [if_pos h, if_pos (decide_eq_true h)]
                      · rw [if_neg h, if_neg (by rw [decide_eq_false h]; decide)])
                    have HCALL : Hid (Calls Tryz.prog 54 #[.slice (some ⟨g, 0, none⟩) t t] wo (RetNum wo vv)) := Lib.hid (by rw [← hvv]; exact rnum_any _ t t _ wo hfull (magN_dig HBY.out l i i) (by have := HT.out; have := hs2; omega))
                    clear hfull hvv
                    have hfl := flags_read f (by have := HS1.out; omega)
                    rw [hPL] at hfl
                    obtain ⟨q0, hq0⟩ : ∃ q, ((f : Int) % 2 == 1) = q := ⟨_, rfl⟩
                    obtain ⟨q1, hq1⟩ : ∃ q, ((f : Int) / 2 % 2 == 1) = q := ⟨_, rfl⟩
                    obtain ⟨q2, hq2⟩ : ∃ q, ((f : Int) / 4 % 2 == 1) = q := ⟨_, rfl⟩
                    obtain ⟨q3, hq3⟩ : ∃ q, ((f : Int) / 8 % 2 == 1) = q := ⟨_, rfl⟩
                    rw [hq0, hq1, hq2, hq3] at hfl
                    have HQ7 : Hid (rsCells (bOf bs) = fun ng a l c => #[.bool q0, .bool q1, .bool q2, .bool q3, .bool PL, .bool ng, .slice a l c]) := Lib.hid (by
                      have hbf : bOf bs = f % 32 := by unfold bOf; rw [HF.out]
                      rw [hbf]; funext ng a l c; unfold rsCells
                      rw [← hfl.1, ← hfl.2.1, ← hfl.2.2.1, ← hfl.2.2.2.1, ← hfl.2.2.2.2])
                    clear hfl
                    go_wp2_with fail
                    refine HCALL.out.mono ?_; rintro e w5 ⟨ng, a2, l2, c2, rfl, hN, hb5, -⟩
                    have HB5 := Lib.hid (HBW.out.trans (hb5.mono (HSZ.out ▸ HBW.out.size)))
                    have hk5a := HKC.out.below hb5 (Nat.lt_of_lt_of_le HKC.out.lt (Nat.le_refl _))
                    have hk5 := HKD.out.below hb5 HKD.out.lt
                    have HK6 := Lib.hid (Blk.seven hk5 q0 q1 q2 q3 PL ng a2 l2 c2)
                    have HN6 := Lib.hid (NumC.seven hk5 hN q0 q1 q2 q3 PL ng a2 l2 c2)
                    have hbs := below_set7 HB5.out (Nat.le_succ s) (.bool q0) (.bool q1) (.bool q2) (.bool q3) (.bool PL) (.bool ng) (.slice a2 l2 c2)
                    have HB6 := Lib.hid hbs
                    have HK6A := Lib.hid (hk5a.far7 (by omega : s ≠ s + 1) (.bool q0) (.bool q1) (.bool q2) (.bool q3) (.bool PL) (.bool ng) (.slice a2 l2 c2))
                    have hk5f : ∀ o, w5.frozen? ⟨s + 1, o, none⟩ = false := fun o => hk5.frozen o
                    have x0 := hk5.c 0
                    have x1 := hk5.c 1
                    have x2 := hk5.c 2
                    have x3 := hk5.c 3
                    have x4 := hk5.c 4
                    have x5 := hk5.c 5
                    have x6 := hk5.c 6
                    clear hk5 hk5a hb5 hN hbs HBW HKC HKD HAR HCALL
                    go_upto_region 34 with (with_reducible refine store_seven (s := s + 1) _ _ _ _ _ _ _ _ _ (by with_unfolding_all rfl) (by with_unfolding_all rfl) x0 x1 x2 x3 x4 x5 x6 hk5f ?_)
                    generalize (World.setCell _ _ _) = w6 at HK6 HN6 HB6 HK6A ⊢
                    clear hq0 hq1 hq2 hq3 x0 x1 x2 x3 x4 x5 x6 hk5f
                    cases P with
                    | false =>
                      as_aux_lemma =>
                        have hkA := HK6A.out
                        have hkB := HK6.out
                        have r0 := hkA.c 0
                        have r1 := hkA.c 1
                        have r2 := hkA.c 2
                        have r3 := hkA.c 3
                        have r4 := hkA.c 4
                        have r5 := hkA.c 5
                        have r6 := hkA.c 6
                        have y0 := hkB.c 0
                        have y1 := hkB.c 1
                        have y2 := hkB.c 2
                        have y3 := hkB.c 3
                        have y4 := hkB.c 4
                        have y5 := hkB.c 5
                        have y6 := hkB.c 6
                        have rf : ∀ o, w6.frozen? ⟨s, o, none⟩ = false := fun o => hkA.frozen o
                        have HRZ := Lib.hid (RRef.ok (bs := bs) HSZ.out HC0.out HB6.out hkA HN6.out (by rw [HZO.out]; exact (if_neg (by decide)).symm) HQ7.out)
                        have HKZ := Lib.hid (Blk.seven hkA q0 q1 q2 q3 PL ng a2 l2 c2)
                        clear hkA hkB
                        go_wp2_with (first
                          | (with_reducible refine store_seven (s := s) _ _ _ _ _ _ _ _ _ (by with_unfolding_all rfl) (by with_unfolding_all rfl) r0 r1 r2 r3 r4 r5 r6 rf ?_
                             generalize (World.setCell _ _ _) = wz at HRZ HKZ ⊢)
                          | (with_reducible refine bodyPost_ret ?_ ?_ HRZ.out
                             rotate_left
                             · rfl
                             · exact rsread_results rfl rfl HKZ.out))
                    | true =>
                      as_aux_lemma =>
                        have hk := HK6.out
                        have y0 := hk.c 0
                        have y1 := hk.c 1
                        have y2 := hk.c 2
                        have y3 := hk.c 3
                        have y4 := hk.c 4
                        have y5 := hk.c 5
                        have y6 := hk.c 6
                        have hkf : ∀ o, w6.frozen? ⟨s + 1, o, none⟩ = false := fun o => hk.frozen o
                        clear hk
                        go_wp2_with fail
                        refine (neg_any ng a2 l2 c2 vv _ HN6.out).mono ?_; rintro e w7 ⟨ng7, a7, l7, c7, rfl, hN7, hb7, -⟩
                        have HB7 := Lib.hid (HB6.out.trans (hb7.mono (HSZ.out ▸ HB6.out.size)))
                        have hk7 := HK6.out.below hb7 HK6.out.lt
                        have hk7a := HK6A.out.below hb7 HK6A.out.lt
                        have k1 : Blk (w7.setCell ⟨s + 1, 5, none⟩ (.bool ng7)) (s + 1) 89 #[.bool q0, .bool q1, .bool q2, .bool q3, .bool PL, .bool ng7, .slice a2 l2 c2] := (hk7.set_ 5 (.bool ng7)).to rfl
                        have k2 : Blk ((w7.setCell ⟨s + 1, 5, none⟩ (.bool ng7)).setCell ⟨s + 1, 6, none⟩ (.slice a7 l7 c7)) (s + 1) 89 #[.bool q0, .bool q1, .bool q2, .bool q3, .bool PL, .bool ng7, .slice a7 l7 c7] := (k1.set_ 6 (.slice a7 l7 c7)).to rfl
                        have n1 : NumC (w7.setCell ⟨s + 1, 5, none⟩ (.bool ng7)) ng7 a7 l7 c7 (-vv) := NumC.set hN7 (hk7.cell 5) (fun _ e => by cases e) _
                        have n2 : NumC ((w7.setCell ⟨s + 1, 5, none⟩ (.bool ng7)).setCell ⟨s + 1, 6, none⟩ (.slice a7 l7 c7)) ng7 a7 l7 c7 (-vv) := NumC.set n1 (k1.cell 6) (fun _ e => by cases e) _
                        have HK8 := Lib.hid k2
                        have HN8 := Lib.hid n2
                        have HB8 := Lib.hid ((HB7.out.setCell (p := ⟨s + 1, 5, none⟩) (Nat.le_succ s) (.bool ng7)).setCell (p := ⟨s + 1, 6, none⟩) (Nat.le_succ s) (.slice a7 l7 c7))
                        have HK8A := Lib.hid ((hk7a.far (p := ⟨s + 1, 5, none⟩) (by show s ≠ s + 1; omega) (.bool ng7)).far (p := ⟨s + 1, 6, none⟩) (by show s ≠ s + 1; omega) (.slice a7 l7 c7))
                        have e5 := hk7.c 5
                        have e6 := hk7.c 6
                        have hkf7 : ∀ o, w7.frozen? ⟨s + 1, o, none⟩ = false := fun o => hk7.frozen o
                        clear hk7 hk7a k1 k2 n1 n2 hN7 hb7 HK6 HN6 HB6 HK6A y0 y1 y2 y3 y4 y5 y6
                        go_upto_region 36 with fail
                        generalize (World.setCell _ _ _) = w8 at HK8 HN8 HB8 HK8A ⊢
                        clear e5 e6 hkf hkf7
                        as_aux_lemma =>
                          have hkA := HK8A.out
                          have hkB := HK8.out
                          have r0 := hkA.c 0
                          have r1 := hkA.c 1
                          have r2 := hkA.c 2
                          have r3 := hkA.c 3
                          have r4 := hkA.c 4
                          have r5 := hkA.c 5
                          have r6 := hkA.c 6
                          have y0 := hkB.c 0
                          have y1 := hkB.c 1
                          have y2 := hkB.c 2
                          have y3 := hkB.c 3
                          have y4 := hkB.c 4
                          have y5 := hkB.c 5
                          have y6 := hkB.c 6
                          have rf : ∀ o, w8.frozen? ⟨s, o, none⟩ = false := fun o => hkA.frozen o
                          have HRZ := Lib.hid (RRef.ok (bs := bs) HSZ.out HC0.out HB8.out hkA HN8.out (by rw [HZO.out]; exact (if_pos trivial).symm) HQ7.out)
                          have HKZ := Lib.hid (Blk.seven hkA q0 q1 q2 q3 PL ng7 a7 l7 c7)
                          clear hkA hkB
                          go_wp2_with (first
                            | (with_reducible refine store_seven (s := s) _ _ _ _ _ _ _ _ _ (by with_unfolding_all rfl) (by with_unfolding_all rfl) r0 r1 r2 r3 r4 r5 r6 rf ?_
                               generalize (World.setCell _ _ _) = wz at HRZ HKZ ⊢)
                            | (with_reducible refine bodyPost_ret ?_ ?_ HRZ.out
                               rotate_left
                               · rfl
                               · exact rsread_results rfl rfl HKZ.out))
end Go.Proofs.YtehmompbmnejkaaGreat
