/- Which sum bytes are, by definition (plain). No conditions. -/
import Derived.Test.YtgdddpbdcdheeaaExT
namespace Go.Proofs.Ytgdddpbdcdheeaa
open Go.RowKit Ieee

/-- byte number i -/
def btN (bs : List Int) (i : Nat) : Nat := (bs.getD i 0).toNat
/-- what the first k bytes of word i come to -/
def wdK (bs : List Int) (i : Nat) : Nat → Nat
  | 0 => 0
  | k + 1 => wdK bs i k * 256 + btN bs (3 + 4 * i + k)
def wdN (bs : List Int) (i : Nat) : Nat := wdK bs i 4
def badF (f : Nat) : Bool := decide (63 < f) || (decide (f / 32 = 1) && decide (f / 16 % 2 = 0))
def badL (f l : Nat) : Bool := decide (69 < l) || (decide (0 < l) && decide (f / 16 % 2 = 0))
def badM (f l m : Nat) : Bool := decide (70 < l + m) || (decide (0 < m) && decide (f / 16 % 2 = 0)) || (decide (m = 0) && (decide (0 < l) || decide (f / 32 = 1)))
def hdrN (bs : List Int) : Nat :=
  if bs.length = 0 then 5 else if badF (btN bs 0) = true then 6 else if bs.length = 1 then 5 else if badL (btN bs 0) (btN bs 1) = true then 6 else if bs.length = 2 then 5
  else if badM (btN bs 0) (btN bs 1) (btN bs 2) = true then 6 else 0
/-- from word i on, g words being left of m -/
def bodyN (bs : List Int) (m : Nat) : Nat → Nat → Nat
  | 0, _ => if 3 + 4 * m < bs.length then 7 else 0
  | g + 1, i => if bs.length < 3 + 4 * i + 4 then 5 else if (i = 0 ∨ i + 1 = m) ∧ wdN bs i = 0 then 6 else bodyN bs m g (i + 1)
/-- the error -/
def codeN (bs : List Int) : Nat := if hdrN bs = 0 then bodyN bs (btN bs 2) (btN bs 2) 0 else hdrN bs
/-- the words, of which i have been read -/
def magN (bs : List Int) (l m i : Nat) : List Int := (List.range (l + m)).map fun j => if l + m ≤ j + i then (wdN bs (l + m - 1 - j) : Int) else 0
def zOf (bs : List Int) : Int :=
  if btN bs 0 / 32 = 1 then -V 4294967296 (magN bs (btN bs 1) (btN bs 2) (btN bs 2)) else V 4294967296 (magN bs (btN bs 1) (btN bs 2) (btN bs 2))
def bOf (bs : List Int) : Nat := btN bs 0 % 32
def Byt (bs : List Int) : Prop := ∀ x ∈ bs, 0 ≤ x ∧ x < 256

theorem Byt.lt {bs : List Int} (h : Byt bs) (i : Nat) : btN bs i < 256 ∧ bs.getD i 0 = (btN bs i : Int) := by
  unfold btN
  by_cases hi : i < bs.length
  · have := h _ (getD_mem (xs := bs) (i := i) hi)
    omega
  · have e : bs.getD i 0 = 0 := by rw [List.getD_eq_getElem?_getD, List.getElem?_eq_none (by omega)]; rfl
    rw [e]; decide
theorem wdK_lt {bs : List Int} (h : Byt bs) (i : Nat) : ∀ k, wdK bs i k < 256 ^ k
  | 0 => by show 0 < _; decide
  | k + 1 => by
    have h1 := wdK_lt h i k
    have h2 := (h.lt (3 + 4 * i + k)).1
    show wdK bs i k * 256 + btN bs (3 + 4 * i + k) < _
    rw [Nat.pow_succ]
    omega
theorem wdN_lt {bs : List Int} (h : Byt bs) (i : Nat) : wdN bs i < 4294967296 := wdK_lt h i 4
theorem magN_len (bs : List Int) (l m i : Nat) : (magN bs l m i).length = l + m := by simp [magN]
theorem magN_get {bs : List Int} {l m i j : Nat} (h : j < l + m) : (magN bs l m i).getD j 0 = if l + m ≤ j + i then (wdN bs (l + m - 1 - j) : Int) else 0 := by
  unfold magN
  rw [List.getD_eq_getElem?_getD, List.getElem?_map, List.getElem?_range h]
  rfl
theorem magN_zero (bs : List Int) (l m : Nat) : magN bs l m 0 = List.replicate (l + m) 0 := by
  refine List.ext_getElem (by simp [magN]) fun j h1 h2 => ?_
  simp [magN] at h1 ⊢
  intro h; omega
theorem magN_set {bs : List Int} {l m i : Nat} (h : i < m) : (magN bs l m i).set (l + m - 1 - i) (wdN bs i : Int) = magN bs l m (i + 1) := by
  refine List.ext_getElem (by simp [magN]) fun j h1 h2 => ?_
  have hj : j < l + m := by simpa [magN] using h2
  rw [List.getElem_set]
  by_cases hji : l + m - 1 - i = j
  · rw [if_pos hji]
    simp only [magN, List.getElem_map, List.getElem_range]
    rw [if_pos (by omega), show l + m - 1 - j = i from by omega]
  · rw [if_neg hji]
    simp only [magN, List.getElem_map, List.getElem_range]
    by_cases h3 : l + m ≤ j + i
    · rw [if_pos h3, if_pos (by omega)]
    · rw [if_neg h3, if_neg (by omega)]
theorem magN_dig {bs : List Int} (h : Byt bs) (l m i : Nat) : Dig 4294967296 (magN bs l m i) := by
  intro x hx
  simp only [magN, List.mem_map, List.mem_range] at hx
  obtain ⟨j, hj, rfl⟩ := hx
  split
  · have := wdN_lt h (l + m - 1 - j); omega
  · decide
/-- all is well from word i on -/
theorem body_ok {bs : List Int} {m : Nat} : ∀ {g i : Nat}, g + i = m → bodyN bs m g i = 0 → (∀ j, i ≤ j → j < m → (j = 0 ∨ j + 1 = m) → wdN bs j ≠ 0) ∧ bs.length ≤ 3 + 4 * m ∧ (i < m → 3 + 4 * m ≤ bs.length)
  | 0, i, hg, h => by
    unfold bodyN at h
    by_cases h1 : 3 + 4 * m < bs.length
    · rw [if_pos h1] at h; omega
    · exact ⟨fun j h2 h3 => by omega, by omega, fun h2 => by omega⟩
  | g + 1, i, hg, h => by
    unfold bodyN at h
    by_cases h1 : bs.length < 3 + 4 * i + 4
    · rw [if_pos h1] at h; omega
    · rw [if_neg h1] at h
      by_cases h2 : (i = 0 ∨ i + 1 = m) ∧ wdN bs i = 0
      · rw [if_pos h2] at h; omega
      · rw [if_neg h2] at h
        obtain ⟨k1, k2, k3⟩ := body_ok (g := g) (i := i + 1) (by omega) h
        refine ⟨fun j h3 h4 h5 => ?_, k2, fun h3 => ?_⟩
        · by_cases hji : j = i
          · subst hji; exact fun h6 => h2 ⟨h5, h6⟩
          · exact k1 j (by omega) h4 h5
        · by_cases h4 : i + 1 < m
          · exact k3 h4
          · omega
theorem tail_bytes {bs : List Int} (hb : Byt bs) {l m : Nat} (hl : bs.length = 3 + 4 * m) : ∀ j, j ≤ m → tailB (magN bs l m m) j = (bs.drop 3).take (4 * j)
  | 0, _ => by rw [Nat.mul_zero, List.take_zero]; rfl
  | j + 1, hj => by
    show tailB (magN bs l m m) j ++ be4 ((magN bs l m m).getD ((magN bs l m m).length - 1 - j) 0) = _
    rw [tail_bytes hb hl j (by omega), magN_len, magN_get (by omega), if_pos (by omega), show l + m - 1 - (l + m - 1 - j) = j from by omega]
    have h0 := hb.lt (3 + 4 * j)
    have h1 := hb.lt (3 + 4 * j + 1)
    have h2 := hb.lt (3 + 4 * j + 2)
    have h3 := hb.lt (3 + 4 * j + 3)
    have hw : (wdN bs j : Int) = ((bs.getD (3 + 4 * j) 0 * 256 + bs.getD (3 + 4 * j + 1) 0) * 256 + bs.getD (3 + 4 * j + 2) 0) * 256 + bs.getD (3 + 4 * j + 3) 0 := by
      have : wdN bs j = ((btN bs (3 + 4 * j) * 256 + btN bs (3 + 4 * j + 1)) * 256 + btN bs (3 + 4 * j + 2)) * 256 + btN bs (3 + 4 * j + 3) := by
        show (((0 * 256 + btN bs (3 + 4 * j + 0)) * 256 + btN bs (3 + 4 * j + 1)) * 256 + btN bs (3 + 4 * j + 2)) * 256 + btN bs (3 + 4 * j + 3) = _
        rw [Nat.zero_mul, Nat.zero_add, Nat.add_zero]
      rw [this, h0.2, h1.2, h2.2, h3.2]
      omega
    have hbe : be4 (wdN bs j : Int) = [bs.getD (3 + 4 * j) 0, bs.getD (3 + 4 * j + 1) 0, bs.getD (3 + 4 * j + 2) 0, bs.getD (3 + 4 * j + 3) 0] := by
      unfold be4
      rw [hw]
      congr 1
      · omega
      congr 1
      · omega
      congr 1
      · omega
      congr 1
      omega
    rw [hbe, show 4 * (j + 1) = 4 * j + 1 + 1 + 1 + 1 from by omega]
    have step : ∀ q, q < 4 * m → (bs.drop 3).take (q + 1) = (bs.drop 3).take q ++ [bs.getD (3 + q) 0] := fun q hq => by
      rw [List.take_succ_eq_append_getElem (by rw [List.length_drop]; omega), List.getElem_drop]
      simp [List.getD_eq_getElem?_getD, show 3 + q < bs.length from by omega]
    rw [step (4 * j + 1 + 1 + 1) (by omega), step (4 * j + 1 + 1) (by omega), step (4 * j + 1) (by omega), step (4 * j) (by omega)]
    simp [Nat.add_assoc]
theorem hdr_ok {bs : List Int} (h : hdrN bs = 0) : 3 ≤ bs.length ∧ badF (btN bs 0) = false ∧ badL (btN bs 0) (btN bs 1) = false ∧ badM (btN bs 0) (btN bs 1) (btN bs 2) = false := by
  unfold hdrN at h
  by_cases h0 : bs.length = 0
  · rw [if_pos h0] at h; omega
  rw [if_neg h0] at h
  by_cases h1 : badF (btN bs 0) = true
  · rw [if_pos h1] at h; omega
  rw [if_neg h1] at h
  by_cases h2 : bs.length = 1
  · rw [if_pos h2] at h; omega
  rw [if_neg h2] at h
  by_cases h3 : badL (btN bs 0) (btN bs 1) = true
  · rw [if_pos h3] at h; omega
  rw [if_neg h3] at h
  by_cases h4 : bs.length = 2
  · rw [if_pos h4] at h; omega
  rw [if_neg h4] at h
  by_cases h5 : badM (btN bs 0) (btN bs 1) (btN bs 2) = true
  · rw [if_pos h5] at h; omega
  refine ⟨by omega, ?_, ?_, ?_⟩ <;> simp_all
/-- what the header of good bytes says -/
theorem hdr_says {f l m : Nat} (hf : badF f = false) (hl : badL f l = false) (hm : badM f l m = false) : f ≤ 63 ∧ l + m ≤ 70 ∧ (f / 32 = 1 → 0 < m ∧ 16 ≤ f % 32) ∧ (m = 0 → l = 0) ∧ (0 < m → 16 ≤ f % 32) := by
  unfold badF at hf
  unfold badL at hl
  unfold badM at hm
  simp only [Bool.or_eq_false_iff, Bool.and_eq_false_iff, decide_eq_false_iff_not] at hf hl hm
  omega
theorem codeN_ok {bs : List Int} (h : codeN bs = 0) : hdrN bs = 0 ∧ bodyN bs (btN bs 2) (btN bs 2) 0 = 0 := by
  unfold codeN at h
  by_cases h1 : hdrN bs = 0
  · rw [if_pos h1] at h; exact ⟨h1, h⟩
  · rw [if_neg h1] at h; exact absurd h h1
/-- good bytes are a sum's bytes -/
theorem read_ok {bs : List Int} (hb : Byt bs) (h : codeN bs = 0) : IsBytes (bOf bs) (zOf bs) bs ∧ bOf bs < 32 ∧ (zOf bs).natAbs < ROOM ∧ Plus (bOf bs) (zOf bs) ∧
    Trimmed (magN bs (btN bs 1) (btN bs 2) (btN bs 2)) ∧ V 4294967296 (magN bs (btN bs 1) (btN bs 2) (btN bs 2)) = (((zOf bs).natAbs : Nat) : Int) ∧ decide (btN bs 0 / 32 = 1) = decide (zOf bs < 0) := by
  obtain ⟨h1, h2⟩ := codeN_ok h
  obtain ⟨hl, hf, hL, hM⟩ := hdr_ok h1
  obtain ⟨q1, q2, q3, q4, q5⟩ := hdr_says hf hL hM
  have h0 := hb.lt 0
  have h01 := hb.lt 1
  have h02 := hb.lt 2
  obtain ⟨f, hf0⟩ : ∃ f, btN bs 0 = f := ⟨_, rfl⟩
  obtain ⟨l, hl0⟩ : ∃ l, btN bs 1 = l := ⟨_, rfl⟩
  obtain ⟨m, hm0⟩ : ∃ m, btN bs 2 = m := ⟨_, rfl⟩
  have hzd : zOf bs = if f / 32 = 1 then -V 4294967296 (magN bs l m m) else V 4294967296 (magN bs l m m) := by unfold zOf; rw [hf0, hl0, hm0]
  have hbd : bOf bs = f % 32 := by unfold bOf; rw [hf0]
  rw [hf0] at h0 q1 q3 q5
  rw [hl0] at h01 q2 q4
  rw [hm0] at h02 q2 q3 q4 q5 h2
  rw [hl0, hm0]
  obtain ⟨w1, w2, w3⟩ := body_ok (by omega) h2
  have hlen : bs.length = 3 + 4 * m := by
    rcases Nat.eq_zero_or_pos m with h | h
    · omega
    · have := w3 h; omega
  have hdig := magN_dig hb l m m
  have hlm := magN_len bs l m m
  have htr : Trimmed (magN bs l m m) := by
    rcases Nat.eq_zero_or_pos m with h | h
    · left
      exact List.eq_nil_of_length_eq_zero (by rw [hlm]; have := q4 h; omega)
    · right
      rw [hlm, magN_get (by omega), if_pos (by omega), show l + m - 1 - (l + m - 1) = 0 from by omega]
      have := w1 0 (by omega) h (.inl rfl)
      omega
  have hV0 := (V_bd (B := 4294967296) (by decide) hdig)
  have hpos : 0 < m → 0 < V 4294967296 (magN bs l m m) := fun hm => by
    have hne : magN bs l m m ≠ [] := fun e => by rw [e] at hlm; simp at hlm; omega
    have := V_ge (B := 4294967296) (by decide) hdig htr hne
    have h2 : (0 : Int) < 4294967296 ^ ((magN bs l m m).length - 1) := Int.pow_pos (by decide)
    omega
  have hnz : m = 0 → V 4294967296 (magN bs l m m) = 0 := fun hm => by
    have : magN bs l m m = [] := List.eq_nil_of_length_eq_zero (by rw [hlm]; have := q4 hm; omega)
    rw [this]; rfl
  have hab : V 4294967296 (magN bs l m m) = (((zOf bs).natAbs : Nat) : Int) := by rw [hzd]; split <;> omega
  have hsg : decide (f / 32 = 1) = decide (zOf bs < 0) := by
    rw [hzd]
    by_cases h : f / 32 = 1
    · rw [if_pos h, decide_eq_true h]
      have := hpos (q3 h).1
      exact (decide_eq_true (by omega)).symm
    · rw [if_neg h, decide_eq_false h]
      exact (decide_eq_false (by omega)).symm
  have hroom : (zOf bs).natAbs < ROOM := by
    obtain ⟨k, hk, hr⟩ := room_words
    have h3 := hV0.2
    rw [hlm, hab] at h3
    rw [hr]
    have h4 : (4294967296 : Nat) ^ (l + m) ≤ 4294967296 ^ k := Nat.pow_le_pow_right (by decide) (by omega)
    have h6 : ((4294967296 ^ (l + m) : Nat) : Int) = 4294967296 ^ (l + m) := by rw [Int.natCast_pow]; rfl
    have h5 : ((4294967296 ^ k : Nat) : Int) = 4294967296 ^ k := by rw [Int.natCast_pow]; rfl
    omega
  refine ⟨⟨magN bs l m m, l, hdig, htr, hab, ⟨by omega, fun j hj => ?_, fun hj => ?_⟩, ?_⟩, by omega, hroom, fun hz => ?_, htr, hab, by rw [hf0]; exact hsg⟩
  · rw [magN_get (by omega), if_neg (by omega)]
  · rw [magN_get (by omega), if_pos (by omega), show l + m - 1 - l = m - 1 from by omega]
    have := w1 (m - 1) (by omega) (by omega) (.inr (by omega))
    omega
  · rw [hlm, show l + m - l = m from by omega, tail_bytes hb hlen m (Nat.le_refl _), List.take_of_length_le (by rw [List.length_drop]; omega)]
    have e1 : bs = bs.take 3 ++ bs.drop 3 := (List.take_append_drop 3 bs).symm
    have e2 : bs.take 3 = [bs.getD 0 0, bs.getD 1 0, bs.getD 2 0] := by
      have step : ∀ q, q < bs.length → bs.take (q + 1) = bs.take q ++ [bs.getD q 0] := fun q hq => by
        rw [List.take_succ_eq_append_getElem hq]
        simp [List.getD_eq_getElem?_getD, hq]
      rw [show 3 = 0 + 1 + 1 + 1 from rfl, step (0 + 1 + 1) (by omega), step (0 + 1) (by omega), step 0 (by omega)]
      simp
    have e3 : bOf bs + (if zOf bs < 0 then 32 else 0) = f := by
      rw [hbd]
      have := decide_eq_decide.1 hsg
      by_cases h : f / 32 = 1
      · rw [if_pos (this.1 h)]; omega
      · rw [if_neg (fun h3 => h (this.2 h3))]; omega
    rw [e3, ← h0.2, ← h01.2, ← h02.2, ← e2]
    exact e1
  · rw [hbd]
    refine q5 ?_
    rcases Nat.eq_zero_or_pos m with h | h
    · have := hnz h
      omega
    · exact h
end Go.Proofs.Ytgdddpbdcdheeaa
