/- Contract of package nat's Text. Conditions: the words are below 2^32; at most 40000 of them. -/
import Derived.Test.YtgdddpbdcdheeaaMNatB
import Derived.Laws.BytesArg
import Derived.BigRegion
namespace Go.Proofs.Ytgdddpbdcdheeaa
open Go.RowKit

theorem info_u8 : (Try.prog.info? 5).map (fun i => (i.zero, i.size, i.bytes)) = some (some (.int .u8 0), 1, 1) := by kernel_rfl

/-- digits as bytes -/
def chars (ds : List Int) : List Int := ds.map (48 + ·)
theorem chars_len (ds : List Int) : (chars ds).length = ds.length := by simp [chars]
theorem chars_snoc (ds : List Int) (d : Int) : chars ds ++ [48 + d] = chars (ds ++ [d]) := by simp [chars]
/-- s is X in decimal digits -/
def IsText (X : Int) (s : ByteArray) : Prop := ∃ ds, Dig 10 ds ∧ Trimmed ds ∧ V 10 ds = X ∧ s = (if ds = [] then ⟨#[48]⟩ else strOfNums (chars ds).reverse)
theorem IsText.one {X : Int} {s t : ByteArray} (h : IsText X s) (k : IsText X t) : s = t := by
  obtain ⟨a, a1, a2, a3, rfl⟩ := h
  obtain ⟨b, b1, b2, b3, rfl⟩ := k
  rw [V_inj (B := 10) (by decide) a1 b1 a2 b2 (a3.trans b3.symm)]

/-- one digit more -/
theorem text_step {ds : List Int} {r Q X : Int} {k : Nat} (hk : k < 9) (hv : V 10 ds + 10 ^ ds.length * (r + 10 ^ (9 - k) * Q) = X) :
    V 10 (ds ++ [r % 10]) + 10 ^ (ds ++ [r % 10]).length * (r / 10 + 10 ^ (9 - (k + 1)) * Q) = X := by
  rw [V_snoc, List.length_append, List.length_singleton, Int.pow_succ]
  have e : (10 : Int) ^ (9 - k) = 10 * 10 ^ (9 - (k + 1)) := by
    rw [show 9 - k = 9 - (k + 1) + 1 from by omega, Int.pow_succ, Int.mul_comm]
  rw [e] at hv
  generalize (10 : Int) ^ (9 - (k + 1)) = P at *
  generalize (10 : Int) ^ ds.length = L at *
  have e2 : r = r % 10 + 10 * (r / 10) := (Int.emod_add_mul_ediv r 10).symm
  have e3 : L * (r + 10 * P * Q) = r % 10 * L + L * 10 * (r / 10 + P * Q) := by
    rw [Int.mul_add (L * 10), Int.mul_assoc L 10 (P * Q), Int.mul_assoc L 10 (r / 10), Int.mul_comm (r % 10), ← Int.mul_assoc 10 P Q]
    rw [← Int.mul_add, ← Int.mul_add]
    congr 1
    omega
  omega
theorem text_len {ds : List Int} {z X : Int} {n : Nat} (hd : Dig 10 ds) (hz : 1 ≤ z) (hv : V 10 ds + 10 ^ ds.length * z = X) (hX : X < 4294967296 ^ n) : ds.length < 32 * n := by
  have h0 := (V_bd (B := 10) (by decide) hd).1
  have hp : (0 : Int) < 10 ^ ds.length := Int.pow_pos (by decide)
  have h1 : (10 : Int) ^ ds.length * 1 ≤ 10 ^ ds.length * z := Int.mul_le_mul_of_nonneg_left hz (by omega)
  have h2 : (2 : Int) ^ ds.length ≤ 10 ^ ds.length := by
    have : ∀ n : Nat, (2 : Int) ^ n ≤ 10 ^ n := fun n => by
      induction n with
      | zero => simp
      | succ n ih =>
        rw [Int.pow_succ, Int.pow_succ]
        have : (0 : Int) < 2 ^ n := Int.pow_pos (by decide)
        omega
    exact this _
  have e : (4294967296 : Int) ^ n = 2 ^ (32 * n) := by rw [Int.pow_mul]; rfl
  rcases Nat.lt_or_ge ds.length (32 * n) with h | h
  · exact h
  · have : (2 : Int) ^ (32 * n) ≤ 2 ^ ds.length := ipow_le (by decide) h
    omega
theorem pow_le10 {k : Nat} : (1 : Int) ≤ 10 ^ k := Int.pow_pos (by decide)

theorem text_less {r : Int} {k : Nat} (hk : k < 9) (h : r < 10 ^ (9 - k)) : r / 10 < 10 ^ (9 - (k + 1)) := by
  rw [show 9 - k = 9 - (k + 1) + 1 from by omega, Int.pow_succ] at h
  exact Int.ediv_lt_of_lt_mul (by decide) (by omega)
theorem text_trim {ds : List Int} {Q r : Int} (h : Q = 0 → 0 < r) : Q = 0 → r / 10 = 0 → Trimmed (ds ++ [r % 10]) := fun h1 h2 => .inr (by
  rw [List.length_append, List.length_singleton, Nat.add_sub_cancel, getD_snoc]
  have := h h1
  omega)
theorem text_exit {ds : List Int} {Q r X : Int} {k : Nat} (hk : k ≤ 9) (hr : 0 ≤ r) (hr1 : r < 10 ^ (9 - k)) (hv : V 10 ds + 10 ^ ds.length * (r + 10 ^ (9 - k) * Q) = X) (ht : Q = 0 → r = 0 → Trimmed ds) (h : k < 9 → Q = 0 ∧ r = 0) :
    V 10 ds + 10 ^ ds.length * Q = X ∧ (Q = 0 → Trimmed ds) := by
  by_cases h9 : k < 9
  · obtain ⟨h1, h2⟩ := h h9
    rw [h1, h2, Int.mul_zero, Int.add_zero, Int.mul_zero] at hv
    rw [h1, Int.mul_zero]
    exact ⟨hv, fun _ => ht h1 h2⟩
  · have e : 9 - k = 0 := by omega
    rw [e, Int.pow_zero] at hv hr1
    have e2 : r = 0 := by omega
    rw [e2, Int.zero_add, Int.one_mul] at hv
    exact ⟨hv, fun h1 => ht h1 e2⟩
theorem OwnK.blk {k : IntKind} {w : World} {B n : Nat} {e : TypeId} {v : Value} {xs : List Int} (h : OwnK k w B e v n xs) (hn : 0 < n) : ∃ g cap, v = .slice (some ⟨g, 0, none⟩) n cap ∧ ArrP k e w g xs ∧ B ≤ g ∧ n ≤ cap ∧ cap ≤ 9223372036854775807 := by
  rcases h.2 with ⟨h1, h2⟩ | ⟨g, cap, cur, rfl, hg, hh, h3, h4, h5, h6⟩
  · omega
  · exact ⟨g, cap, rfl, OwnK.part h, hg, h3, h4⟩
theorem NatC.grown {w w' : World} {a : Option Addr} {n c : Nat} {z : Int} {row : Option Nat} (h : NatC w a n c z) (hg : w.grownBy w' row) (hne : c = 0 ∨ ∀ x, a = some x → some x.block ≠ row) : NatC w' a n c z := by
  obtain ⟨xs, h1, h2⟩ := h
  exact ⟨xs, h1.grown hg hne, h2⟩
/-- the own row v and the slice (a, .., c) lie apart -/
def Apart (v : Value) (a : Option Addr) (c : Nat) : Prop := c = 0 ∨ ∀ x, a = some x → some x.block ≠ v.ownBlock
theorem Apart.fresh {w : World} {B n : Nat} {e : TypeId} {k : IntKind} {v : Value} {xs : List Int} {a : Option Addr} {d2 : Nat} (h : OwnK k w B e v n xs) (hf : Fresh w.heap.size a) : Apart v a d2 :=
  .inr fun x hx he => by
    have h1 := hf x hx
    have h2 := (World.ownsRow.lt h _ he.symm).2
    omega
theorem Apart.grow {w : World} {a : Option Addr} {n c g m d : Nat} {z : Int} {v : Value} (h : Apart v a c) (hN : NatC w a n c z) (hg : v.ownBlock = some g ∨ w.heap.size ≤ g) : Apart (.slice (some ⟨g, 0, none⟩) m d) a c := by
  rcases h with h | h
  · exact .inl h
  · obtain ⟨xs, hr, -⟩ := hN
    rcases hr.lt with h1 | h1
    · exact .inl h1
    · refine .inr fun x hx he => ?_
      have h2 : x.block = g := by simpa [Value.ownBlock] using he
      rcases hg with h3 | h3
      · exact h x hx (by rw [h3, h2])
      · have := h1 x hx
        omega

theorem rev_of {cs bs : List Int} {L : Nat} (hc : cs.length = L) (hb : bs.length = L) (h : ∀ j, j < L → bs.getD j 0 = cs.getD (L - 1 - j) 0) : bs = cs.reverse := by
  apply List.ext_getElem (by rw [List.length_reverse, hc, hb])
  intro j h1 h2
  have h3 := h j (by omega)
  rw [List.getD_eq_getElem?_getD, List.getD_eq_getElem?_getD, List.getElem?_eq_getElem h1, List.getElem?_eq_getElem (by omega)] at h3
  rw [List.getElem_reverse]
  simpa [hc] using h3

/-- one exchange of a list's turning -/
theorem swap_step {cs bs : List Int} {L i k : Nat} {x y : Int} (hl : bs.length = L) (hlt : i + i + 1 < L) (hk : L - 1 - i = k) (hx : bs.getD i 0 = x) (hy : bs.getD k 0 = y) (h : ∀ j, j < L → bs.getD j 0 = if j < i ∨ L < j + i + 1 then cs.getD (L - 1 - j) 0 else cs.getD j 0) :
    ∀ j, j < L → ((bs.set i y).set k x).getD j 0 = if j < i + 1 ∨ L < j + (i + 1) + 1 then cs.getD (L - 1 - j) 0 else cs.getD j 0 := by
  intro j hj
  by_cases h1 : j = k
  · rw [h1, getD_set_self (by rw [List.length_set]; omega), if_pos (by omega), ← hx, h i (by omega), if_neg (by omega)]
    congr 1
    omega
  · rw [getD_set_ne (fun e => h1 e.symm)]
    by_cases h2 : j = i
    · rw [h2, getD_set_self (by omega), if_pos (by omega), ← hy, h k (by omega), if_neg (by omega), hk]
    · rw [getD_set_ne (fun e => h2 e.symm), h j hj]
      by_cases h3 : j < i ∨ L < j + i + 1
      · rw [if_pos h3, if_pos (by omega)]
      · rw [if_neg h3, if_neg (by omega)]

end Go.Proofs.Ytgdddpbdcdheeaa
