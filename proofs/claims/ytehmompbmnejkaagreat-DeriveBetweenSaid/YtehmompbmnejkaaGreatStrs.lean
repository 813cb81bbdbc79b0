/- What the walks say of slices of strings in memory, and plain lemmas on lists of strings. No conditions but those stated. -/
import Derived.Test.YtehmompbmnejkaaGreatProg
import Derived.WalkKit
import Derived.ProofKit
import Derived.WalkLawsBesides
import Derived.WalkSpells
import Derived.Lib.Strings
import Derived.Lib.Hide
import Derived.WalkSmall
import Derived.Deep.LoopGhost
import Derived.Deep.QuietTactic
import Derived.BigQuiet
import Derived.Deep.RegionHeld3
namespace Go.Proofs.YtehmompbmnejkaaGreat
open Go.RowKit

/-- the slice (a, n, cap) holds the strings xs -/
def RowS (w : World) (a : Option Addr) (n cap : Nat) (xs : List ByteArray) : Prop :=
 xs.length = n ∧ n ≤ cap ∧ cap ≤ maxLen ∧ (cap = 0 ∨ ∃ b off, a = some ⟨b, off, none⟩ ∧ b < w.heap.size ∧ ∀ i, i < n → w.cell? ⟨b, off + i, none⟩ = some (.string (xs.getD i ByteArray.empty)))

theorem RowS.below {w w' : World} {a : Option Addr} {n cap : Nat} {xs : List ByteArray} {B : Nat} (h : RowS w a n cap xs) (hb : Below B w w') (hB : w.heap.size ≤ B) : RowS w' a n cap xs := by
 obtain ⟨h1, h2, h3, h4⟩ := h
 refine ⟨h1, h2, h3, ?_⟩
 rcases h4 with h4 | ⟨b, off, e, hlt, hc⟩
 ·exact .inl h4
 ·refine .inr ⟨b, off, e, by have := hb.size; omega, fun i hi => ?_⟩
  rw [hb.cell (p := ⟨b, off + i, none⟩) (by show b < B; omega)]
  exact hc i hi

theorem getDs_take {xs : List ByteArray} {i m : Nat} (hi : i < m) : (xs.take m).getD i ByteArray.empty = xs.getD i ByteArray.empty := by
 rw [List.getD_eq_getElem?_getD, List.getElem?_take_of_lt hi, List.getD_eq_getElem?_getD]

theorem RowS.take {w : World} {a : Option Addr} {n cap : Nat} {xs : List ByteArray} (h : RowS w a n cap xs) {m : Nat} (hm : m ≤ n) : RowS w a m cap (xs.take m) := by
 obtain ⟨h1, h2, h3, h4⟩ := h
 refine ⟨by rw [List.length_take]; omega, by omega, h3, ?_⟩
 rcases h4 with h4 | ⟨b, off, e, hlt, hc⟩
 ·exact .inl h4
 ·refine .inr ⟨b, off, e, hlt, fun i hi => ?_⟩
  rw [hc i (by omega), getDs_take (by omega)]

theorem ret_ints {k : IntKind} {a b : Int} (h : a = b) : Ending.returned (.int k a) = .returned (.int k b) := by rw [h]
theorem ret_boolS {x y : Bool} (h : x = y) : Ending.returned (.bool x) = .returned (.bool y) := by rw [h]

theorem sbelow_dn {B : Nat} {a w : World} (h : Below B a w) (n : Nat) : Below B a (w.drewN n) := ⟨h.os, h.tape, h.output, h.size, h.block⟩
theorem toList_inj {a b : ByteArray} (h : a.toList = b.toList) : a = b := by
 rw [Lib.toList_data, Lib.toList_data] at h
 exact ByteArray.ext (Array.ext' h)
theorem str_eq {a b : ByteArray} (h : a = b) : (a.toList == b.toList) = true := by rw [h]; simp
theorem str_ne {a b : ByteArray} (h : a ≠ b) : (a.toList == b.toList) = false := by
 rw [beq_eq_false_iff_ne]; exact fun e => h (toList_inj e)

/-- the first place of s, or -1 -/
def place : List ByteArray → ByteArray → Int
 | [], _ => -1
 | x :: xs, s => if x = s then 0 else if place xs s < 0 then -1 else place xs s + 1

theorem place_none : ∀ {xs : List ByteArray} {s : ByteArray}, s ∉ xs → place xs s = -1
 | [], _, _ => rfl
 | x :: xs, s, h => by
  unfold place
  rw [if_neg (fun e => h (by rw [e]; exact List.mem_cons_self)), place_none (fun e => h (List.mem_cons_of_mem _ e))]
  simp

theorem place_some : ∀ {xs : List ByteArray} {s : ByteArray} {k : Nat}, k < xs.length → xs.getD k ByteArray.empty = s → (∀ j, j < k → xs.getD j ByteArray.empty ≠ s) → place xs s = k
 | [], _, _, h, _, _ => by simp at h
 | x :: xs, s, 0, _, h, _ => by
  unfold place
  rw [if_pos (by simpa using h)]; rfl
 | x :: xs, s, k + 1, hk, h, hj => by
  have ih := place_some (xs := xs) (s := s) (k := k) (by simpa using hk) (by simpa using h) (fun j hjk => by simpa using hj (j + 1) (by omega))
  unfold place
  rw [if_neg (by simpa using hj 0 (by omega)), ih, if_neg (by omega)]
  omega

theorem place_mem {xs : List ByteArray} {s : ByteArray} : 0 ≤ place xs s ↔ s ∈ xs := by
 constructor
 ·intro h
  exact Classical.byContradiction fun hn => by rw [place_none hn] at h; omega
 ·intro h
  induction xs with
  | nil => cases h
  | cons x xs ih =>
   unfold place
   split
   ·omega
   ·rename_i hne
    rcases List.mem_cons.1 h with e | e
    ·exact absurd e.symm hne
    ·have := ih e
     rw [if_neg (by omega)]; omega

theorem getDs_mem {xs : List ByteArray} {i : Nat} (h : i < xs.length) : xs.getD i ByteArray.empty ∈ xs := by
 rw [List.getD_eq_getElem?_getD, List.getElem?_eq_getElem h]; exact List.getElem_mem h
theorem mem_getDs {xs : List ByteArray} {s : ByteArray} (h : s ∈ xs) : ∃ j, j < xs.length ∧ xs.getD j ByteArray.empty = s := by
 obtain ⟨j, hj, e⟩ := List.mem_iff_getElem.1 h
 exact ⟨j, hj, by rw [List.getD_eq_getElem?_getD, List.getElem?_eq_getElem hj]; exact e⟩

/-- the first place whose string stands ahead of it too, or -1 -/
def TwiceIs (xs : List ByteArray) (r : Int) : Prop :=
 (r = -1 ∧ ∀ j, j < xs.length → xs.getD j ByteArray.empty ∉ xs.take j) ∨ ∃ k : Nat, r = k ∧ k < xs.length ∧ xs.getD k ByteArray.empty ∈ xs.take k ∧ ∀ j, j < k → xs.getD j ByteArray.empty ∉ xs.take j

theorem TwiceIs.one {xs : List ByteArray} {r s : Int} (h : TwiceIs xs r) (h' : TwiceIs xs s) : r = s := by
 rcases h with ⟨rfl, h⟩ | ⟨k, rfl, hk, hm, hj⟩ <;> rcases h' with ⟨rfl, h'⟩ | ⟨k', rfl, hk', hm', hj'⟩
 ·rfl
 ·exact absurd hm' (h _ hk')
 ·exact absurd hm (h' _ hk)
 ·rcases Nat.lt_trichotomy k k' with h1 | h1 | h1
  ·exact absurd hm (hj' _ h1)
  ·rw [h1]
  ·exact absurd hm' (hj _ h1)

theorem twice_ex (xs : List ByteArray) : ∃ r, TwiceIs xs r := by
 by_cases h : ∃ k, k < xs.length ∧ xs.getD k ByteArray.empty ∈ xs.take k
 ·have key : ∀ n k, k < n → k < xs.length → xs.getD k ByteArray.empty ∈ xs.take k → ∃ r, TwiceIs xs r := by
   intro n
   induction n with
   | zero => intro k hk; omega
   | succ n ih =>
    intro k hk hl hm
    by_cases h2 : ∃ j, j < k ∧ xs.getD j ByteArray.empty ∈ xs.take j
    ·obtain ⟨j, hj, hjm⟩ := h2
     exact ih j (by omega) (by omega) hjm
    ·exact ⟨k, .inr ⟨k, rfl, hl, hm, fun j hj hjm => h2 ⟨j, hj, hjm⟩⟩⟩
  obtain ⟨k, hk, hm⟩ := h
  exact key (k + 1) k (by omega) hk hm
 ·exact ⟨-1, .inl ⟨rfl, fun j hj hm => h ⟨j, hj, hm⟩⟩⟩

/-- the words, as the program's text lists them -/
def wordList : List ByteArray := [⟨#[97, 110, 100]⟩, ⟨#[97, 115, 99]⟩, ⟨#[98, 121]⟩, ⟨#[99, 111, 117, 110, 116]⟩, ⟨#[100, 101, 115, 99]⟩, ⟨#[100, 101, 118]⟩, ⟨#[105, 110]⟩, ⟨#[108, 105, 109, 105, 116]⟩, ⟨#[109, 97, 120]⟩, ⟨#[109, 101, 97, 110]⟩, ⟨#[109, 105, 110]⟩, ⟨#[111, 114, 100, 101, 114]⟩, ⟨#[115, 101, 108, 101, 99, 116]⟩, ⟨#[115, 104, 97, 114, 101]⟩, ⟨#[115, 117, 109]⟩, ⟨#[119, 104, 101, 114, 101]⟩]
end Go.Proofs.YtehmompbmnejkaaGreat
