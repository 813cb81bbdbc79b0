/- What package exact's sums are in memory; contracts of its New, is and put. Conditions: below 2^2240 units. -/
import Derived.Test.YtdbkgpakpadloaaGreatDoorMRat2
import Derived.Test.YtdbkgpakpadloaaGreatDoorMFloC
import Derived.Test.YtdbkgpakpadloaaGreatDoorMReg
namespace Go.Proofs.YtdbkgpakpadloaaGreatDoor
open Go.RowKit Ieee

/-- no block but g, of those that were there, has changed -/
structure But (g : Nat) (w w' : World) : Prop where
  os : w'.os = w.os
  tape : w'.tape = w.tape
  output : w'.output = w.output
  size : w.heap.size ≤ w'.heap.size
  block : ∀ k, k < w.heap.size → k ≠ g → w'.heap[k]? = w.heap[k]?
theorem But.refl (g : Nat) (w : World) : But g w w := ⟨rfl, rfl, rfl, Nat.le_refl _, fun _ _ _ => rfl⟩
theorem But.trans {g : Nat} {a b c : World} (h : But g a b) (k : But g b c) : But g a c :=
  ⟨k.os.trans h.os, k.tape.trans h.tape, k.output.trans h.output, Nat.le_trans h.size k.size, fun i hi hg => (k.block i (Nat.lt_of_lt_of_le hi h.size) hg).trans (h.block i hi hg)⟩
theorem But.of {g : Nat} {w w' : World} (h : Below w.heap.size w w') : But g w w' := ⟨h.os, h.tape, h.output, h.size, fun k hk _ => h.block k hk⟩
theorem But.setCell {g : Nat} {a w : World} (h : But g a w) (i : Nat) (v : Value) : But g a (w.setCell ⟨g, i, none⟩ v) :=
  h.trans ⟨rfl, rfl, rfl, by simp [World.setCell], fun k _ hg => Below.heap_setCell _ _ _ _ hg⟩
theorem But.below {g B : Nat} {w w' : World} (h : But g w w') (hg : B ≤ g) (hB : B ≤ w.heap.size) : Below B w w' := ⟨h.os, h.tape, h.output, h.size, fun k hk => h.block k (by omega) (by omega)⟩
theorem But.blk {g k : Nat} {w w' : World} {t : TypeId} {cs : Array Value} (h : But g w w') (hk : Blk w k t cs) (hg : k ≠ g) : Blk w' k t cs := by
  show w'.heap[k]? = _
  rw [h.block k hk.lt hg]; exact hk
theorem But.cell {g b o : Nat} {w w' : World} (h : But g w w') (hb : b < w.heap.size) (hg : b ≠ g) : w'.cell? ⟨b, o, none⟩ = w.cell? ⟨b, o, none⟩ := by
  simp only [World.cell?, h.block b hb hg]

/-- a sum's cells -/
def sumCells (b : Nat) (neg : Bool) (a : Option Addr) (n c : Nat) : Array Value := #[.bool true, .int .u8 (b : Int), .bool neg, .slice a n c]
theorem RowK.but {w w' : World} {a : Option Addr} {n c g b l q : Nat} {neg : Bool} {A : Option Addr} {xs : List Int} {t : TypeId} (h : RowK .u32 w a n c xs) (hk : Blk w g t (sumCells b neg A l q)) (hb : But g w w') : RowK .u32 w' a n c xs := by
  obtain ⟨h1, h2, h3, h4⟩ := h
  refine ⟨h1, h2, h3, ?_⟩
  rcases h4 with h4 | ⟨bb, off, rfl, hlt, hc⟩
  · exact .inl h4
  · refine .inr ⟨bb, off, rfl, Nat.lt_of_lt_of_le hlt hb.size, fun i hi => ?_⟩
    by_cases hg : bb = g
    · subst hg
      have h5 := hc i hi
      rw [hk.cell] at h5
      have h6 : off + i = 0 ∨ off + i = 1 ∨ off + i = 2 ∨ off + i = 3 ∨ 4 ≤ off + i := by omega
      rcases h6 with h6 | h6 | h6 | h6 | h6
      · rw [h6] at h5; cases h5
      · rw [h6] at h5; cases h5
      · rw [h6] at h5; cases h5
      · rw [h6] at h5; cases h5
      · rw [Array.getElem?_eq_none (by simp [sumCells]; omega)] at h5; cases h5
    · rw [hb.cell hlt hg]
      exact hc i hi
theorem NatC.but {w w' : World} {a : Option Addr} {n c g b l q : Nat} {z : Int} {neg : Bool} {A : Option Addr} {t : TypeId} (h : NatC w a n c z) (hk : Blk w g t (sumCells b neg A l q)) (hb : But g w w') : NatC w' a n c z := by
  obtain ⟨xs, h1, h2, h3, h4⟩ := h
  exact ⟨xs, h1.but hk hb, h2, h3, h4⟩

def K2240 : Nat := 2240
end Go.Proofs.YtdbkgpakpadloaaGreatDoor
/- Contract of package exact's put. Conditions: both below 2^2240 units. -/
namespace Go.Proofs.YtdbkgpakpadloaaGreatDoor
open Go.RowKit Ieee

def ROOM : Nat := 2 ^ K2240
theorem room_eq : ROOM = 2 ^ K2240 := rfl
theorem bits_gt {p b : Nat} (h : BitsN p b) : (2240 < b) ↔ ROOM ≤ p := by
  have hK : K2240 = 2240 := rfl
  rcases h with ⟨h1, h2⟩ | ⟨h1, h2, h3⟩
  · have : 0 < ROOM := Nat.two_pow_pos K2240
    omega
  · constructor
    · intro h4
      exact Nat.le_trans (Nat.pow_le_pow_right (by decide) (by omega)) h2
    · intro h4
      have := two_pow_lt (Nat.lt_of_le_of_lt h4 h3)
      omega
theorem NatC.short2 {w : World} {a : Option Addr} {n c z : Nat} (h : NatC w a n c (z : Int)) (hz : z < ROOM) : n ≤ 2240 := by
  have h1 := h.short (K := K2240) hz
  exact h1
theorem NatC.nul {w : World} {a : Option Addr} {n c z : Nat} (h : NatC w a n c (z : Int)) : ((n : Int) == 0) = decide (z = 0) := by
  have h1 := h.tell
  rw [Bool.eq_iff_iff]
  rw [decide_eq_decide] at h1
  simp only [beq_iff_eq, decide_eq_true_eq]
  omega
theorem room_two {X Y : Nat} (hX : X < ROOM) (hY : Y < ROOM) {w : World} {a : Option Addr} {n c : Nat} (h : NatC w a n c ((X + Y : Nat) : Int)) : n ≤ 2241 := by
  have h1 : X + Y < 2 ^ (K2240 + 1) := by
    rw [Nat.pow_succ]
    unfold ROOM at *
    omega
  have h2 := h.short h1
  exact h2
attribute [irreducible] ROOM
/-- a number of units with a sign -/
def signU (neg : Bool) (U : Nat) : Int := if neg then -(U : Int) else (U : Int)
def putZ (z y : Int) : Int := if (z + y).natAbs < ROOM then z + y else z
end Go.Proofs.YtdbkgpakpadloaaGreatDoor
/- Contract of package exact's Add. Conditions: below 2^2240 units. -/
namespace Go.Proofs.YtdbkgpakpadloaaGreatDoor
open Go.RowKit Ieee

theorem bits_or_u8 {a b : Nat} (ha : a < 256) (hb : b < 256) : bits .or .u8 (a : Int) (b : Int) = ((a ||| b : Nat) : Int) := by
  have e : bits .or .u8 (a : Int) (b : Int) = IntKind.u8.wrap (((((a : Int) % 256).toNat ||| ((b : Int) % 256).toNat) : Nat) : Int) := by
    show IntKind.u8.wrap ((BitVec.ofInt 8 a ||| BitVec.ofInt 8 b).toNat : Int) = _
    rw [BitVec.toNat_or, BitVec.toNat_ofInt, BitVec.toNat_ofInt]
    rfl
  rw [e, Int.emod_eq_of_lt (by omega) (by omega), Int.emod_eq_of_lt (by omega) (by omega), Int.toNat_natCast, Int.toNat_natCast]
  have h : a ||| b < 2 ^ 8 := Nat.or_lt_two_pow ha hb
  simp only [IntKind.wrap, IntKind.bits, IntKind.signed]
  simp
  omega

/-- how many units a number is -/
def unitsOf (x : Nat) : Int := signU (decide (S63 ≤ x)) (iv (x % S63))
def addOk (z : Int) (x : Nat) : Bool := decide (kindZ x ≠ 1) || decide ((z + unitsOf x).natAbs < ROOM)
def addZ (z : Int) (x : Nat) : Int := if kindZ x = 1 then putZ z (unitsOf x) else z
def addF (b : Nat) (z : Int) (x : Nat) : Nat :=
  if kindZ x = 3 then b ||| 1 else if kindZ x = 2 then b ||| (if S63 ≤ x then 4 else 2) else if kindZ x = 0 then b ||| (if S63 ≤ x then 8 else 16) else if addOk z x then b ||| 16 else b
theorem kind_cases (x : Nat) : (kindZ x = 3) ∨ (kindZ x = 2 ∧ belowB x = decide (S63 ≤ x)) ∨ (kindZ x = 0 ∧ belowB x = decide (S63 ≤ x)) ∨ kindZ x = 1 := by
  unfold kindZ belowB
  by_cases h1 : INF < x % S63
  · left; rw [if_pos h1]
  · right
    rw [if_neg h1, show decide (x % S63 ≤ INF) = true from by simp; omega, Bool.and_true]
    by_cases h2 : x % S63 = INF
    · left; rw [if_pos h2]; exact ⟨rfl, rfl⟩
    · right
      rw [if_neg h2]
      by_cases h3 : x % S63 = 0
      · left; rw [if_pos h3]; exact ⟨rfl, rfl⟩
      · right; rw [if_neg h3]
theorem iv_room {x : Nat} (h : kindZ x = 1) : iv (x % S63) < ROOM ∧ 0 < iv (x % S63) := by
  obtain ⟨h1, h2⟩ := kind1.1 h
  refine ⟨?_, iv_pos h1⟩
  rw [room_eq]
  have h3 := iv_lt h2
  rw [iv_inf] at h3
  refine Nat.lt_trans h3 ?_
  rw [show B52 = 2 ^ 52 from by decide, ← Nat.pow_add]
  exact Nat.pow_lt_pow_right (by decide) (by decide)
theorem odd_le53 {r M k : Nat} (h : OddOf (iv r) M k) : M < 9007199254740992 := by
  obtain ⟨h1, h2⟩ := h
  unfold iv at h1
  have hk : sh r ≤ k := by
    rcases Nat.lt_or_ge k (sh r) with h3 | h3
    · exfalso
      obtain ⟨d, hd⟩ : ∃ d, sh r = k + 1 + d := ⟨sh r - k - 1, by omega⟩
      rw [hd] at h1
      have e : M = mg r * 2 ^ d * 2 := by
        apply Nat.eq_of_mul_eq_mul_right (Nat.two_pow_pos k)
        rw [← h1, Nat.pow_add, Nat.pow_succ]
        ac_rfl
      omega
    · exact h3
  obtain ⟨d, hd⟩ : ∃ d, k = d + sh r := ⟨k - sh r, by omega⟩
  rw [hd, Nat.pow_add, ← Nat.mul_assoc] at h1
  have h3 := Nat.eq_of_mul_eq_mul_right (Nat.two_pow_pos (sh r)) h1
  have h4 := mg_lt r
  have h5 := Nat.le_mul_of_pos_right M (Nat.two_pow_pos d)
  unfold B52 at h4
  omega
theorem odd_place {N M k K : Nat} (h : OddOf N M k) (hN : N < 2 ^ K) : k ≤ K ∧ M ≤ N := by
  obtain ⟨h1, h2⟩ := h
  have hM : 0 < M := by omega
  constructor
  · have h3 : 2 ^ k ≤ N := by rw [h1]; exact Nat.le_mul_of_pos_left _ hM
    exact Nat.le_of_lt (two_pow_lt (Nat.lt_of_le_of_lt h3 hN))
  · rw [h1]; exact Nat.le_mul_of_pos_right _ (Nat.two_pow_pos k)
end Go.Proofs.YtdbkgpakpadloaaGreatDoor
/- Contract of package exact's Value. Conditions: below 2^2240 units. -/
namespace Go.Proofs.YtdbkgpakpadloaaGreatDoor
open Go.RowKit Ieee

theorem bits_and_u8 {a b : Nat} (ha : a < 256) (hb : b < 256) : bits .and .u8 (a : Int) (b : Int) = ((a &&& b : Nat) : Int) := by
  have e : bits .and .u8 (a : Int) (b : Int) = IntKind.u8.wrap (((((a : Int) % 256).toNat &&& ((b : Int) % 256).toNat) : Nat) : Int) := by
    show IntKind.u8.wrap ((BitVec.ofInt 8 a &&& BitVec.ofInt 8 b).toNat : Int) = _
    rw [BitVec.toNat_and, BitVec.toNat_ofInt, BitVec.toNat_ofInt]
    rfl
  rw [e, Int.emod_eq_of_lt (by omega) (by omega), Int.emod_eq_of_lt (by omega) (by omega), Int.toNat_natCast, Int.toNat_natCast]
  have h : a &&& b ≤ a := Nat.and_le_left
  simp only [IntKind.wrap, IntKind.bits, IntKind.signed]
  simp
  omega
theorem and_flags : ∀ b, b < 64 → b &&& 1 = b % 2 ∧ b &&& 2 = 2 * (b / 2 % 2) ∧ b &&& 4 = 4 * (b / 4 % 2) ∧ b &&& 7 = b % 8 := by decide

theorem room_words : ∃ m, m = 70 ∧ ROOM = 4294967296 ^ m := by
  obtain ⟨m, hm⟩ : ∃ m, m = 70 := ⟨_, rfl⟩
  refine ⟨m, hm, ?_⟩
  have h : K2240 = 32 * m := by rw [hm]; rfl
  rw [room_eq, h, Nat.pow_mul]
theorem NatC.words {w : World} {a : Option Addr} {n c z : Nat} (h : NatC w a n c (z : Int)) (hz : z < ROOM) : n ≤ 70 := by
  obtain ⟨m, hm, h2⟩ := room_words
  rw [h2] at hz
  have h3 := Int.ofNat_lt.2 hz
  rw [Int.natCast_pow] at h3
  have := h.len (k := m) h3
  omega
/-- what a sum's value is -/
def IsVal (b : Nat) (z : Int) (v : Nat) : Prop := v < 18446744073709551616 ∧
  (((b % 2 = 1 ∨ (b / 2 % 2 = 1 ∧ b / 4 % 2 = 1)) ∧ INF < v % S63) ∨ (b % 2 = 0 ∧ b / 2 % 2 = 1 ∧ b / 4 % 2 = 0 ∧ v = INF) ∨ (b % 2 = 0 ∧ b / 2 % 2 = 0 ∧ b / 4 % 2 = 1 ∧ v = S63 + INF) ∨
   (b % 2 = 0 ∧ b / 2 % 2 = 0 ∧ b / 4 % 2 = 0 ∧ v = joinN (decide (z < 0) || decide (b = 8)) z.natAbs (-1074)))
theorem IsVal.one {b : Nat} {z : Int} {u v : Nat} (h : IsVal b z u) (k : IsVal b z v) : keyN u = keyN v := by
  obtain ⟨-, h⟩ := h
  obtain ⟨-, k⟩ := k
  rcases h with ⟨h1, h2⟩ | ⟨h1, h2, h3, h4⟩ | ⟨h1, h2, h3, h4⟩ | ⟨h1, h2, h3, h4⟩ <;> rcases k with ⟨k1, k2⟩ | ⟨k1, k2, k3, k4⟩ | ⟨k1, k2, k3, k4⟩ | ⟨k1, k2, k3, k4⟩ <;> try omega
  · rw [key_nan h2, key_nan k2]
  all_goals rw [h4, k4]
def RVal (b : Nat) (z : Int) (w : World) (e : Ending) (w' : World) : Prop := ∃ v, e = .returned (.float .f64 v) ∧ IsVal b z v ∧ Below w.heap.size w w'

end Go.Proofs.YtdbkgpakpadloaaGreatDoor
