/- What package exact's sums are in memory; contracts of its New, is and put. Conditions: below 2^2240 units. -/
import Derived.Test.YtehmompbmnejkaaGreatMRat2
import Derived.Test.YtehmompbmnejkaaGreatMFloC
import Derived.Test.YtehmompbmnejkaaGreatMReg
namespace Go.Proofs.YtehmompbmnejkaaGreat
open Go.RowKit Ieee

/-- no block but g, of those that were there, has changed -/
structure But (g : Nat) (w w' : World) : Prop where
 os : w'.os = w.os
 tape : w'.tape = w.tape
 output : w'.output = w.output
 size : w.heap.size ≤ w'.heap.size
 block : ∀ k, k < w.heap.size → k ≠ g → w'.heap[k]? = w.heap[k]?
theorem But.refl (g : Nat) (w : World) : But g w w := ⟨rfl, rfl, rfl, Nat.le_refl _, fun _ _ _ => rfl⟩
theorem But.trans {g : Nat} {a b c : World} (h : But g a b) (k : But g b c) : But g a c :=
 ⟨k.os.trans h.os, k.tape.trans h.tape, k.output.trans h.output, Nat.le_trans h.size k.size, fun i hi hg => (k.block i (Nat.lt_of_lt_of_le hi h.size) hg).trans (h.block i hi hg)⟩
theorem But.setCell {g : Nat} {a w : World} (h : But g a w) (i : Nat) (v : Value) : But g a (w.setCell ⟨g, i, none⟩ v) :=
 h.trans ⟨rfl, rfl, rfl, by simp [World.setCell], fun k _ hg => Below.heap_setCell _ _ _ _ hg⟩
theorem But.cell {g b o : Nat} {w w' : World} (h : But g w w') (hb : b < w.heap.size) (hg : b ≠ g) : w'.cell? ⟨b, o, none⟩ = w.cell? ⟨b, o, none⟩ := by
 simp only [World.cell?, h.block b hb hg]

/-- a sum's cells -/
def sumCells (b : Nat) (neg : Bool) (a : Option Addr) (n c : Nat) : Array Value := #[.bool true, .int .u8 (b : Int), .bool neg, .slice a n c]
def K2240 : Nat := 2240
/-- block g is a sum: the kinds b that came, z units -/
def SumAt (w : World) (g : Nat) (b : Nat) (z : Int) : Prop :=
 ∃ a n c, Blk w g 134 (sumCells b (decide (z < 0)) a n c) ∧ NatC w a n c ((z.natAbs : Nat) : Int)
theorem SumAt.below {w w' : World} {g b B : Nat} {z : Int} (h : SumAt w g b z) (hb : Below B w w') (hB : w.heap.size ≤ B) : SumAt w' g b z := by
 obtain ⟨a, n, c, h1, h2⟩ := h
 exact ⟨a, n, c, h1.below hb (Nat.lt_of_lt_of_le h1.lt hB), h2.below hb hB⟩
theorem sumis_any (w : World) (g b : Nat) (z : Int) (h : SumAt w g b z) :
  Calls Tryz.prog 71 #[.pointer (some ⟨g, 0, none⟩)] w fun e w' => e = .returned (.bool true) ∧ w = w' := by
 obtain ⟨a, n, c, h1, -⟩ := h
 have c0 : w.cell? ⟨g, 0, none⟩ = some (.bool true) := h1.cell 0
 clear h1
 go_enter Tryz.func71, Tryz.ntmps71
 go_wp2_with fail
 go_ret
 exact ⟨rfl, rfl⟩
theorem sumis_nil (w : World) :
  Calls Tryz.prog 71 #[.pointer none] w fun e w' => e = .returned (.bool false) ∧ w = w' := by
 go_enter Tryz.func71, Tryz.ntmps71
 go_wp2_with fail
 go_ret
 exact ⟨rfl, rfl⟩
theorem sumis_not (w : World) (g : Nat) (h : w.cell? ⟨g, 0, none⟩ = some (.bool false)) :
  Calls Tryz.prog 71 #[.pointer (some ⟨g, 0, none⟩)] w fun e w' => e = .returned (.bool false) ∧ w = w' := by
 go_enter Tryz.func71, Tryz.ntmps71
 go_wp2_with fail
 go_ret
 exact ⟨rfl, rfl⟩
end Go.Proofs.YtehmompbmnejkaaGreat
/- Contract of package exact's put. Conditions: both below 2^2240 units. -/
namespace Go.Proofs.YtehmompbmnejkaaGreat
open Go.RowKit Ieee

def ROOM : Nat := 2 ^ K2240
theorem room_eq : ROOM = 2 ^ K2240 := rfl
theorem NatC.short2 {w : World} {a : Option Addr} {n c z : Nat} (h : NatC w a n c (z : Int)) (hz : z < ROOM) : n ≤ 2240 := by
 have h1 := h.short (K := K2240) hz
 exact h1
theorem NatC.nul {w : World} {a : Option Addr} {n c z : Nat} (h : NatC w a n c (z : Int)) : ((n : Int) == 0) = decide (z = 0) := by
 have h1 := h.tell
 rw [Bool.eq_iff_iff]
 rw [decide_eq_decide] at h1
 simp only [beq_iff_eq, decide_eq_true_eq]
 omega
theorem room_two {X Y : Nat} (hX : X < ROOM) (hY : Y < ROOM) {w : World} {a : Option Addr} {n c : Nat} (h : NatC w a n c ((X + Y : Nat) : Int)) : n ≤ 2241 := by
 have h1 : X + Y < 2 ^ (K2240 + 1) := by
  rw [Nat.pow_succ]
  unfold ROOM at *
  omega
 have h2 := h.short h1
 exact h2
attribute [irreducible] ROOM
/-- a number of units with a sign -/
def signU (neg : Bool) (U : Nat) : Int := if neg then -(U : Int) else (U : Int)
def putZ (z y : Int) : Int := if (z + y).natAbs < ROOM then z + y else z
end Go.Proofs.YtehmompbmnejkaaGreat
/- Contract of package exact's Add. Conditions: below 2^2240 units. -/
namespace Go.Proofs.YtehmompbmnejkaaGreat
open Go.RowKit Ieee

/-- how many units a number is -/
def unitsOf (x : Nat) : Int := signU (decide (S63 ≤ x)) (iv (x % S63))
def addOk (z : Int) (x : Nat) : Bool := decide (kindZ x ≠ 1) || decide ((z + unitsOf x).natAbs < ROOM)
def addZ (z : Int) (x : Nat) : Int := if kindZ x = 1 then putZ z (unitsOf x) else z
def addF (b : Nat) (z : Int) (x : Nat) : Nat :=
 if kindZ x = 3 then b ||| 1 else if kindZ x = 2 then b ||| (if S63 ≤ x then 4 else 2) else if kindZ x = 0 then b ||| (if S63 ≤ x then 8 else 16) else if addOk z x then b ||| 16 else b
theorem kind_cases (x : Nat) : (kindZ x = 3) ∨ (kindZ x = 2 ∧ belowB x = decide (S63 ≤ x)) ∨ (kindZ x = 0 ∧ belowB x = decide (S63 ≤ x)) ∨ kindZ x = 1 := by
 unfold kindZ belowB
 by_cases h1 : INF < x % S63
 ·left; rw [if_pos h1]
 ·right
  rw [if_neg h1, show decide (x % S63 ≤ INF) = true from by simp; omega, Bool.and_true]
  by_cases h2 : x % S63 = INF
  ·left; rw [if_pos h2]; exact ⟨rfl, rfl⟩
  ·right
   rw [if_neg h2]
   by_cases h3 : x % S63 = 0
   ·left; rw [if_pos h3]; exact ⟨rfl, rfl⟩
   ·right; rw [if_neg h3]
theorem iv_room {x : Nat} (h : kindZ x = 1) : iv (x % S63) < ROOM ∧ 0 < iv (x % S63) := by
 obtain ⟨h1, h2⟩ := kind1.1 h
 refine ⟨?_, iv_pos h1⟩
 rw [room_eq]
 have h3 := iv_lt h2
 rw [iv_inf] at h3
 refine Nat.lt_trans h3 ?_
 rw [show B52 = 2 ^ 52 from by decide, ← Nat.pow_add]
 exact Nat.pow_lt_pow_right (by decide) (by decide)
theorem odd_le53 {r M k : Nat} (h : OddOf (iv r) M k) : M < 9007199254740992 := by
 obtain ⟨h1, h2⟩ := h
 unfold iv at h1
 have hk : sh r ≤ k := by
  rcases Nat.lt_or_ge k (sh r) with h3 | h3
  ·exfalso
   obtain ⟨d, hd⟩ : ∃ d, sh r = k + 1 + d := ⟨sh r - k - 1, by omega⟩
   rw [hd] at h1
   have e : M = mg r * 2 ^ d * 2 := by
    apply Nat.eq_of_mul_eq_mul_right (Nat.two_pow_pos k)
    rw [← h1, Nat.pow_add, Nat.pow_succ]
    ac_rfl
   omega
  ·exact h3
 obtain ⟨d, hd⟩ : ∃ d, k = d + sh r := ⟨k - sh r, by omega⟩
 rw [hd, Nat.pow_add, ← Nat.mul_assoc] at h1
 have h3 := Nat.eq_of_mul_eq_mul_right (Nat.two_pow_pos (sh r)) h1
 have h4 := mg_lt r
 have h5 := Nat.le_mul_of_pos_right M (Nat.two_pow_pos d)
 unfold B52 at h4
 omega
theorem odd_place {N M k K : Nat} (h : OddOf N M k) (hN : N < 2 ^ K) : k ≤ K ∧ M ≤ N := by
 obtain ⟨h1, h2⟩ := h
 have hM : 0 < M := by omega
 constructor
 ·have h3 : 2 ^ k ≤ N := by rw [h1]; exact Nat.le_mul_of_pos_left _ hM
  exact Nat.le_of_lt (two_pow_lt (Nat.lt_of_le_of_lt h3 hN))
 ·rw [h1]; exact Nat.le_mul_of_pos_right _ (Nat.two_pow_pos k)
end Go.Proofs.YtehmompbmnejkaaGreat
/- Contract of package exact's Value. Conditions: below 2^2240 units. -/
namespace Go.Proofs.YtehmompbmnejkaaGreat
open Go.RowKit Ieee

theorem bits_and_u8 {a b : Nat} (ha : a < 256) (hb : b < 256) : bits .and .u8 (a : Int) (b : Int) = ((a &&& b : Nat) : Int) := by
 have e : bits .and .u8 (a : Int) (b : Int) = IntKind.u8.wrap (((((a : Int) % 256).toNat &&& ((b : Int) % 256).toNat) : Nat) : Int) := by
  show IntKind.u8.wrap ((BitVec.ofInt 8 a &&& BitVec.ofInt 8 b).toNat : Int) = _
  rw [BitVec.toNat_and, BitVec.toNat_ofInt, BitVec.toNat_ofInt]
  rfl
 rw [e, Int.emod_eq_of_lt (by omega) (by omega), Int.emod_eq_of_lt (by omega) (by omega), Int.toNat_natCast, Int.toNat_natCast]
 have h : a &&& b ≤ a := Nat.and_le_left
 simp only [IntKind.wrap, IntKind.bits, IntKind.signed]
 simp
 omega
theorem and_flags : ∀ b, b < 64 → b &&& 1 = b % 2 ∧ b &&& 2 = 2 * (b / 2 % 2) ∧ b &&& 4 = 4 * (b / 4 % 2) ∧ b &&& 7 = b % 8 := by decide

theorem room_words : ∃ m, m = 70 ∧ ROOM = 4294967296 ^ m := by
 obtain ⟨m, hm⟩ : ∃ m, m = 70 := ⟨_, rfl⟩
 refine ⟨m, hm, ?_⟩
 have h : K2240 = 32 * m := by rw [hm]; rfl
 rw [room_eq, h, Nat.pow_mul]
theorem NatC.words {w : World} {a : Option Addr} {n c z : Nat} (h : NatC w a n c (z : Int)) (hz : z < ROOM) : n ≤ 70 := by
 obtain ⟨m, hm, h2⟩ := room_words
 rw [h2] at hz
 have h3 := Int.ofNat_lt.2 hz
 rw [Int.natCast_pow] at h3
 have := h.len (k := m) h3
 omega
/-- what a sum's value is -/
def IsVal (b : Nat) (z : Int) (v : Nat) : Prop := v < 18446744073709551616 ∧
  (((b % 2 = 1 ∨ (b / 2 % 2 = 1 ∧ b / 4 % 2 = 1)) ∧ INF < v % S63) ∨ (b % 2 = 0 ∧ b / 2 % 2 = 1 ∧ b / 4 % 2 = 0 ∧ v = INF) ∨ (b % 2 = 0 ∧ b / 2 % 2 = 0 ∧ b / 4 % 2 = 1 ∧ v = S63 + INF) ∨
   (b % 2 = 0 ∧ b / 2 % 2 = 0 ∧ b / 4 % 2 = 0 ∧ v = joinN (decide (z < 0) || decide (b = 8)) z.natAbs (-1074)))
def RVal (b : Nat) (z : Int) (w : World) (e : Ending) (w' : World) : Prop := ∃ v, e = .returned (.float .f64 v) ∧ IsVal b z v ∧ Below w.heap.size w w'

set_option maxRecDepth 100000 in
set_option maxHeartbeats 8000000 in
theorem sumval_any (w : World) (g b : Nat) (z : Int) (hs : SumAt w g b z) (hz : z.natAbs < ROOM) (hb : b < 32) :
  Calls Tryz.prog 68 #[.pointer (some ⟨g, 0, none⟩)] w (RVal b z w) := by
 have HI := Lib.hid (sumis_any w g b z hs)
 obtain ⟨f1, f2, f4, -⟩ := and_flags b (by omega)
 have a1 : bits .and .u8 (b : Int) 1 = ((b % 2 : Nat) : Int) := by rw [← f1]; exact bits_and_u8 (b := 1) (by omega) (by omega)
 have a2 : bits .and .u8 (b : Int) 2 = ((2 * (b / 2 % 2) : Nat) : Int) := by rw [← f2]; exact bits_and_u8 (b := 2) (by omega) (by omega)
 have a4 : bits .and .u8 (b : Int) 4 = ((4 * (b / 4 % 2) : Nat) : Int) := by rw [← f4]; exact bits_and_u8 (b := 4) (by omega) (by omega)
 obtain ⟨a, n, c, hk, hN⟩ := hs
 have c1 : w.cell? ⟨g, 1, none⟩ = some (.int .u8 (b : Int)) := hk.cell 1
 have c2 : w.cell? ⟨g, 2, none⟩ = some (.bool (decide (z < 0))) := hk.cell 2
 have c3 : w.cell? ⟨g, 3, none⟩ = some (.slice a n c) := hk.cell 3
 have hg : g < w.heap.size := hk.lt
 have hl := hN.short2 hz
 have HN := Lib.hid hN
 have hNaN := Lib.hid (nan_any w)
 have hI1 := Lib.hid (inf_any 1 w)
 rw [if_pos (by decide)] at hI1
 have hI2 := Lib.hid (inf_any (-1) w)
 rw [if_neg (by decide)] at hI2
 have HJ : Hid (∀ (ng : Bool) (w : World), NatC w a n c ((z.natAbs : Nat) : Int) → Calls Tryz.prog 73 #[.bool ng, .slice a n c, .int .i64 (-1074)] w (RJoin (joinN ng z.natAbs (-1074)) w)) := Lib.hid (fun ng w h => by
  obtain ⟨xs, x1, x2, x3⟩ := h.row
  exact fjoin_any ng a n c xs z.natAbs (-1074) w x1 x2 x3 (by
   have h1 := h.words hz
   omega) (by omega) (by omega))
 clear hk hN hz f1 f2 f4 hl
 have h1 : b % 2 = 0 ∨ b % 2 = 1 := by omega
 have h2 : b / 2 % 2 = 0 ∨ b / 2 % 2 = 1 := by omega
 have h4 : b / 4 % 2 = 0 ∨ b / 4 % 2 = 1 := by omega
 have H8 := Lib.hid (show (((b : Int) == 8) = decide (b = 8)) from by rw [Bool.eq_iff_iff]; simp only [beq_iff_eq, decide_eq_true_eq]; omega)
 rcases h1 with h1 | h1 <;> rcases h2 with h2 | h2 <;> rcases h4 with h4 | h4
 all_goals
  rw [h1] at a1
  rw [h2] at a2
  rw [h4] at a4
  have H1 := Lib.hid h1
  have H2 := Lib.hid h2
  have H4 := Lib.hid h4
  clear h1 h2 h4
 ·-- no flag
  rcases hz0 : decide (z < 0) with _ | _
  ·rw [hz0] at c2
   have HZ0 := Lib.hid hz0
   have HJ := Lib.hid (fun w h => HJ.out (decide (b = 8)) w h)
   rw [← H8.out] at HJ
   clear hz0
   go_enter Tryz.func68, Tryz.ntmps68
   go_wp2_with fail
   refine HI.out.mono ?_; rintro e w1 ⟨rfl, rfl⟩
   go_wp2_with fail
   refine wp_regionL (fun w' => w'.cell? ⟨g, 1, none⟩ = some (.int .u8 (b : Int)) ∧ w'.cell? ⟨g, 2, none⟩ = some (.bool false) ∧ w'.cell? ⟨g, 3, none⟩ = some (.slice a n c)) 16 (by kernel_rfl) (by exact ⟨c1, c2, c3⟩) (fun hHeld => ?_)
   refine wpAnyL_take (i := 0) (oi := ⟨some 46, _, _, _, _, _⟩) (v := ?_) rfl (by kernel_rfl) (by kernel_rfl) (by kernel_rfl) (by kernel_rfl) (by kernel_rfl) (fun _ _ _ h => h) (Or.inl ⟨by rfl, ?_⟩) (by assumption) ?_
   rotate_left 1
   ·(intro w hSw; (try dsimp only at hSw); go_simp; try with_reducible rfl)
   try simp only [Act.put, List.setIfInBounds_toArray, List.set_cons_zero, List.set_cons_succ]
   refine wpAnyL_take (i := 1) (oi := ⟨some 47, _, _, _, _, _⟩) (v := ?_) rfl (by kernel_rfl) (by kernel_rfl) (by kernel_rfl) (by kernel_rfl) (by kernel_rfl) (fun _ _ _ h => h) (Or.inl ⟨by rfl, ?_⟩) (by assumption) ?_
   rotate_left 1
   ·(intro w hSw; (try dsimp only at hSw); go_simp; try with_reducible rfl)
   try simp only [Act.put, List.setIfInBounds_toArray, List.set_cons_zero, List.set_cons_succ]
   refine wpAnyL_take (i := 2) (oi := ⟨some 48, _, _, _, _, _⟩) (v := ?_) rfl (by kernel_rfl) (by kernel_rfl) (by kernel_rfl) (by kernel_rfl) (by kernel_rfl) (fun _ _ _ h => h) (Or.inl ⟨by rfl, ?_⟩) (by assumption) ?_
   rotate_left 1
   ·(intro w hSw; (try dsimp only at hSw); go_simp; try with_reducible rfl)
   try simp only [Act.put, List.setIfInBounds_toArray, List.set_cons_zero, List.set_cons_succ]
   refine wpAnyL_take (i := 3) (oi := ⟨some 49, _, _, _, _, _⟩) (v := ?_) rfl (by kernel_rfl) (by kernel_rfl) (by kernel_rfl) (by kernel_rfl) (by kernel_rfl) (fun _ _ _ h => h) (Or.inl ⟨by rfl, ?_⟩) (by assumption) ?_
   rotate_left 1
   ·(intro w hSw; (try dsimp only at hSw); go_simp; try with_reducible rfl)
   try simp only [Act.put, List.setIfInBounds_toArray, List.set_cons_zero, List.set_cons_succ]
   refine wpAnyL_take (i := 4) (oi := ⟨some 50, _, _, _, _, _⟩) (v := ?_) rfl (by kernel_rfl) (by kernel_rfl) (by kernel_rfl) (by kernel_rfl) (by kernel_rfl) (fun _ _ _ h => h) (Or.inl ⟨by rfl, ?_⟩) (by assumption) ?_
   rotate_left 1
   ·(intro w hSw; (try dsimp only at hSw); go_simp; try with_reducible rfl)
   try simp only [Act.put, List.setIfInBounds_toArray, List.set_cons_zero, List.set_cons_succ]
   refine wpAnyL_take (i := 5) (oi := ⟨some 51, _, _, _, _, _⟩) (v := ?_) rfl (by kernel_rfl) (by kernel_rfl) (by kernel_rfl) (by kernel_rfl) (by kernel_rfl) (fun _ _ _ h => h) (Or.inl ⟨by rfl, ?_⟩) (by assumption) ?_
   rotate_left 1
   ·(intro w hSw; (try dsimp only at hSw); go_simp; try with_reducible rfl)
   try simp only [Act.put, List.setIfInBounds_toArray, List.set_cons_zero, List.set_cons_succ]
   refine wpAnyL_take (i := 6) (oi := ⟨some 52, _, _, _, _, _⟩) (v := ?_) rfl (by kernel_rfl) (by kernel_rfl) (by kernel_rfl) (by kernel_rfl) (by kernel_rfl) (fun _ _ _ h => h) (Or.inl ⟨by rfl, ?_⟩) (by assumption) ?_
   rotate_left 1
   ·(intro w hSw; (try dsimp only at hSw); go_simp; try with_reducible rfl)
   try simp only [Act.put, List.setIfInBounds_toArray, List.set_cons_zero, List.set_cons_succ]
   refine wpAnyL_take (i := 7) (oi := ⟨some 53, _, _, _, _, _⟩) (v := ?_) rfl (by kernel_rfl) (by kernel_rfl) (by kernel_rfl) (by kernel_rfl) (by kernel_rfl) (fun _ _ _ h => h) (Or.inl ⟨by rfl, ?_⟩) (by assumption) ?_
   rotate_left 1
   ·(intro w hSw; (try dsimp only at hSw); go_simp; try with_reducible rfl)
   try simp only [Act.put, List.setIfInBounds_toArray, List.set_cons_zero, List.set_cons_succ]
   refine wpAnyL_take (i := 8) (oi := ⟨some 54, _, _, _, _, _⟩) (v := ?_) rfl (by kernel_rfl) (by kernel_rfl) (by kernel_rfl) (by kernel_rfl) (by kernel_rfl) (fun _ _ _ h => h) (Or.inl ⟨by rfl, ?_⟩) (by assumption) ?_
   rotate_left 1
   ·(intro w hSw; (try dsimp only at hSw); go_simp; try with_reducible rfl)
   try simp only [Act.put, List.setIfInBounds_toArray, List.set_cons_zero, List.set_cons_succ]
   refine wpAnyL_take (i := 9) (oi := ⟨some 55, _, _, _, _, _⟩) (v := ?_) rfl (by kernel_rfl) (by kernel_rfl) (by kernel_rfl) (by kernel_rfl) (by kernel_rfl) (fun _ _ _ h => h) (Or.inl ⟨by rfl, ?_⟩) (by assumption) ?_
   rotate_left 1
   ·(intro w hSw; (try dsimp only at hSw); go_simp; try with_reducible rfl)
   try simp only [Act.put, List.setIfInBounds_toArray, List.set_cons_zero, List.set_cons_succ]
   refine wpAnyL_take (i := 10) (oi := ⟨some 56, _, _, _, _, _⟩) (v := ?_) rfl (by kernel_rfl) (by kernel_rfl) (by kernel_rfl) (by kernel_rfl) (by kernel_rfl) (fun _ _ _ h => h) (Or.inl ⟨by rfl, ?_⟩) (by assumption) ?_
   rotate_left 1
   ·(intro w hSw; (try dsimp only at hSw); go_simp; try with_reducible rfl)
   try simp only [Act.put, List.setIfInBounds_toArray, List.set_cons_zero, List.set_cons_succ]
   refine wpAnyL_take (i := 11) (oi := ⟨some 57, _, _, _, _, _⟩) (v := ?_) rfl (by kernel_rfl) (by kernel_rfl) (by kernel_rfl) (by kernel_rfl) (by kernel_rfl) (fun _ _ _ h => h) (Or.inl ⟨by rfl, ?_⟩) (by assumption) ?_
   rotate_left 1
   ·(intro w hSw; (try dsimp only at hSw); go_simp; try with_reducible rfl)
   try simp only [Act.put, List.setIfInBounds_toArray, List.set_cons_zero, List.set_cons_succ]
   refine wpAnyL_take (i := 12) (oi := ⟨some 58, _, _, _, _, _⟩) (v := ?_) rfl (by kernel_rfl) (by kernel_rfl) (by kernel_rfl) (by kernel_rfl) (by kernel_rfl) (fun _ _ _ h => h) (Or.inl ⟨by rfl, ?_⟩) (by assumption) ?_
   rotate_left 1
   ·(intro w hSw; (try dsimp only at hSw); go_simp; try with_reducible rfl)
   try simp only [Act.put, List.setIfInBounds_toArray, List.set_cons_zero, List.set_cons_succ]
   refine wpAnyL_take (i := 13) (oi := ⟨some 59, _, _, _, _, _⟩) (v := ?_) rfl (by kernel_rfl) (by kernel_rfl) (by kernel_rfl) (by kernel_rfl) (by kernel_rfl) (fun _ _ _ h => h) (Or.inl ⟨by rfl, ?_⟩) (by assumption) ?_
   rotate_left 1
   ·(intro w hSw; (try dsimp only at hSw); go_simp; try with_reducible rfl)
   try simp only [Act.put, List.setIfInBounds_toArray, List.set_cons_zero, List.set_cons_succ]
   refine wpAnyL_take (i := 14) (oi := ⟨some 60, _, _, _, _, _⟩) (v := ?_) rfl (by kernel_rfl) (by kernel_rfl) (by kernel_rfl) (by kernel_rfl) (by kernel_rfl) (fun _ _ _ h => h) (Or.inl ⟨by rfl, ?_⟩) (by assumption) ?_
   rotate_left 1
   ·(intro w hSw; (try dsimp only at hSw); go_simp; try with_reducible rfl)
   try simp only [Act.put, List.setIfInBounds_toArray, List.set_cons_zero, List.set_cons_succ]
   refine wpAnyL_one (i := 15) (o := ⟨some 61, _, _, _, _, _⟩) (by kernel_rfl) rfl (fun K hK => ?_)
   go_simp
   refine (HJ.out _ (HN.out.below ((Below.refl _ _).drew) (Nat.le_refl _))).mono ?_
   rintro e w2 ⟨rfl, hb2⟩
   have hB2 := ((Below.refl w.heap.size w).drew).trans (hb2.mono (by exact Nat.le_refl _))
   have w21 : w2.cell? ⟨g, 1, none⟩ = some (.int .u8 (b : Int)) := by rw [(bcell hB2).1 _ _ hg]; exact c1
   have w22 : w2.cell? ⟨g, 2, none⟩ = some (.bool false) := by rw [(bcell hB2).1 _ _ hg]; exact c2
   have w23 : w2.cell? ⟨g, 3, none⟩ = some (.slice a n c) := by rw [(bcell hB2).1 _ _ hg]; exact c3
   refine hK.out _ _ (by exact ⟨w21, w22, w23⟩) ?_
   clear hK K hHeld
   intro hHeld
   try simp only [Act.put, List.setIfInBounds_toArray, List.set_cons_zero, List.set_cons_succ]
   refine wpAnyL_last (o := ⟨some 2, _, _, _, _, _⟩) (by kernel_rfl) (by kernel_rfl) rfl (fun K hK => ?_)
   go_simp
   refine hK _ _ ?_
   clear hK K hHeld
   try simp only [Act.put, List.setIfInBounds_toArray, List.set_cons_zero, List.set_cons_succ]
   go_wp2_with fail
   go_ret
   refine ⟨_, rfl, ⟨join_lt0 _ _ _, .inr (.inr (.inr ⟨H1.out, H2.out, H4.out, ?_⟩))⟩, hB2⟩
   rw [HZ0.out, H8.out, Bool.false_or]
  ·rw [hz0] at c2
   have HZ0 := Lib.hid hz0
   have HJ := Lib.hid (fun w h => HJ.out true w h)
   clear hz0
   go_enter Tryz.func68, Tryz.ntmps68
   go_wp2_with fail
   refine HI.out.mono ?_; rintro e w1 ⟨rfl, rfl⟩
   go_wp2_with fail
   refine wp_regionL (fun w' => w'.cell? ⟨g, 1, none⟩ = some (.int .u8 (b : Int)) ∧ w'.cell? ⟨g, 2, none⟩ = some (.bool true) ∧ w'.cell? ⟨g, 3, none⟩ = some (.slice a n c)) 16 (by kernel_rfl) (by exact ⟨c1, c2, c3⟩) (fun hHeld => ?_)
   refine wpAnyL_take (i := 0) (oi := ⟨some 46, _, _, _, _, _⟩) (v := ?_) rfl (by kernel_rfl) (by kernel_rfl) (by kernel_rfl) (by kernel_rfl) (by kernel_rfl) (fun _ _ _ h => h) (Or.inl ⟨by rfl, ?_⟩) (by assumption) ?_
   rotate_left 1
   ·(intro w hSw; (try dsimp only at hSw); go_simp; try with_reducible rfl)
   try simp only [Act.put, List.setIfInBounds_toArray, List.set_cons_zero, List.set_cons_succ]
   refine wpAnyL_take (i := 1) (oi := ⟨some 47, _, _, _, _, _⟩) (v := ?_) rfl (by kernel_rfl) (by kernel_rfl) (by kernel_rfl) (by kernel_rfl) (by kernel_rfl) (fun _ _ _ h => h) (Or.inl ⟨by rfl, ?_⟩) (by assumption) ?_
   rotate_left 1
   ·(intro w hSw; (try dsimp only at hSw); go_simp; try with_reducible rfl)
   try simp only [Act.put, List.setIfInBounds_toArray, List.set_cons_zero, List.set_cons_succ]
   refine wpAnyL_take (i := 2) (oi := ⟨some 48, _, _, _, _, _⟩) (v := ?_) rfl (by kernel_rfl) (by kernel_rfl) (by kernel_rfl) (by kernel_rfl) (by kernel_rfl) (fun _ _ _ h => h) (Or.inl ⟨by rfl, ?_⟩) (by assumption) ?_
   rotate_left 1
   ·(intro w hSw; (try dsimp only at hSw); go_simp; try with_reducible rfl)
   try simp only [Act.put, List.setIfInBounds_toArray, List.set_cons_zero, List.set_cons_succ]
   refine wpAnyL_take (i := 3) (oi := ⟨some 49, _, _, _, _, _⟩) (v := ?_) rfl (by kernel_rfl) (by kernel_rfl) (by kernel_rfl) (by kernel_rfl) (by kernel_rfl) (fun _ _ _ h => h) (Or.inl ⟨by rfl, ?_⟩) (by assumption) ?_
   rotate_left 1
   ·(intro w hSw; (try dsimp only at hSw); go_simp; try with_reducible rfl)
   try simp only [Act.put, List.setIfInBounds_toArray, List.set_cons_zero, List.set_cons_succ]
   refine wpAnyL_take (i := 4) (oi := ⟨some 50, _, _, _, _, _⟩) (v := ?_) rfl (by kernel_rfl) (by kernel_rfl) (by kernel_rfl) (by kernel_rfl) (by kernel_rfl) (fun _ _ _ h => h) (Or.inl ⟨by rfl, ?_⟩) (by assumption) ?_
   rotate_left 1
   ·(intro w hSw; (try dsimp only at hSw); go_simp; try with_reducible rfl)
   try simp only [Act.put, List.setIfInBounds_toArray, List.set_cons_zero, List.set_cons_succ]
   refine wpAnyL_take (i := 5) (oi := ⟨some 51, _, _, _, _, _⟩) (v := undef) rfl (by kernel_rfl) (by kernel_rfl) (by kernel_rfl) (by kernel_rfl) (by kernel_rfl) (fun _ _ _ h => h) (Or.inr ⟨by rfl, rfl⟩) (by assumption) ?_
   try simp only [Act.put, List.setIfInBounds_toArray, List.set_cons_zero, List.set_cons_succ]
   refine wpAnyL_take (i := 6) (oi := ⟨some 52, _, _, _, _, _⟩) (v := undef) rfl (by kernel_rfl) (by kernel_rfl) (by kernel_rfl) (by kernel_rfl) (by kernel_rfl) (fun _ _ _ h => h) (Or.inr ⟨by rfl, rfl⟩) (by assumption) ?_
   try simp only [Act.put, List.setIfInBounds_toArray, List.set_cons_zero, List.set_cons_succ]
   refine wpAnyL_take (i := 7) (oi := ⟨some 53, _, _, _, _, _⟩) (v := undef) rfl (by kernel_rfl) (by kernel_rfl) (by kernel_rfl) (by kernel_rfl) (by kernel_rfl) (fun _ _ _ h => h) (Or.inr ⟨by rfl, rfl⟩) (by assumption) ?_
   try simp only [Act.put, List.setIfInBounds_toArray, List.set_cons_zero, List.set_cons_succ]
   refine wpAnyL_take (i := 8) (oi := ⟨some 54, _, _, _, _, _⟩) (v := undef) rfl (by kernel_rfl) (by kernel_rfl) (by kernel_rfl) (by kernel_rfl) (by kernel_rfl) (fun _ _ _ h => h) (Or.inr ⟨by rfl, rfl⟩) (by assumption) ?_
   try simp only [Act.put, List.setIfInBounds_toArray, List.set_cons_zero, List.set_cons_succ]
   refine wpAnyL_take (i := 9) (oi := ⟨some 55, _, _, _, _, _⟩) (v := undef) rfl (by kernel_rfl) (by kernel_rfl) (by kernel_rfl) (by kernel_rfl) (by kernel_rfl) (fun _ _ _ h => h) (Or.inr ⟨by rfl, rfl⟩) (by assumption) ?_
   try simp only [Act.put, List.setIfInBounds_toArray, List.set_cons_zero, List.set_cons_succ]
   refine wpAnyL_take (i := 10) (oi := ⟨some 56, _, _, _, _, _⟩) (v := ?_) rfl (by kernel_rfl) (by kernel_rfl) (by kernel_rfl) (by kernel_rfl) (by kernel_rfl) (fun _ _ _ h => h) (Or.inl ⟨by rfl, ?_⟩) (by assumption) ?_
   rotate_left 1
   ·(intro w hSw; (try dsimp only at hSw); go_simp; try with_reducible rfl)
   try simp only [Act.put, List.setIfInBounds_toArray, List.set_cons_zero, List.set_cons_succ]
   refine wpAnyL_take (i := 11) (oi := ⟨some 57, _, _, _, _, _⟩) (v := ?_) rfl (by kernel_rfl) (by kernel_rfl) (by kernel_rfl) (by kernel_rfl) (by kernel_rfl) (fun _ _ _ h => h) (Or.inl ⟨by rfl, ?_⟩) (by assumption) ?_
   rotate_left 1
   ·(intro w hSw; (try dsimp only at hSw); go_simp; try with_reducible rfl)
   try simp only [Act.put, List.setIfInBounds_toArray, List.set_cons_zero, List.set_cons_succ]
   refine wpAnyL_take (i := 12) (oi := ⟨some 58, _, _, _, _, _⟩) (v := ?_) rfl (by kernel_rfl) (by kernel_rfl) (by kernel_rfl) (by kernel_rfl) (by kernel_rfl) (fun _ _ _ h => h) (Or.inl ⟨by rfl, ?_⟩) (by assumption) ?_
   rotate_left 1
   ·(intro w hSw; (try dsimp only at hSw); go_simp; try with_reducible rfl)
   try simp only [Act.put, List.setIfInBounds_toArray, List.set_cons_zero, List.set_cons_succ]
   refine wpAnyL_take (i := 13) (oi := ⟨some 59, _, _, _, _, _⟩) (v := ?_) rfl (by kernel_rfl) (by kernel_rfl) (by kernel_rfl) (by kernel_rfl) (by kernel_rfl) (fun _ _ _ h => h) (Or.inl ⟨by rfl, ?_⟩) (by assumption) ?_
   rotate_left 1
   ·(intro w hSw; (try dsimp only at hSw); go_simp; try with_reducible rfl)
   try simp only [Act.put, List.setIfInBounds_toArray, List.set_cons_zero, List.set_cons_succ]
   refine wpAnyL_take (i := 14) (oi := ⟨some 60, _, _, _, _, _⟩) (v := ?_) rfl (by kernel_rfl) (by kernel_rfl) (by kernel_rfl) (by kernel_rfl) (by kernel_rfl) (fun _ _ _ h => h) (Or.inl ⟨by rfl, ?_⟩) (by assumption) ?_
   rotate_left 1
   ·(intro w hSw; (try dsimp only at hSw); go_simp; try with_reducible rfl)
   try simp only [Act.put, List.setIfInBounds_toArray, List.set_cons_zero, List.set_cons_succ]
   refine wpAnyL_one (i := 15) (o := ⟨some 61, _, _, _, _, _⟩) (by kernel_rfl) rfl (fun K hK => ?_)
   go_simp
   refine (HJ.out _ (HN.out.below ((Below.refl _ _).drew) (Nat.le_refl _))).mono ?_
   rintro e w2 ⟨rfl, hb2⟩
   have hB2 := ((Below.refl w.heap.size w).drew).trans (hb2.mono (by exact Nat.le_refl _))
   have w21 : w2.cell? ⟨g, 1, none⟩ = some (.int .u8 (b : Int)) := by rw [(bcell hB2).1 _ _ hg]; exact c1
   have w22 : w2.cell? ⟨g, 2, none⟩ = some (.bool true) := by rw [(bcell hB2).1 _ _ hg]; exact c2
   have w23 : w2.cell? ⟨g, 3, none⟩ = some (.slice a n c) := by rw [(bcell hB2).1 _ _ hg]; exact c3
   refine hK.out _ _ (by exact ⟨w21, w22, w23⟩) ?_
   clear hK K hHeld
   intro hHeld
   try simp only [Act.put, List.setIfInBounds_toArray, List.set_cons_zero, List.set_cons_succ]
   refine wpAnyL_last (o := ⟨some 2, _, _, _, _, _⟩) (by kernel_rfl) (by kernel_rfl) rfl (fun K hK => ?_)
   go_simp
   refine hK _ _ ?_
   clear hK K hHeld
   try simp only [Act.put, List.setIfInBounds_toArray, List.set_cons_zero, List.set_cons_succ]
   go_wp2_with fail
   go_ret
   refine ⟨_, rfl, ⟨join_lt0 _ _ _, .inr (.inr (.inr ⟨H1.out, H2.out, H4.out, ?_⟩))⟩, hB2⟩
   rw [HZ0.out, Bool.true_or]
 ·go_enter Tryz.func68, Tryz.ntmps68
  go_wp2_with fail
  refine HI.out.mono ?_; rintro e w1 ⟨rfl, rfl⟩
  go_wp2_with fail
  refine hI2.out.mono ?_; rintro e w1 ⟨rfl, rfl⟩
  go_wp2_with fail
  go_ret
  exact ⟨_, rfl, ⟨by decide, .inr (.inr (.inl ⟨H1.out, H2.out, H4.out, rfl⟩))⟩, Below.refl _ _⟩
 ·go_enter Tryz.func68, Tryz.ntmps68
  go_wp2_with fail
  refine HI.out.mono ?_; rintro e w1 ⟨rfl, rfl⟩
  go_wp2_with fail
  refine hI1.out.mono ?_; rintro e w1 ⟨rfl, rfl⟩
  go_wp2_with fail
  go_ret
  exact ⟨_, rfl, ⟨by decide, .inr (.inl ⟨H1.out, H2.out, H4.out, rfl⟩)⟩, Below.refl _ _⟩
 ·go_enter Tryz.func68, Tryz.ntmps68
  go_wp2_with fail
  refine HI.out.mono ?_; rintro e w1 ⟨rfl, rfl⟩
  go_wp2_with fail
  refine hNaN.out.mono ?_; rintro e w1 ⟨rfl, rfl⟩
  go_wp2_with fail
  go_ret
  exact ⟨_, rfl, ⟨by decide, .inl ⟨.inr ⟨H2.out, H4.out⟩, by decide⟩⟩, Below.refl _ _⟩
 ·go_enter Tryz.func68, Tryz.ntmps68
  go_wp2_with fail
  refine HI.out.mono ?_; rintro e w1 ⟨rfl, rfl⟩
  go_wp2_with fail
  refine hNaN.out.mono ?_; rintro e w1 ⟨rfl, rfl⟩
  go_wp2_with fail
  go_ret
  exact ⟨_, rfl, ⟨by decide, .inl ⟨.inl H1.out, by decide⟩⟩, Below.refl _ _⟩
 ·go_enter Tryz.func68, Tryz.ntmps68
  go_wp2_with fail
  refine HI.out.mono ?_; rintro e w1 ⟨rfl, rfl⟩
  go_wp2_with fail
  refine hNaN.out.mono ?_; rintro e w1 ⟨rfl, rfl⟩
  go_wp2_with fail
  go_ret
  exact ⟨_, rfl, ⟨by decide, .inl ⟨.inl H1.out, by decide⟩⟩, Below.refl _ _⟩
 ·go_enter Tryz.func68, Tryz.ntmps68
  go_wp2_with fail
  refine HI.out.mono ?_; rintro e w1 ⟨rfl, rfl⟩
  go_wp2_with fail
  refine hNaN.out.mono ?_; rintro e w1 ⟨rfl, rfl⟩
  go_wp2_with fail
  go_ret
  exact ⟨_, rfl, ⟨by decide, .inl ⟨.inl H1.out, by decide⟩⟩, Below.refl _ _⟩
 ·go_enter Tryz.func68, Tryz.ntmps68
  go_wp2_with fail
  refine HI.out.mono ?_; rintro e w1 ⟨rfl, rfl⟩
  go_wp2_with fail
  refine hNaN.out.mono ?_; rintro e w1 ⟨rfl, rfl⟩
  go_wp2_with fail
  go_ret
  exact ⟨_, rfl, ⟨by decide, .inl ⟨.inl H1.out, by decide⟩⟩, Below.refl _ _⟩
end Go.Proofs.YtehmompbmnejkaaGreat
