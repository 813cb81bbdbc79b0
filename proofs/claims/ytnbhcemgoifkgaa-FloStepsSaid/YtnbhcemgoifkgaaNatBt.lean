/- Contracts of package nat's Shl and Shr at any count, a number's bit by its words. Conditions: at most 80000 words. -/
import Derived.Test.YtnbhcemgoifkgaaNatP
namespace Go.Proofs.Ytnbhcemgoifkgaa
open Go.RowKit

theorem Arr.new {w : World} {k : IntKind} {e : TypeId} {cs : Array Value} {n : Nat} (xs : List Int) (h : cs = (xs.map (Value.int k)).toArray) (hn : n = w.heap.size) : Arr k e (w.alloc (.cells cs e)) n xs := by
  subst hn
  show (w.alloc _).heap[w.heap.size]? = _
  rw [heap_alloc_new, h]
/-- what the two shifts answer -/
def ShlOut (X : Int) (n : Int) (w : World) (e : Ending) (w' : World) : Prop :=
  ((n < 0 ∨ 8192 < n) ∧ e = .returned (.tuple #[.slice none 0 0, .bool false]) ∧ w = w') ∨ (∃ N : Nat, n = N ∧ N ≤ 8192 ∧ RetNatB w (X * 2 ^ N) e w')
theorem shl_all (a : Option Addr) (n c : Nat) (s : Int) (xs : List Int) (w : World) (ha : RowK .u32 w a n c xs) (hx : Dig 4294967296 xs) (hn0 : n ≤ 80000) :
    Calls Try.prog 34 #[.slice a n c, .int .i64 s] w (ShlOut (V 4294967296 xs) s w) := by
  by_cases h : s < 0 ∨ 8192 < s
  · refine (shl_no a n c s w h).mono ?_
    rintro e w' ⟨rfl, rfl⟩
    exact .inl ⟨h, rfl, rfl⟩
  · obtain ⟨N, rfl⟩ : ∃ N : Nat, s = N := ⟨s.toNat, by omega⟩
    refine (shl_any a n c N (N / 32) (N % 32) xs w ha hx hn0 (by omega) (by omega) (by omega)).mono ?_
    intro e w' h1
    exact .inr ⟨N, rfl, by omega, h1⟩
theorem shr_all (a : Option Addr) (n c : Nat) (s : Int) (xs : List Int) (w : World) (ha : RowK .u32 w a n c xs) (hx : Dig 4294967296 xs) (hn0 : n ≤ 80000) (hs : s ≤ 9223372036854775807) :
    Calls Try.prog 35 #[.slice a n c, .int .i64 s] w (RetNat w (V 4294967296 xs / 2 ^ s.toNat)) :=
  shr_any a n c s s.toNat (s.toNat / 32) (s.toNat % 32) xs w ha hx (by omega) rfl (by omega) (by omega) hs
/-- a number's bit, by its words -/
theorem bit_at {ks : List Int} {i j : Nat} (hk : Dig 4294967296 ks) (hi : i < ks.length) (hj : j ≤ 31) : ks.getD i 0 / 2 ^ j % 2 = V 4294967296 ks / 2 ^ (32 * i + j) % 2 := by
  obtain ⟨r, hr⟩ : ∃ r, V 4294967296 ks = vf 4294967296 (fun t => ks.getD t 0) i + 4294967296 ^ i * (ks.getD i 0 + 4294967296 * r) := by
    have h : ∀ n, ∃ r, vf 4294967296 (fun t => ks.getD t 0) (i + 1 + n) = vf 4294967296 (fun t => ks.getD t 0) i + 4294967296 ^ i * (ks.getD i 0 + 4294967296 * r) := by
      intro n
      induction n with
      | zero => exact ⟨0, by rw [Int.mul_zero, Int.add_zero, Int.mul_comm]; rfl⟩
      | succ n ih =>
        obtain ⟨r, hr⟩ := ih
        refine ⟨r + ks.getD (i + 1 + n) 0 * 4294967296 ^ n, ?_⟩
        show vf 4294967296 (fun t => ks.getD t 0) (i + 1 + n) + ks.getD (i + 1 + n) 0 * 4294967296 ^ (i + 1 + n) = _
        rw [hr, Int.mul_add 4294967296 r, ← Int.add_assoc, Int.mul_add (4294967296 ^ i) (ks.getD i 0 + _), ← Int.add_assoc]
        congr 1
        rw [Int.pow_add, Int.pow_succ]
        ac_rfl
    obtain ⟨n, hn⟩ : ∃ n, ks.length = i + 1 + n := ⟨ks.length - (i + 1), by omega⟩
    unfold V
    rw [hn]
    exact h n
  have hlo := vf_bd (B := 4294967296) (by decide) (f := fun t => ks.getD t 0) i fun t _ => hk.at (by decide) t
  have e : (2 : Int) ^ (32 * i + j) = 4294967296 ^ i * 2 ^ j := by rw [Int.pow_add, Int.pow_mul]; rfl
  have p : (0 : Int) < 4294967296 ^ i := Int.pow_pos (by decide)
  rw [hr, e, ← Int.ediv_ediv_of_nonneg (Int.le_of_lt p), Int.add_mul_ediv_left _ _ (Int.ne_of_gt p), Int.ediv_eq_zero_of_lt hlo.1 hlo.2, Int.zero_add]
  obtain ⟨q, hq⟩ : ∃ q : Int, 4294967296 = 2 ^ j * (2 * q) := ⟨2 ^ (31 - j), by rw [Int.mul_comm 2, ← Int.pow_succ, ← Int.pow_add, show j + (31 - j + 1) = 32 from by omega]; rfl⟩
  have p2 : (0 : Int) < 2 ^ j := Int.pow_pos (by decide)
  have e2 : (4294967296 : Int) * r = 2 ^ j * (2 * (q * r)) := by rw [← Int.mul_assoc 2, ← Int.mul_assoc, ← hq]
  rw [e2, Int.add_mul_ediv_left _ _ (Int.ne_of_gt p2)]
  omega
end Go.Proofs.Ytnbhcemgoifkgaa
