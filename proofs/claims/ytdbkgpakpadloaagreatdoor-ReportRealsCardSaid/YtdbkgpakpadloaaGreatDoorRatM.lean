/- The walk of the law RatioRoots. No conditions. -/
import Derived.Test.YtdbkgpakpadloaaGreatDoorMEx3
import Derived.Test.YtdbkgpakpadloaaGreatDoorRatJ
namespace Go.Proofs.YtdbkgpakpadloaaGreatDoor
open Go.RowKit Ieee

theorem row_nat {n m : Nat} {xs : List Int} (hx : Dig 4294967296 xs) (hl : xs.length = n) (hn : n ≤ m) : ∃ X : Nat, V 4294967296 xs = (X : Int) ∧ X < 2 ^ (32 * m) := by
  have VX := V_bd (B := 4294967296) (by decide) hx
  rw [hl] at VX
  obtain ⟨X, hX⟩ : ∃ X : Nat, V 4294967296 xs = (X : Int) := ⟨(V 4294967296 xs).toNat, by omega⟩
  refine ⟨X, hX, ?_⟩
  have h1 : (X : Int) < 4294967296 ^ m := by
    rw [← hX]
    exact Int.lt_of_lt_of_le VX.2 (ipow_le (by decide) hn)
  have h2 : (2 : Nat) ^ (32 * m) = 4294967296 ^ m := by rw [Nat.pow_mul]
  rw [h2]
  exact Int.ofNat_lt.1 (by rw [Int.natCast_pow]; exact h1)
theorem rsame_key {z y : Nat} (hz : z < 18446744073709551616) (hy : y < 18446744073709551616) (h : keyN z = keyN y) (w : World) :
    Calls Tryz.prog 9 #[.float .f64 z, .float .f64 y] w fun e w' => e = .returned (.bool true) ∧ Below w.heap.size w w' := by
  have := rsame_any z y w hz hy
  rw [decide_eq_true h] at this
  exact this

end Go.Proofs.YtdbkgpakpadloaaGreatDoor
