/- Contract of package exact's Bytes. Conditions: below 2^2240 units. -/
import Derived.Test.YtdbkgpakpadloaaGreatMEx1
import Derived.Test.YtdbkgpakpadloaaGreatNatQ
import Derived.Test.YtdbkgpakpadloaaGreatMReg
import Derived.BigRegion
namespace Go.Proofs.YtdbkgpakpadloaaGreat
open Go.RowKit Ieee

/-- a word's bytes, the highest first -/
def be4 (x : Int) : List Int := [x / 16777216, x / 65536 % 256, x / 256 % 256, x % 256]
/-- the bytes of the highest j words -/
def tailB (xs : List Int) : Nat → List Int
 | 0 => []
 | j + 1 => tailB xs j ++ be4 (xs.getD (xs.length - 1 - j) 0)
/-- how many words at the beginning are 0 -/
def LowW (xs : List Int) (l : Nat) : Prop := l ≤ xs.length ∧ (∀ j, j < l → xs.getD j 0 = 0) ∧ (l < xs.length → xs.getD l 0 ≠ 0)
def IsBytes (b : Nat) (z : Int) (bs : List Int) : Prop :=
 ∃ xs l, Dig 4294967296 xs ∧ Trimmed xs ∧ V 4294967296 xs = ((z.natAbs : Nat) : Int) ∧ LowW xs l ∧ bs = [((b + (if z < 0 then 32 else 0) : Nat) : Int), (l : Int), ((xs.length - l : Nat) : Int)] ++ tailB xs (xs.length - l)
end Go.Proofs.YtdbkgpakpadloaaGreat
/- Contract of package exact's Bytes. Conditions: below 2^2240 units. -/
namespace Go.Proofs.YtdbkgpakpadloaaGreat
open Go.RowKit Ieee

end Go.Proofs.YtdbkgpakpadloaaGreat
/- Contract of package exact's Join. Conditions: both below 2^2240 units. -/
namespace Go.Proofs.YtdbkgpakpadloaaGreat
open Go.RowKit Ieee

end Go.Proofs.YtdbkgpakpadloaaGreat
/- Contracts of package exact's methods of a sum that is none: nil, or one that New did not make. No conditions. -/
namespace Go.Proofs.YtdbkgpakpadloaaGreat
open Go.RowKit Ieee

def Bad (w : World) (v : Value) : Prop := v = .pointer none ∨ ∃ g, v = .pointer (some ⟨g, 0, none⟩) ∧ w.cell? ⟨g, 0, none⟩ = some (.bool false) ∧ g < w.heap.size
theorem is_bad (w : World) (v : Value) (h : Bad w v) : Calls Tryz.prog 85 #[v] w fun e w' => e = .returned (.bool false) ∧ w = w' := by
 rcases h with rfl | ⟨g, rfl, h2, -⟩
 ·exact sumis_nil w
 ·exact sumis_not w g h2
theorem val_bad (w : World) (v : Value) (h : Bad w v) : Calls Tryz.prog 82 #[v] w fun e w' => e = .returned (.float .f64 0) ∧ w = w' := by
 have HI := Lib.hid (is_bad w v h)
 clear h
 go_enter Tryz.func82, Tryz.ntmps82
 go_wp2_with fail
 refine HI.out.mono ?_; rintro e w1 ⟨rfl, rfl⟩
 go_wp2_with fail
 go_ret
 exact ⟨rfl, rfl⟩
end Go.Proofs.YtdbkgpakpadloaaGreat
