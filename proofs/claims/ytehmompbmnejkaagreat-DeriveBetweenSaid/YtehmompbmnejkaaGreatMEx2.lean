/- Contract of package exact's Bytes. Conditions: below 2^2240 units. -/
import Derived.Test.YtehmompbmnejkaaGreatMEx1
import Derived.Test.YtehmompbmnejkaaGreatMNtB
import Derived.Test.YtehmompbmnejkaaGreatMReg
import Derived.BigRegion
namespace Go.Proofs.YtehmompbmnejkaaGreat
open Go.RowKit Ieee

theorem info_u8e : (Tryz.prog.info? 5).map (fun i => (i.zero, i.size, i.bytes)) = some (some (.int .u8 0), 1, 1) := by kernel_rfl
theorem OwnK.three (k : IntKind) (w : World) (e : TypeId) (d0 d1 d2 : Int) : OwnK k (w.alloc (.cells #[.int k d0, .int k d1, .int k d2] e)) w.heap.size e (.slice (some ⟨w.heap.size, 0, none⟩) 3 3) 3 [d0, d1, d2] := by
 refine ⟨rfl, .inr ⟨w.heap.size, 3, #[.int k d0, .int k d1, .int k d2], rfl, Nat.le_refl _, heap_alloc_new w _, Nat.le_refl _, by unfold maxLen; omega, by simp, by simp⟩⟩

/-- a word's bytes, the highest first -/
def be4 (x : Int) : List Int := [x / 16777216, x / 65536 % 256, x / 256 % 256, x % 256]
/-- the bytes of the highest j words -/
def tailB (xs : List Int) : Nat → List Int
 | 0 => []
 | j + 1 => tailB xs j ++ be4 (xs.getD (xs.length - 1 - j) 0)
/-- how many words at the beginning are 0 -/
def LowW (xs : List Int) (l : Nat) : Prop := l ≤ xs.length ∧ (∀ j, j < l → xs.getD j 0 = 0) ∧ (l < xs.length → xs.getD l 0 ≠ 0)
def IsBytes (b : Nat) (z : Int) (bs : List Int) : Prop :=
 ∃ xs l, Dig 4294967296 xs ∧ Trimmed xs ∧ V 4294967296 xs = ((z.natAbs : Nat) : Int) ∧ LowW xs l ∧ bs = [((b + (if z < 0 then 32 else 0) : Nat) : Int), (l : Int), ((xs.length - l : Nat) : Int)] ++ tailB xs (xs.length - l)
theorem tailB_len (xs : List Int) : ∀ j, (tailB xs j).length = 4 * j
 | 0 => rfl
 | j + 1 => by
  show (tailB xs j ++ be4 _).length = _
  rw [List.length_append, tailB_len xs j]
  rfl
def RBytes (b : Nat) (z : Int) (w : World) (e : Ending) (w' : World) : Prop := ∃ a n c bs, e = .returned (.slice a n c) ∧ RowK .u8 w' a n c bs ∧ IsBytes b z bs ∧ Below w.heap.size w w' ∧ Fresh w.heap.size a

end Go.Proofs.YtehmompbmnejkaaGreat
/- Contract of package exact's Bytes. Conditions: below 2^2240 units. -/
namespace Go.Proofs.YtehmompbmnejkaaGreat
open Go.RowKit Ieee

theorem wrap_u8 {x y : Int} (h : x % 256 = y) : IntKind.u8.wrap x = y := by
 simp only [IntKind.wrap, IntKind.bits, IntKind.signed]
 simp
 omega
theorem tail_more {xs : List Int} {j : Nat} {h : List Int} {x : Int} (hx : xs.getD (xs.length - 1 - j) 0 = x) : h ++ tailB xs j ++ be4 x = h ++ tailB xs (j + 1) := by
 rw [List.append_assoc, ← hx]; rfl

end Go.Proofs.YtehmompbmnejkaaGreat
/- Contract of package exact's Join. Conditions: both below 2^2240 units. -/
namespace Go.Proofs.YtehmompbmnejkaaGreat
open Go.RowKit Ieee

def joinF (b d : Nat) (z y : Int) : Nat := if (z + y).natAbs < ROOM then b ||| d else b
end Go.Proofs.YtehmompbmnejkaaGreat
/- Contracts of package exact's methods of a sum that is none: nil, or one that New did not make. No conditions. -/
namespace Go.Proofs.YtehmompbmnejkaaGreat
open Go.RowKit Ieee

def Bad (w : World) (v : Value) : Prop := v = .pointer none ∨ ∃ g, v = .pointer (some ⟨g, 0, none⟩) ∧ w.cell? ⟨g, 0, none⟩ = some (.bool false) ∧ g < w.heap.size
theorem is_bad (w : World) (v : Value) (h : Bad w v) : Calls Tryz.prog 71 #[v] w fun e w' => e = .returned (.bool false) ∧ w = w' := by
 rcases h with rfl | ⟨g, rfl, h2, -⟩
 ·exact sumis_nil w
 ·exact sumis_not w g h2
theorem val_bad (w : World) (v : Value) (h : Bad w v) : Calls Tryz.prog 68 #[v] w fun e w' => e = .returned (.float .f64 0) ∧ w = w' := by
 have HI := Lib.hid (is_bad w v h)
 clear h
 go_enter Tryz.func68, Tryz.ntmps68
 go_wp2_with fail
 refine HI.out.mono ?_; rintro e w1 ⟨rfl, rfl⟩
 go_wp2_with fail
 go_ret
 exact ⟨rfl, rfl⟩
end Go.Proofs.YtehmompbmnejkaaGreat
