/- A column's value, by definition, and the contract of package derive's Value at whole measures. No conditions but those stated. -/
import Derived.Test.YtdbkgpakpadloaaDerB
import Derived.Test.YtdbkgpakpadloaaMRat2
import Derived.Outline
namespace Go.Proofs.Ytdbkgpakpadloaa
open Go.RowKit Ieee
attribute [local go_sem] run_store_float

def lensB (s : Sch) (c a : CellV) : Bool := decide (c.ints.length = s.ints.length ∧ c.nums.length = s.nums.length ∧ a.ints.length = s.ints.length ∧ a.nums.length = s.nums.length)
theorem four_box (w : World) (t1 t2 t3 t4 t5 : TypeId) (c1 c2 c3 c4 c5 : Array Value) :
    let W := ((((w.alloc (.cells c1 t1)).alloc (.cells c2 t2)).alloc (.cells c3 t3)).alloc (.cells c4 t4)).alloc (.cells c5 t5)
    Blk W w.heap.size t1 c1 ∧ Blk W (w.heap.size + 1) t2 c2 ∧ Blk W (w.heap.size + 2) t3 c3 ∧ Blk W (w.heap.size + 3) t4 c4 ∧ Blk W (w.heap.size + 4) t5 c5 ∧ Below w.heap.size w W ∧ W.heap.size = w.heap.size + 5 := by
  intro W
  have h1 := Blk.new w t1 c1
  have h2 := Blk.new (w.alloc (.cells c1 t1)) t2 c2
  have h3 := Blk.new ((w.alloc (.cells c1 t1)).alloc (.cells c2 t2)) t3 c3
  have h4 := Blk.new (((w.alloc (.cells c1 t1)).alloc (.cells c2 t2)).alloc (.cells c3 t3)) t4 c4
  have h5 := Blk.new ((((w.alloc (.cells c1 t1)).alloc (.cells c2 t2)).alloc (.cells c3 t3)).alloc (.cells c4 t4)) t5 c5
  have e : ∀ (v : World) (o : Obj), (v.alloc o).heap.size = v.heap.size + 1 := fun v o => by simp
  rw [e] at h2
  rw [e, e] at h3
  rw [e, e, e] at h4
  rw [e, e, e, e] at h5
  refine ⟨(((h1.alloc _).alloc _).alloc _).alloc _, ((h2.alloc _).alloc _).alloc _, (h3.alloc _).alloc _, h4.alloc _, h5, ?_, ?_⟩
  · exact (((((Below.refl _ _).alloc (Nat.le_refl _) _).alloc (by rw [e]; omega) _).alloc (by rw [e, e]; omega) _).alloc (by rw [e, e, e]; omega) _).alloc (by rw [e, e, e, e]; omega) _
  · simp only [W, e]
/-- the value of a whole measure -/
def WhlVal (k : Int) (x y : Whl) (cnt : Int) (r : Bool) (n : Int) (z : Nat) : Prop :=
  (k = 1 ∧ r = false ∧ n = x.sum ∧ z = 0) ∨ (k = 2 ∧ r = false ∧ n = x.min ∧ z = 0) ∨ (k = 3 ∧ r = false ∧ n = x.max ∧ z = 0) ∨ (k = 4 ∧ r = true ∧ n = 0 ∧ IsMean x.sum cnt z) ∨
  (k = 5 ∧ r = true ∧ n = 0 ∧ IsDev cnt x.sum (V 4294967296 x.sq).toNat z) ∨ (k = 6 ∧ r = true ∧ n = 0 ∧ IsMean x.sum y.sum z)
/-- the answer of Value -/
def RVal (P : Bool → Int → Nat → Nat → Prop) (w : World) (e : Ending) (w' : World) : Prop :=
  ∃ (r : Bool) (n : Int) (z k : Nat), e = .returned (.tuple #[.agg #[.bool r, .int .i64 n, .float .f64 z], .int .i64 (k : Int)]) ∧ P r n z k ∧ Below w.heap.size w w'
def OkVal (s : Sch) (k m : Int) (c a : CellV) : Prop := chkS s = 0 ∧ colB s.ints.length s.nums.length k m = true ∧ lensB s c a = true
def DVal (s : Sch) (k m : Int) (c a : CellV) (real : Bool → Int → Nat → Prop) (r : Bool) (n : Int) (z e : Nat) : Prop :=
  (chkS s ≠ 0 ∧ e = 1 ∧ r = false ∧ n = 0 ∧ z = 0) ∨ (chkS s = 0 ∧ colB s.ints.length s.nums.length k m = false ∧ e = 2 ∧ r = false ∧ n = 0 ∧ z = 0) ∨
  (chkS s = 0 ∧ colB s.ints.length s.nums.length k m = true ∧ lensB s c a = false ∧ e = 3 ∧ r = false ∧ n = 0 ∧ z = 0) ∨
  (OkVal s k m c a ∧ e = 0 ∧ k = 0 ∧ r = false ∧ n = c.count ∧ z = 0) ∨
  (OkVal s k m c a ∧ e = 0 ∧ k ≠ 0 ∧ m < (s.ints.length : Int) ∧ WhlVal k (whlAt c.ints m.toNat) (whlAt a.ints m.toNat) c.count r n z) ∨
  (OkVal s k m c a ∧ e = 0 ∧ k ≠ 0 ∧ (s.ints.length : Int) ≤ m ∧ real r n z)
end Go.Proofs.Ytdbkgpakpadloaa
