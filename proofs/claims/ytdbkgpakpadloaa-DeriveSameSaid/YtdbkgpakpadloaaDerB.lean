/- Cells in memory, and what a column's value is. No conditions but those stated. -/
import Derived.Test.YtdbkgpakpadloaaDerA
import Derived.Test.YtdbkgpakpadloaaMRat2
namespace Go.Proofs.Ytdbkgpakpadloaa
open Go.RowKit Ieee

theorem run_store_float {P : Program} {w : World} {a : Addr} {m : Mode} (k : FloatKind) (b : Nat) : (store a (.float k b) m).run P w = stored P w a (.float k b) m := run_store P w a _ m rfl
attribute [local go_sem] run_store_float
structure Whl where
  sum : Int
  abs : Int
  sq : List Int
  a : Option Addr
  n : Nat
  c : Nat
  min : Int
  max : Int
structure Rel where
  sum : List Int
  a : Option Addr
  n : Nat
  c : Nat
  min : Nat
  max : Nat
structure CellV where
  key : Int
  count : Int
  ints : List Whl
  nums : List Rel
structure CellL where
  ai : Option Addr
  ni : Nat
  ci : Nat
  an : Option Addr
  nn : Nat
  cn : Nat
def CellL.val (l : CellL) (c : CellV) : Value := .agg #[.int .u64 c.key, .int .i64 c.count, .slice l.ai l.ni l.ci, .slice l.an l.nn l.cn]
def whlCells : List Whl → List Value
  | [] => []
  | d :: ds => .int .i64 d.sum :: .int .i64 d.abs :: .slice d.a d.n d.c :: .int .i64 d.min :: .int .i64 d.max :: whlCells ds
def whlAt (ds : List Whl) (i : Nat) : Whl := ds.getD i ⟨0, 0, [], none, 0, 0, 0, 0⟩
theorem whlCells_get : ∀ {ds : List Whl} {i : Nat}, i < ds.length → (whlCells ds).getD (i * 5) undef = .int .i64 (whlAt ds i).sum ∧ (whlCells ds).getD (i * 5 + 1) undef = .int .i64 (whlAt ds i).abs ∧
    (whlCells ds).getD (i * 5 + 2) undef = .slice (whlAt ds i).a (whlAt ds i).n (whlAt ds i).c ∧ (whlCells ds).getD (i * 5 + 3) undef = .int .i64 (whlAt ds i).min ∧ (whlCells ds).getD (i * 5 + 4) undef = .int .i64 (whlAt ds i).max
  | [], _, h => by simp at h
  | d :: ds, 0, _ => ⟨rfl, rfl, rfl, rfl, rfl⟩
  | d :: ds, i + 1, h => by
    have h2 := whlCells_get (ds := ds) (i := i) (by simpa using h)
    rw [show (i + 1) * 5 = i * 5 + 1 + 1 + 1 + 1 + 1 from by omega]
    have e : ∀ k, (whlCells (d :: ds)).getD (i * 5 + 1 + 1 + 1 + 1 + 1 + k) undef = (whlCells ds).getD (i * 5 + k) undef := fun k => by
      rw [show i * 5 + 1 + 1 + 1 + 1 + 1 + k = i * 5 + k + 1 + 1 + 1 + 1 + 1 from by omega]
      simp [whlCells]
    have e2 : whlAt (d :: ds) (i + 1) = whlAt ds i := by simp [whlAt]
    have e0 := e 0
    rw [Nat.add_zero, Nat.add_zero] at e0
    rw [e2, e0, e 1, e 2, e 3, e 4]
    exact h2
theorem whlAt_mem {ds : List Whl} {i : Nat} (h : i < ds.length) : whlAt ds i ∈ ds := by
  unfold whlAt; rw [List.getD_eq_getElem?_getD, List.getElem?_eq_getElem h]; exact List.getElem_mem h
def relCells : List Rel → List Value
  | [] => []
  | d :: ds => .slice d.a d.n d.c :: .float .f64 d.min :: .float .f64 d.max :: relCells ds
def relAt (ds : List Rel) (i : Nat) : Rel := ds.getD i ⟨[], none, 0, 0, 0, 0⟩
theorem relCells_get : ∀ {ds : List Rel} {i : Nat}, i < ds.length → (relCells ds).getD (i * 3) undef = .slice (relAt ds i).a (relAt ds i).n (relAt ds i).c ∧ (relCells ds).getD (i * 3 + 1) undef = .float .f64 (relAt ds i).min ∧ (relCells ds).getD (i * 3 + 2) undef = .float .f64 (relAt ds i).max
  | [], _, h => by simp at h
  | d :: ds, 0, _ => ⟨rfl, rfl, rfl⟩
  | d :: ds, i + 1, h => by
    have h2 := relCells_get (ds := ds) (i := i) (by simpa using h)
    rw [show (i + 1) * 3 = i * 3 + 1 + 1 + 1 from by omega]
    have e : ∀ k, (relCells (d :: ds)).getD (i * 3 + 1 + 1 + 1 + k) undef = (relCells ds).getD (i * 3 + k) undef := fun k => by
      rw [show i * 3 + 1 + 1 + 1 + k = i * 3 + k + 1 + 1 + 1 from by omega]
      simp [relCells]
    have e2 : relAt (d :: ds) (i + 1) = relAt ds i := by simp [relAt]
    have e0 := e 0
    rw [Nat.add_zero, Nat.add_zero] at e0
    rw [e2, e0, e 1, e 2]
    exact h2
theorem relAt_mem {ds : List Rel} {i : Nat} (h : i < ds.length) : relAt ds i ∈ ds := by
  unfold relAt; rw [List.getD_eq_getElem?_getD, List.getElem?_eq_getElem h]; exact List.getElem_mem h
def Whl.at_ (w : World) (x : Whl) : Prop := RowK .u32 w x.a x.n x.c x.sq ∧ Dig 4294967296 x.sq ∧ I64 x.sum ∧ I64 x.abs ∧ I64 x.min ∧ I64 x.max
def Rel.at_ (w : World) (x : Rel) : Prop := RowK .u8 w x.a x.n x.c x.sum ∧ (∀ b ∈ x.sum, 0 ≤ b ∧ b < 256) ∧ x.min < 18446744073709551616 ∧ x.max < 18446744073709551616
def CellAt (w : World) (l : CellL) (c : CellV) : Prop :=
  RowG 5 w l.ai l.ni l.ci (whlCells c.ints) ∧ c.ints.length = l.ni ∧ RowG 3 w l.an l.nn l.cn (relCells c.nums) ∧ c.nums.length = l.nn ∧ (0 ≤ c.key ∧ c.key ≤ 18446744073709551615) ∧ I64 c.count ∧ (∀ x ∈ c.ints, x.at_ w) ∧ (∀ x ∈ c.nums, x.at_ w)
theorem CellAt.below {w w' : World} {l : CellL} {c : CellV} {B : Nat} (h : CellAt w l c) (hb : Below B w w') (hB : w.heap.size ≤ B) : CellAt w' l c :=
  ⟨h.1.below hb hB, h.2.1, h.2.2.1.below hb hB, h.2.2.2.1, h.2.2.2.2.1, h.2.2.2.2.2.1, fun x hx => ⟨(h.2.2.2.2.2.2.1 x hx).1.below hb hB, (h.2.2.2.2.2.2.1 x hx).2⟩, fun x hx => ⟨(h.2.2.2.2.2.2.2 x hx).1.below hb hB, (h.2.2.2.2.2.2.2 x hx).2⟩⟩

set_option maxHeartbeats 2000000 in
theorem dwhole_any (w : World) (n : Int) : Calls Try.prog 16 #[.int .i64 n] w fun e w' => e = .returned (.agg #[.bool false, .int .i64 n, .float .f64 0]) ∧ Below w.heap.size w w' := by
  go_enter Try.func16, Try.ntmps16
  go_wp2_with fail
  refine bodyPost_ret (v := .agg #[.bool false, .int .i64 n, .float .f64 0]) (by simp [results, Try.results16, go_sem]) rfl ⟨rfl, ?_⟩
  exact (Below.refl _ _).alloc (Nat.le_refl _) _
set_option maxHeartbeats 2000000 in
theorem dreal_any (w : World) (x : Nat) : Calls Try.prog 18 #[.float .f64 x] w fun e w' => e = .returned (.agg #[.bool true, .int .i64 0, .float .f64 x]) ∧ Below w.heap.size w w' := by
  go_enter Try.func18, Try.ntmps18
  go_wp2_with fail
  refine bodyPost_ret (v := .agg #[.bool true, .int .i64 0, .float .f64 x]) (by simp [results, Try.results18, go_sem]) rfl ⟨rfl, ?_⟩
  exact (Below.refl _ _).alloc (Nat.le_refl _) _
end Go.Proofs.Ytdbkgpakpadloaa
