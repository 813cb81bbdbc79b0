/- Cells in memory, and what a column's value is. No conditions but those stated. -/
import Derived.Test.YtehmompbmnejkaaGreatMDbC
import Derived.Test.YtehmompbmnejkaaGreatMRat2
import Derived.Outline
import Derived.StillTailTactics
namespace Go.Proofs.YtehmompbmnejkaaGreat
open Go.RowKit Ieee

theorem run_store_float {P : Program} {w : World} {a : Addr} {m : Mode} (k : FloatKind) (b : Nat) : (store a (.float k b) m).run P w = stored P w a (.float k b) m := run_store P w a _ m rfl
attribute [local go_sem] run_store_float
structure Whl where
 sum : Int
 abs : Int
 sq : List Int
 a : Option Addr
 n : Nat
 c : Nat
 min : Int
 max : Int
structure Rel where
 sum : List Int
 a : Option Addr
 n : Nat
 c : Nat
 min : Nat
 max : Nat
structure CellV where
 key : Int
 count : Int
 ints : List Whl
 nums : List Rel
structure CellL where
 ai : Option Addr
 ni : Nat
 ci : Nat
 an : Option Addr
 nn : Nat
 cn : Nat
def CellL.val (l : CellL) (c : CellV) : Value := .agg #[.int .u64 c.key, .int .i64 c.count, .slice l.ai l.ni l.ci, .slice l.an l.nn l.cn]
def whlCells : List Whl → List Value
 | [] => []
 | d :: ds => .int .i64 d.sum :: .int .i64 d.abs :: .slice d.a d.n d.c :: .int .i64 d.min :: .int .i64 d.max :: whlCells ds
def whlAt (ds : List Whl) (i : Nat) : Whl := ds.getD i ⟨0, 0, [], none, 0, 0, 0, 0⟩
theorem whlCells_get : ∀ {ds : List Whl} {i : Nat}, i < ds.length → (whlCells ds).getD (i * 5) undef = .int .i64 (whlAt ds i).sum ∧ (whlCells ds).getD (i * 5 + 1) undef = .int .i64 (whlAt ds i).abs ∧
  (whlCells ds).getD (i * 5 + 2) undef = .slice (whlAt ds i).a (whlAt ds i).n (whlAt ds i).c ∧ (whlCells ds).getD (i * 5 + 3) undef = .int .i64 (whlAt ds i).min ∧ (whlCells ds).getD (i * 5 + 4) undef = .int .i64 (whlAt ds i).max
 | [], _, h => by simp at h
 | d :: ds, 0, _ => ⟨rfl, rfl, rfl, rfl, rfl⟩
 | d :: ds, i + 1, h => by
  have h2 := whlCells_get (ds := ds) (i := i) (by simpa using h)
  rw [show (i + 1) * 5 = i * 5 + 1 + 1 + 1 + 1 + 1 from by omega]
  have e : ∀ k, (whlCells (d :: ds)).getD (i * 5 + 1 + 1 + 1 + 1 + 1 + k) undef = (whlCells ds).getD (i * 5 + k) undef := fun k => by
   rw [show i * 5 + 1 + 1 + 1 + 1 + 1 + k = i * 5 + k + 1 + 1 + 1 + 1 + 1 from by omega]
   simp [whlCells]
  have e2 : whlAt (d :: ds) (i + 1) = whlAt ds i := by simp [whlAt]
  have e0 := e 0
  rw [Nat.add_zero, Nat.add_zero] at e0
  rw [e2, e0, e 1, e 2, e 3, e 4]
  exact h2
theorem whlAt_mem {ds : List Whl} {i : Nat} (h : i < ds.length) : whlAt ds i ∈ ds := by
 unfold whlAt; rw [List.getD_eq_getElem?_getD, List.getElem?_eq_getElem h]; exact List.getElem_mem h
def relCells : List Rel → List Value
 | [] => []
 | d :: ds => .slice d.a d.n d.c :: .float .f64 d.min :: .float .f64 d.max :: relCells ds
def relAt (ds : List Rel) (i : Nat) : Rel := ds.getD i ⟨[], none, 0, 0, 0, 0⟩
theorem relCells_get : ∀ {ds : List Rel} {i : Nat}, i < ds.length → (relCells ds).getD (i * 3) undef = .slice (relAt ds i).a (relAt ds i).n (relAt ds i).c ∧ (relCells ds).getD (i * 3 + 1) undef = .float .f64 (relAt ds i).min ∧ (relCells ds).getD (i * 3 + 2) undef = .float .f64 (relAt ds i).max
 | [], _, h => by simp at h
 | d :: ds, 0, _ => ⟨rfl, rfl, rfl⟩
 | d :: ds, i + 1, h => by
  have h2 := relCells_get (ds := ds) (i := i) (by simpa using h)
  rw [show (i + 1) * 3 = i * 3 + 1 + 1 + 1 from by omega]
  have e : ∀ k, (relCells (d :: ds)).getD (i * 3 + 1 + 1 + 1 + k) undef = (relCells ds).getD (i * 3 + k) undef := fun k => by
   rw [show i * 3 + 1 + 1 + 1 + k = i * 3 + k + 1 + 1 + 1 from by omega]
   simp [relCells]
  have e2 : relAt (d :: ds) (i + 1) = relAt ds i := by simp [relAt]
  have e0 := e 0
  rw [Nat.add_zero, Nat.add_zero] at e0
  rw [e2, e0, e 1, e 2]
  exact h2
theorem relAt_mem {ds : List Rel} {i : Nat} (h : i < ds.length) : relAt ds i ∈ ds := by
 unfold relAt; rw [List.getD_eq_getElem?_getD, List.getElem?_eq_getElem h]; exact List.getElem_mem h
def Whl.at_ (w : World) (x : Whl) : Prop := RowK .u32 w x.a x.n x.c x.sq ∧ Dig 4294967296 x.sq ∧ I64 x.sum ∧ I64 x.abs ∧ I64 x.min ∧ I64 x.max
def Rel.at_ (w : World) (x : Rel) : Prop := RowK .u8 w x.a x.n x.c x.sum ∧ (∀ b ∈ x.sum, 0 ≤ b ∧ b < 256) ∧ x.min < 18446744073709551616 ∧ x.max < 18446744073709551616
def CellAt (w : World) (l : CellL) (c : CellV) : Prop :=
 RowG 5 w l.ai l.ni l.ci (whlCells c.ints) ∧ c.ints.length = l.ni ∧ RowG 3 w l.an l.nn l.cn (relCells c.nums) ∧ c.nums.length = l.nn ∧ (0 ≤ c.key ∧ c.key ≤ 18446744073709551615) ∧ I64 c.count ∧ (∀ x ∈ c.ints, x.at_ w) ∧ (∀ x ∈ c.nums, x.at_ w)
theorem CellAt.below {w w' : World} {l : CellL} {c : CellV} {B : Nat} (h : CellAt w l c) (hb : Below B w w') (hB : w.heap.size ≤ B) : CellAt w' l c :=
 ⟨h.1.below hb hB, h.2.1, h.2.2.1.below hb hB, h.2.2.2.1, h.2.2.2.2.1, h.2.2.2.2.2.1, fun x hx => ⟨(h.2.2.2.2.2.2.1 x hx).1.below hb hB, (h.2.2.2.2.2.2.1 x hx).2⟩, fun x hx => ⟨(h.2.2.2.2.2.2.2 x hx).1.below hb hB, (h.2.2.2.2.2.2.2 x hx).2⟩⟩

set_option maxHeartbeats 2000000 in
theorem dwhole_any (w : World) (n : Int) : Calls Tryz.prog 19 #[.int .i64 n] w fun e w' => e = .returned (.agg #[.bool false, .int .i64 n, .float .f64 0]) ∧ Below w.heap.size w w' := by
 go_enter Tryz.func19, Tryz.ntmps19
 go_wp2_with fail
 refine bodyPost_ret (v := .agg #[.bool false, .int .i64 n, .float .f64 0]) (by simp [results, Tryz.results19, go_sem]) rfl ⟨rfl, ?_⟩
 exact (Below.refl _ _).alloc (Nat.le_refl _) _
set_option maxHeartbeats 2000000 in
theorem dreal_any (w : World) (x : Nat) : Calls Tryz.prog 21 #[.float .f64 x] w fun e w' => e = .returned (.agg #[.bool true, .int .i64 0, .float .f64 x]) ∧ Below w.heap.size w w' := by
 go_enter Tryz.func21, Tryz.ntmps21
 go_wp2_with fail
 refine bodyPost_ret (v := .agg #[.bool true, .int .i64 0, .float .f64 x]) (by simp [results, Tryz.results21, go_sem]) rfl ⟨rfl, ?_⟩
 exact (Below.refl _ _).alloc (Nat.le_refl _) _
end Go.Proofs.YtehmompbmnejkaaGreat
/- A column's value, by definition, and the contract of package derive's Value at whole measures. No conditions but those stated. -/
namespace Go.Proofs.YtehmompbmnejkaaGreat
open Go.RowKit Ieee
attribute [local go_sem] run_store_float

def lensB (s : Sch) (c a : CellV) : Bool := decide (c.ints.length = s.ints.length ∧ c.nums.length = s.nums.length ∧ a.ints.length = s.ints.length ∧ a.nums.length = s.nums.length)
theorem four_box (w : World) (t1 t2 t3 t4 t5 : TypeId) (c1 c2 c3 c4 c5 : Array Value) :
  let W := ((((w.alloc (.cells c1 t1)).alloc (.cells c2 t2)).alloc (.cells c3 t3)).alloc (.cells c4 t4)).alloc (.cells c5 t5)
  Blk W w.heap.size t1 c1 ∧ Blk W (w.heap.size + 1) t2 c2 ∧ Blk W (w.heap.size + 2) t3 c3 ∧ Blk W (w.heap.size + 3) t4 c4 ∧ Blk W (w.heap.size + 4) t5 c5 ∧ Below w.heap.size w W ∧ W.heap.size = w.heap.size + 5 := by
 intro W
 have h1 := Blk.new w t1 c1
 have h2 := Blk.new (w.alloc (.cells c1 t1)) t2 c2
 have h3 := Blk.new ((w.alloc (.cells c1 t1)).alloc (.cells c2 t2)) t3 c3
 have h4 := Blk.new (((w.alloc (.cells c1 t1)).alloc (.cells c2 t2)).alloc (.cells c3 t3)) t4 c4
 have h5 := Blk.new ((((w.alloc (.cells c1 t1)).alloc (.cells c2 t2)).alloc (.cells c3 t3)).alloc (.cells c4 t4)) t5 c5
 have e : ∀ (v : World) (o : Obj), (v.alloc o).heap.size = v.heap.size + 1 := fun v o => by simp
 rw [e] at h2
 rw [e, e] at h3
 rw [e, e, e] at h4
 rw [e, e, e, e] at h5
 refine ⟨(((h1.alloc _).alloc _).alloc _).alloc _, ((h2.alloc _).alloc _).alloc _, (h3.alloc _).alloc _, h4.alloc _, h5, ?_, ?_⟩
 ·exact (((((Below.refl _ _).alloc (Nat.le_refl _) _).alloc (by rw [e]; omega) _).alloc (by rw [e, e]; omega) _).alloc (by rw [e, e, e]; omega) _).alloc (by rw [e, e, e, e]; omega) _
 ·simp only [W, e]
/-- the value of a whole measure -/
def WhlVal (k : Int) (x y : Whl) (cnt : Int) (r : Bool) (n : Int) (z : Nat) : Prop :=
 (k = 1 ∧ r = false ∧ n = x.sum ∧ z = 0) ∨ (k = 2 ∧ r = false ∧ n = x.min ∧ z = 0) ∨ (k = 3 ∧ r = false ∧ n = x.max ∧ z = 0) ∨ (k = 4 ∧ r = true ∧ n = 0 ∧ IsMean x.sum cnt z) ∨
 (k = 5 ∧ r = true ∧ n = 0 ∧ IsDev cnt x.sum (V 4294967296 x.sq).toNat z) ∨ (k = 6 ∧ r = true ∧ n = 0 ∧ IsMean x.sum y.sum z)
/-- the answer of Value -/
def RDVal (P : Bool → Int → Nat → Nat → Prop) (w : World) (e : Ending) (w' : World) : Prop :=
 ∃ (r : Bool) (n : Int) (z k : Nat), e = .returned (.tuple #[.agg #[.bool r, .int .i64 n, .float .f64 z], .int .i64 (k : Int)]) ∧ P r n z k ∧ Below w.heap.size w w'
def OkVal (s : Sch) (k m : Int) (c a : CellV) : Prop := chkS s = 0 ∧ colB s.ints.length s.nums.length k m = true ∧ lensB s c a = true
def DVal (s : Sch) (k m : Int) (c a : CellV) (real : Bool → Int → Nat → Prop) (r : Bool) (n : Int) (z e : Nat) : Prop :=
 (chkS s ≠ 0 ∧ e = 1 ∧ r = false ∧ n = 0 ∧ z = 0) ∨ (chkS s = 0 ∧ colB s.ints.length s.nums.length k m = false ∧ e = 2 ∧ r = false ∧ n = 0 ∧ z = 0) ∨
 (chkS s = 0 ∧ colB s.ints.length s.nums.length k m = true ∧ lensB s c a = false ∧ e = 3 ∧ r = false ∧ n = 0 ∧ z = 0) ∨
 (OkVal s k m c a ∧ e = 0 ∧ k = 0 ∧ r = false ∧ n = c.count ∧ z = 0) ∨
 (OkVal s k m c a ∧ e = 0 ∧ k ≠ 0 ∧ m < (s.ints.length : Int) ∧ WhlVal k (whlAt c.ints m.toNat) (whlAt a.ints m.toNat) c.count r n z) ∨
 (OkVal s k m c a ∧ e = 0 ∧ k ≠ 0 ∧ (s.ints.length : Int) ≤ m ∧ real r n z)
end Go.Proofs.YtehmompbmnejkaaGreat
/- The contract of package derive's Value. No conditions but those stated. -/
namespace Go.Proofs.YtehmompbmnejkaaGreat
open Go.RowKit Ieee
attribute [local go_sem] run_store_float

theorem sq_bound {xs : List Int} (h : Dig 4294967296 xs) (hl : xs.length ≤ 20) : ∃ K, K ≤ 1000 ∧ (V 4294967296 xs).toNat < 2 ^ K ∧ V 4294967296 xs = ((V 4294967296 xs).toNat : Int) := by
 obtain ⟨h0, h1⟩ := V_bd (by decide) h
 refine ⟨32 * xs.length, by omega, ?_, by omega⟩
 have e : (4294967296 : Int) ^ xs.length = ((2 ^ (32 * xs.length) : Nat) : Int) := by rw [Nat.pow_mul, Int.natCast_pow]; rfl
 rw [e] at h1
 omega
def RReal (real : Bool → Int → Nat → Prop) (w : World) (e : Ending) (w' : World) : Prop := ∃ z, e = .returned (.agg #[.bool true, .int .i64 0, .float .f64 z]) ∧ real true 0 z ∧ Below w.heap.size w w'
/-- what the value of a real measure is -/
def RealCall (s : Sch) (k m : Int) (c : CellV) (real : Bool → Int → Nat → Prop) : Prop :=
 1 ≤ k → k ≤ 4 → (s.ints.length : Int) ≤ m → m - s.ints.length < (c.nums.length : Int) → ∀ w', (relAt c.nums (m - s.ints.length).toNat).at_ w' →
  Calls Tryz.prog 20 #[.int .i64 k, .agg #[.slice (relAt c.nums (m - s.ints.length).toNat).a (relAt c.nums (m - s.ints.length).toNat).n (relAt c.nums (m - s.ints.length).toNat).c, .float .f64 (relAt c.nums (m - s.ints.length).toNat).min, .float .f64 (relAt c.nums (m - s.ints.length).toNat).max], .int .i64 c.count] w' (RReal real w')
theorem dval_results {w : World} {s : Nat} {k : Int} {tmps : Array Value} {v0 v1 v2 : Value} (h2 : tmps[8]? = some (.pointer (some ⟨s, 0, none⟩))) (h3 : tmps[9]? = some (.int .i64 k))
  (hk : Blk w s 37 #[v0, v1, v2]) :
  (Sem.run Tryz.prog (results Tryz.f8 tmps) w) = .ok (.tuple #[.agg #[v0, v1, v2], .int .i64 k]) w := by
 have d0 := hk.cell 0
 have d1 := hk.cell 1
 have d2 := hk.cell 2
 clear hk
 simp at d0 d1 d2
 simp [results, Tryz.results8, go_sem, h2, h3, d0, d1, d2]
theorem col_says4 {ni nn : Nat} {k m : Int} (h : colB ni nn k m = true) (hk : k ≠ 0) (hm : (ni : Int) ≤ m) : k ≤ 4 := by
 unfold colB at h
 rw [if_neg hk] at h
 split at h
 ·omega
 ·split at h
  ·have := of_decide_eq_true h; omega
  ·cases h
theorem col_says {ni nn : Nat} {k m : Int} (h : colB ni nn k m = true) (hk : k ≠ 0) : 0 ≤ m ∧ m < (ni + nn : Nat) ∧ 1 ≤ k ∧ k ≤ 6 := by
 unfold colB at h
 rw [if_neg hk] at h
 split at h
 ·have := of_decide_eq_true h; omega
 ·split at h
  ·have := of_decide_eq_true h; omega
  ·cases h
theorem Blk.three {w : World} {s : Nat} {t : TypeId} {v0 v1 v2 : Value} (h : Blk w s t #[v0, v1, v2]) (u0 u1 u2 : Value) : Blk (((w.setCell ⟨s, 0, none⟩ u0).setCell ⟨s, 1, none⟩ u1).setCell ⟨s, 2, none⟩ u2) s t #[u0, u1, u2] :=
 (((h.set_ 0 u0).set_ 1 u1).set_ 2 u2).to rfl
theorem RDVal.mk {P : Bool → Int → Nat → Nat → Prop} {w w0 wr : World} {S N : Nat} {r : Bool} {n : Int} {z k : Nat} (hP : P r n z k) (hS : w.heap.size = S) (hbw : Below S w w0) (hn : S ≤ N) (hb : Below N w0 wr) :
  RDVal P w (.returned (.tuple #[.agg #[.bool r, .int .i64 n, .float .f64 z], .int .i64 (k : Int)])) (((wr.setCell ⟨S + 4, 0, none⟩ (.bool r)).setCell ⟨S + 4, 1, none⟩ (.int .i64 n)).setCell ⟨S + 4, 2, none⟩ (.float .f64 z)) := by
 subst hS
 exact ⟨r, n, z, k, rfl, hP, (((hbw.trans (hb.mono hn)).setCell (Nat.le_add_right _ 4) _).setCell (Nat.le_add_right _ 4) _).setCell (Nat.le_add_right _ 4) _⟩
set_option maxRecDepth 100000 in
set_option maxHeartbeats 4000000 in
theorem dvalue_any (w : World) (l : SchL) (s : Sch) (k m : Int) (lc la : CellL) (c a : CellV) (real : Bool → Int → Nat → Prop) (h : SchAt w l s) (hk : I64 k) (hm : I64 m) (hc : CellAt w lc c) (ha : CellAt w la a) (hsq : Hid (∀ x ∈ c.ints, x.n ≤ 20)) (hre : RealCall s k m c real) :
  Calls Tryz.prog 8 #[l.val, .agg #[.int .i64 k, .int .i64 m], lc.val c, la.val a] w (RDVal (DVal s k m c a real) w) := by
 obtain ⟨ad, nd, cd, ai, ni, ci, an, nn, cn, av, nv, cv⟩ := l
 obtain ⟨ci1, cn1, cc1, ci2, cn2, cc2⟩ := lc
 obtain ⟨ai1, an1, ac1, ai2, an2, ac2⟩ := la
 have HLN := Lib.hid (And.intro (show s.ints.length = ni from h.2.2.1.1) (And.intro (show s.nums.length = nn from h.2.2.2.1.1) (And.intro (show c.ints.length = cn1 from hc.2.1) (And.intro (show c.nums.length = cn2 from hc.2.2.2.1) (And.intro (show a.ints.length = an1 from ha.2.1) (show a.nums.length = an2 from ha.2.2.2.1))))))
 obtain ⟨ck, hck⟩ : ∃ x, c.key = x := ⟨_, rfl⟩
 obtain ⟨cq, hcq⟩ : ∃ x, c.count = x := ⟨_, rfl⟩
 obtain ⟨ak, hak⟩ : ∃ x, a.key = x := ⟨_, rfl⟩
 obtain ⟨aq, haq⟩ : ∃ x, a.count = x := ⟨_, rfl⟩
 unfold SchL.val CellL.val
 simp only
 rw [hck, hcq, hak, haq]
 have HV := Lib.hid (And.intro hck (And.intro hcq (And.intro hak haq)))
 obtain ⟨b1, b2, b3, b4, b5, hbw, hsz⟩ := four_box w 26 42 47 47 37 #[.slice ad nd cd, .slice ai ni ci, .slice an nn cn, .slice av nv cv] #[.int .i64 k, .int .i64 m] #[.int .u64 ck, .int .i64 cq, .slice ci1 cn1 cc1, .slice ci2 cn2 cc2] #[.int .u64 ak, .int .i64 aq, .slice ai1 an1 ac1, .slice ai2 an2 ac2] #[.bool false, .int .i64 0, .float .f64 0]
 have HS := Lib.hid (h.below hbw (Nat.le_refl _))
 have HC := Lib.hid (hc.below hbw (Nat.le_refl _))
 have HA := Lib.hid (ha.below hbw (Nat.le_refl _))
 have HBW := Lib.hid hbw
 have HKM := Lib.hid (And.intro hk hm)
 have HK1 := Lib.hid b1
 have HK2 := Lib.hid b2
 have HK3 := Lib.hid b3
 have HK4 := Lib.hid b4
 have HK5 := Lib.hid b5
 have HSZ := Lib.hid hsz
 clear h hc ha hbw hk hm b1 b2 b3 b4 b5 hsz hck hcq hak haq
 go_enter Tryz.func8, Tryz.ntmps8
 go_upto_region 1 with fail
 generalize (((((w.alloc (.cells #[.slice ad nd cd, .slice ai ni ci, .slice an nn cn, .slice av nv cv] 26)).alloc (.cells #[.int .i64 k, .int .i64 m] 42)).alloc (.cells #[.int .u64 ck, .int .i64 cq, .slice ci1 cn1 cc1, .slice ci2 cn2 cc2] 47)).alloc (.cells #[.int .u64 ak, .int .i64 aq, .slice ai1 an1 ac1, .slice ai2 an2 ac2] 47)).alloc (.cells #[.bool false, .int .i64 0, .float .f64 0] 37)) = w0 at *
 generalize hS : w.heap.size = S at *
 have HSS := Lib.hid hS
 clear hS
 obtain ⟨K, hK⟩ : ∃ K, chkS s = K := ⟨_, rfl⟩
 have HK := Lib.hid hK
 clear hK
 have b1 := HK1.out
 have e0 := b1.c 0
 have e1 := b1.c 1
 have e2 := b1.c 2
 have e3 := b1.c 3
 clear b1
 go_wp2_with fail
 refine (schk_any _ ⟨ad, nd, cd, ai, ni, ci, an, nn, cn, av, nv, cv⟩ s HS.out).mono ?_
 rintro e w1 ⟨rfl, hb1⟩
 rw [HK.out]
 have HB1 : Hid (Below (S + 5) w0 w1) := Lib.hid (by rw [← HSZ.out]; exact hb1)
 have HS1 := Lib.hid (HS.out.below hb1 (Nat.le_refl _))
 clear hb1 e0 e1 e2 e3
 by_cases hk0 : K = 0
 case neg =>
  have hk2 : ((K : Int) != 0) = true := by simp; omega
  have hkz := HK5.out.below HB1.out (by omega)
  have z0 := hkz.c 0
  have z1 := hkz.c 1
  have z2 := hkz.c 2
  have zf : ∀ o, w1.frozen? ⟨S + 4, o, none⟩ = false := fun o => hkz.frozen o
  have HKZ := Lib.hid (hkz.three (.bool false) (.int .i64 0) (.float .f64 0))
  have HRZ := Lib.hid (RDVal.mk (P := DVal s k m c a real) (r := false) (n := 0) (z := 0) (k := 1) (.inl ⟨by rw [HK.out]; exact hk0, rfl, rfl, rfl, rfl⟩) HSS.out HBW.out (Nat.le_add_right S 5) HB1.out)
  clear hkz hk0
  go_wp2_with fail
  refine bodyPost_ret ?_ ?_ HRZ.out
  rotate_left
  ·rfl
  ·exact dval_results rfl rfl HKZ.out
 case pos =>
  subst hk0
  obtain ⟨d1, d2, d3, d4⟩ := chk_dims HK.out
  rw [HLN.out.1] at d3
  rw [HLN.out.2.1] at d4
  have hq1 := HK1.out.below HB1.out (by omega)
  have x10 := hq1.c 0
  have x11 := hq1.c 1
  have x12 := hq1.c 2
  have x13 := hq1.c 3
  clear hq1
  have hq2 := HK2.out.below HB1.out (by omega)
  have x20 := hq2.c 0
  have x21 := hq2.c 1
  clear hq2
  obtain ⟨MB, hMB⟩ : ∃ b, mayB s k m = b := ⟨_, rfl⟩
  have HMB : Hid (colB s.ints.length s.nums.length k m = MB) := Lib.hid (by rw [← hMB]; unfold mayB; rw [decide_eq_true HK.out]; rfl)
  have HCALL : Hid (∀ w', SchAt w' ⟨ad, nd, cd, ai, ni, ci, an, nn, cn, av, nv, cv⟩ s → Calls Tryz.prog 18 #[.agg #[.slice ad nd cd, .slice ai ni ci, .slice an nn cn, .slice av nv cv], .agg #[.int .i64 k, .int .i64 m]] w' fun e w'' => e = .returned (.bool MB) ∧ Below w'.heap.size w' w'') := Lib.hid (fun w' h1 => by
   have h := may_any w' _ s k m h1 HKM.out.1 HKM.out.2
   rw [hMB] at h
   exact h)
  clear hMB
  go_wp2_with fail
  refine (HCALL.out _ HS1.out).mono ?_; rintro e w2 ⟨rfl, hb2⟩
  have HB2 := Lib.hid (HB1.out.trans (hb2.mono (by have := HB1.out.size; rw [HSZ.out] at this; exact this)))
  clear hb2 HCALL HS1
  clear x10 x11 x12 x13 x20 x21
  rcases MB with _ | _
  ·have hkz := HK5.out.below HB2.out (by omega)
   have z0 := hkz.c 0
   have z1 := hkz.c 1
   have z2 := hkz.c 2
   have zf : ∀ o, w2.frozen? ⟨S + 4, o, none⟩ = false := fun o => hkz.frozen o
   have HKZ := Lib.hid (hkz.three (.bool false) (.int .i64 0) (.float .f64 0))
   have HRZ := Lib.hid (RDVal.mk (P := DVal s k m c a real) (r := false) (n := 0) (z := 0) (k := 2) (.inr (.inl ⟨HK.out, HMB.out, rfl, rfl, rfl, rfl⟩)) HSS.out HBW.out (Nat.le_add_right S 5) HB2.out)
   clear hkz
   go_wp2_with fail
   refine bodyPost_ret ?_ ?_ HRZ.out
   rotate_left
   ·rfl
   ·exact dval_results rfl rfl HKZ.out
  ·have hq3 := HK3.out.below HB2.out (by omega)
   have x30 := hq3.c 0
   have x31 := hq3.c 1
   have x32 := hq3.c 2
   have x33 := hq3.c 3
   clear hq3
   have hq4 := HK4.out.below HB2.out (by omega)
   have x40 := hq4.c 0
   have x41 := hq4.c 1
   have x42 := hq4.c 2
   have x43 := hq4.c 3
   clear hq4
   obtain ⟨hbG, hbwG, hszG⟩ := boxed w2 47 #[.int .u64 ck, .int .i64 cq, .slice ci1 cn1 cc1, .slice ci2 cn2 cc2, .int .u64 ak, .int .i64 aq, .slice ai1 an1 ac1, .slice ai2 an2 ac2]
   have g0 := hbG 0
   have g1 := hbG 1
   have g2 := hbG 2
   have g3 := hbG 3
   have g4 := hbG 4
   have g5 := hbG 5
   have g6 := hbG 6
   have g7 := hbG 7
   simp only [List.getElem?_toArray, List.getElem?_cons_zero, List.getElem?_cons_succ] at g0 g1 g2 g3 g4 g5 g6 g7
   have HG := Lib.hid (And.intro g0 (And.intro g1 (And.intro g2 (And.intro g3 (And.intro g4 (And.intro g5 (And.intro g6 (g7))))))))
   have HB3 : Hid (Below (S + 5) w0 (w2.alloc (.cells #[.int .u64 ck, .int .i64 cq, .slice ci1 cn1 cc1, .slice ci2 cn2 cc2, .int .u64 ak, .int .i64 aq, .slice ai1 an1 ac1, .slice ai2 an2 ac2] 47))) := Lib.hid (HB2.out.trans (hbwG.mono (by have := HB2.out.size; rw [HSZ.out] at this; exact this)))
   obtain ⟨N3, hN3⟩ : ∃ N, (w2.alloc (.cells #[.int .u64 ck, .int .i64 cq, .slice ci1 cn1 cc1, .slice ci2 cn2 cc2, .int .u64 ak, .int .i64 aq, .slice ai1 an1 ac1, .slice ai2 an2 ac2] 47)).heap.size = N := ⟨_, rfl⟩
   have HGN : Hid (w2.heap.size < N3 ∧ S + 5 ≤ w2.heap.size) := Lib.hid ⟨by rw [← hN3, hszG]; omega, by have := HB2.out.size; rw [HSZ.out] at this; exact this⟩
   clear hbG hbwG hszG g0 g1 g2 g3 g4 g5 g6 g7
   go_upto_region 6 with fail
   generalize (w2.alloc (.cells #[.int .u64 ck, .int .i64 cq, .slice ci1 cn1 cc1, .slice ci2 cn2 cc2, .int .u64 ak, .int .i64 aq, .slice ai1 an1 ac1, .slice ai2 an2 ac2] 47)) = w3 at *
   generalize w2.heap.size = G at *
   have HN3 := Lib.hid hN3
   clear hN3
   clear x30 x31 x32 x33 x40 x41 x42 x43
   go_loopg [26] 2 (fun q iu wr => ((iu = .int .i64 0 ∧ q = 2) ∨ (iu = .int .i64 1 ∧ q = 1 ∧ cn1 = ni ∧ cn2 = nn) ∨ (iu = .int .i64 2 ∧ q = 0 ∧ cn1 = ni ∧ cn2 = nn ∧ an1 = ni ∧ an2 = nn)) ∧ Below N3 w3 wr)
   case atStart => exact ⟨.inl ⟨rfl, rfl⟩, Below.refl _ _⟩
   case round =>
    obtain ⟨hcs, hb⟩ := hrel
    have HBR := Lib.hid hb
    have HB4 : Hid (Below (S + 5) w0 wr) := Lib.hid (HB3.out.trans (hb.mono (by have := HGN.out; omega)))
    have hsz : N3 ≤ wr.heap.size := by have := hb.size; rw [HN3.out] at this; exact this
    clear hb
    rcases hcs with ⟨rfl, rfl⟩ | ⟨rfl, rfl, hcs⟩ | ⟨rfl, rfl, h1, h2, h3, h4⟩
    ·have g0 : wr.cell? ⟨G, 0, none⟩ = some (.int .u64 ck) := by rw [HBR.out.cell (p := ⟨G, 0, none⟩) HGN.out.1]; exact HG.out.1
     have g1 : wr.cell? ⟨G, 1, none⟩ = some (.int .i64 cq) := by rw [HBR.out.cell (p := ⟨G, 1, none⟩) HGN.out.1]; exact HG.out.2.1
     have g2 : wr.cell? ⟨G, 2, none⟩ = some (.slice ci1 cn1 cc1) := by rw [HBR.out.cell (p := ⟨G, 2, none⟩) HGN.out.1]; exact HG.out.2.2.1
     have g3 : wr.cell? ⟨G, 3, none⟩ = some (.slice ci2 cn2 cc2) := by rw [HBR.out.cell (p := ⟨G, 3, none⟩) HGN.out.1]; exact HG.out.2.2.2.1
     have x11 : wr.cell? ⟨S, 1, none⟩ = some (.slice ai ni ci) := (HK1.out.below HB4.out (by omega)).cell 1
     have x12 : wr.cell? ⟨S, 2, none⟩ = some (.slice an nn cn) := (HK1.out.below HB4.out (by omega)).cell 2
     have hSw : S < wr.heap.size := by have := HGN.out; omega
     obtain ⟨A, hA⟩ : ∃ A, ((cn1 : Int) != (ni : Int)) = A := ⟨_, rfl⟩
     obtain ⟨B, hB⟩ : ∃ B, ((cn2 : Int) != (nn : Int)) = B := ⟨_, rfl⟩
     have HA1 : Hid (A = decide (cn1 ≠ ni)) := Lib.hid (by rw [← hA, Bool.eq_iff_iff, bne_iff_ne, decide_eq_true_eq]; omega)
     have HB1' : Hid (B = decide (cn2 ≠ nn)) := Lib.hid (by rw [← hB, Bool.eq_iff_iff, bne_iff_ne, decide_eq_true_eq]; omega)
     rcases A with _ | _
     ·rcases B with _ | _
      ·have HH : Hid (cn1 = ni ∧ cn2 = nn) := Lib.hid ⟨Classical.not_not.1 (of_decide_eq_false HA1.out.symm), Classical.not_not.1 (of_decide_eq_false HB1'.out.symm)⟩
       have HBN := Lib.hid (HBR.out.alloc hsz (.cells #[.int .u64 ck, .int .i64 cq, .slice ci1 cn1 cc1, .slice ci2 cn2 cc2] 47))
       go_wp2_with fail
       go_roundg 1
       case measure => omega
       case rel =>
        have hh := HH.out
        exact ⟨.inr (.inl ⟨rfl, rfl, hh⟩), HBN.out⟩
      ·have HLB : Hid (lensB s c a = false) := Lib.hid (by
        unfold lensB
        rw [HLN.out.1, HLN.out.2.1, HLN.out.2.2.1, HLN.out.2.2.2.1, HLN.out.2.2.2.2.1, HLN.out.2.2.2.2.2]
        refine decide_eq_false fun hh => ?_
        have := of_decide_eq_true HB1'.out.symm
        omega)
       have hb5 := HB4.out.alloc (show S + 5 ≤ wr.heap.size by have := HGN.out; omega) (.cells #[.int .u64 ck, .int .i64 cq, .slice ci1 cn1 cc1, .slice ci2 cn2 cc2] 47)
       have HB5 := Lib.hid hb5
       clear hb5
       have hkz := HK5.out.below HB5.out (by omega)
       have z0 : (wr.alloc (.cells #[.int .u64 ck, .int .i64 cq, .slice ci1 cn1 cc1, .slice ci2 cn2 cc2] 47)).cell? ⟨S + 4, 0, none⟩ = some (.bool false) := hkz.cell 0
       have z1 : (wr.alloc (.cells #[.int .u64 ck, .int .i64 cq, .slice ci1 cn1 cc1, .slice ci2 cn2 cc2] 47)).cell? ⟨S + 4, 1, none⟩ = some (.int .i64 0) := hkz.cell 1
       have z2 : (wr.alloc (.cells #[.int .u64 ck, .int .i64 cq, .slice ci1 cn1 cc1, .slice ci2 cn2 cc2] 47)).cell? ⟨S + 4, 2, none⟩ = some (.float .f64 0) := hkz.cell 2
       have zf : ∀ o, (wr.alloc (.cells #[.int .u64 ck, .int .i64 cq, .slice ci1 cn1 cc1, .slice ci2 cn2 cc2] 47)).frozen? ⟨S + 4, o, none⟩ = false := fun o => hkz.frozen o
       have HKZ := Lib.hid (hkz.three (.bool false) (.int .i64 0) (.float .f64 0))
       have HRZ := Lib.hid (RDVal.mk (P := DVal s k m c a real) (r := false) (n := 0) (z := 0) (k := 3) (.inr (.inr (.inl ⟨HK.out, HMB.out, HLB.out, rfl, rfl, rfl, rfl⟩))) HSS.out HBW.out (Nat.le_add_right S 5) HB5.out)
       clear hkz
       go_wp2_with fail
       refine bodyPost_ret ?_ ?_ HRZ.out
       rotate_left
       ·rfl
       ·exact dval_results rfl rfl HKZ.out
     ·have HLB : Hid (lensB s c a = false) := Lib.hid (by
       unfold lensB
       rw [HLN.out.1, HLN.out.2.1, HLN.out.2.2.1, HLN.out.2.2.2.1, HLN.out.2.2.2.2.1, HLN.out.2.2.2.2.2]
       refine decide_eq_false fun hh => ?_
       have := of_decide_eq_true HA1.out.symm
       omega)
      have hb5 := HB4.out.alloc (show S + 5 ≤ wr.heap.size by have := HGN.out; omega) (.cells #[.int .u64 ck, .int .i64 cq, .slice ci1 cn1 cc1, .slice ci2 cn2 cc2] 47)
      have HB5 := Lib.hid hb5
      clear hb5
      have hkz := HK5.out.below HB5.out (by omega)
      have z0 : (wr.alloc (.cells #[.int .u64 ck, .int .i64 cq, .slice ci1 cn1 cc1, .slice ci2 cn2 cc2] 47)).cell? ⟨S + 4, 0, none⟩ = some (.bool false) := hkz.cell 0
      have z1 : (wr.alloc (.cells #[.int .u64 ck, .int .i64 cq, .slice ci1 cn1 cc1, .slice ci2 cn2 cc2] 47)).cell? ⟨S + 4, 1, none⟩ = some (.int .i64 0) := hkz.cell 1
      have z2 : (wr.alloc (.cells #[.int .u64 ck, .int .i64 cq, .slice ci1 cn1 cc1, .slice ci2 cn2 cc2] 47)).cell? ⟨S + 4, 2, none⟩ = some (.float .f64 0) := hkz.cell 2
      have zf : ∀ o, (wr.alloc (.cells #[.int .u64 ck, .int .i64 cq, .slice ci1 cn1 cc1, .slice ci2 cn2 cc2] 47)).frozen? ⟨S + 4, o, none⟩ = false := fun o => hkz.frozen o
      have HKZ := Lib.hid (hkz.three (.bool false) (.int .i64 0) (.float .f64 0))
      have HRZ := Lib.hid (RDVal.mk (P := DVal s k m c a real) (r := false) (n := 0) (z := 0) (k := 3) (.inr (.inr (.inl ⟨HK.out, HMB.out, HLB.out, rfl, rfl, rfl, rfl⟩))) HSS.out HBW.out (Nat.le_add_right S 5) HB5.out)
      clear hkz
      go_wp2_with fail
      refine bodyPost_ret ?_ ?_ HRZ.out
      rotate_left
      ·rfl
      ·exact dval_results rfl rfl HKZ.out
    ·have g4 : wr.cell? ⟨G, 4, none⟩ = some (.int .u64 ak) := by rw [HBR.out.cell (p := ⟨G, 4, none⟩) HGN.out.1]; exact HG.out.2.2.2.2.1
     have g5 : wr.cell? ⟨G, 5, none⟩ = some (.int .i64 aq) := by rw [HBR.out.cell (p := ⟨G, 5, none⟩) HGN.out.1]; exact HG.out.2.2.2.2.2.1
     have g6 : wr.cell? ⟨G, 6, none⟩ = some (.slice ai1 an1 ac1) := by rw [HBR.out.cell (p := ⟨G, 6, none⟩) HGN.out.1]; exact HG.out.2.2.2.2.2.2.1
     have g7 : wr.cell? ⟨G, 7, none⟩ = some (.slice ai2 an2 ac2) := by rw [HBR.out.cell (p := ⟨G, 7, none⟩) HGN.out.1]; exact HG.out.2.2.2.2.2.2.2
     have x11 : wr.cell? ⟨S, 1, none⟩ = some (.slice ai ni ci) := (HK1.out.below HB4.out (by omega)).cell 1
     have x12 : wr.cell? ⟨S, 2, none⟩ = some (.slice an nn cn) := (HK1.out.below HB4.out (by omega)).cell 2
     have hSw : S < wr.heap.size := by have := HGN.out; omega
     obtain ⟨A, hA⟩ : ∃ A, ((an1 : Int) != (ni : Int)) = A := ⟨_, rfl⟩
     obtain ⟨B, hB⟩ : ∃ B, ((an2 : Int) != (nn : Int)) = B := ⟨_, rfl⟩
     have HA1 : Hid (A = decide (an1 ≠ ni)) := Lib.hid (by rw [← hA, Bool.eq_iff_iff, bne_iff_ne, decide_eq_true_eq]; omega)
     have HB1' : Hid (B = decide (an2 ≠ nn)) := Lib.hid (by rw [← hB, Bool.eq_iff_iff, bne_iff_ne, decide_eq_true_eq]; omega)
     rcases A with _ | _
     ·rcases B with _ | _
      ·have HH : Hid (an1 = ni ∧ an2 = nn) := Lib.hid ⟨Classical.not_not.1 (of_decide_eq_false HA1.out.symm), Classical.not_not.1 (of_decide_eq_false HB1'.out.symm)⟩
       have HBN := Lib.hid (HBR.out.alloc hsz (.cells #[.int .u64 ak, .int .i64 aq, .slice ai1 an1 ac1, .slice ai2 an2 ac2] 47))
       have HCS := Lib.hid hcs
       clear hcs
       go_wp2_with fail
       go_roundg 0
       case measure => omega
       case rel =>
        have hh := HH.out
        have hcs := HCS.out
        exact ⟨.inr (.inr ⟨rfl, rfl, hcs.1, hcs.2, hh⟩), HBN.out⟩
      ·have HLB : Hid (lensB s c a = false) := Lib.hid (by
        unfold lensB
        rw [HLN.out.1, HLN.out.2.1, HLN.out.2.2.1, HLN.out.2.2.2.1, HLN.out.2.2.2.2.1, HLN.out.2.2.2.2.2]
        refine decide_eq_false fun hh => ?_
        have := of_decide_eq_true HB1'.out.symm
        omega)
       have hb5 := HB4.out.alloc (show S + 5 ≤ wr.heap.size by have := HGN.out; omega) (.cells #[.int .u64 ak, .int .i64 aq, .slice ai1 an1 ac1, .slice ai2 an2 ac2] 47)
       have HB5 := Lib.hid hb5
       clear hb5
       have hkz := HK5.out.below HB5.out (by omega)
       have z0 : (wr.alloc (.cells #[.int .u64 ak, .int .i64 aq, .slice ai1 an1 ac1, .slice ai2 an2 ac2] 47)).cell? ⟨S + 4, 0, none⟩ = some (.bool false) := hkz.cell 0
       have z1 : (wr.alloc (.cells #[.int .u64 ak, .int .i64 aq, .slice ai1 an1 ac1, .slice ai2 an2 ac2] 47)).cell? ⟨S + 4, 1, none⟩ = some (.int .i64 0) := hkz.cell 1
       have z2 : (wr.alloc (.cells #[.int .u64 ak, .int .i64 aq, .slice ai1 an1 ac1, .slice ai2 an2 ac2] 47)).cell? ⟨S + 4, 2, none⟩ = some (.float .f64 0) := hkz.cell 2
       have zf : ∀ o, (wr.alloc (.cells #[.int .u64 ak, .int .i64 aq, .slice ai1 an1 ac1, .slice ai2 an2 ac2] 47)).frozen? ⟨S + 4, o, none⟩ = false := fun o => hkz.frozen o
       have HKZ := Lib.hid (hkz.three (.bool false) (.int .i64 0) (.float .f64 0))
       have HRZ := Lib.hid (RDVal.mk (P := DVal s k m c a real) (r := false) (n := 0) (z := 0) (k := 3) (.inr (.inr (.inl ⟨HK.out, HMB.out, HLB.out, rfl, rfl, rfl, rfl⟩))) HSS.out HBW.out (Nat.le_add_right S 5) HB5.out)
       clear hkz
       go_wp2_with fail
       refine bodyPost_ret ?_ ?_ HRZ.out
       rotate_left
       ·rfl
       ·exact dval_results rfl rfl HKZ.out
     ·have HLB : Hid (lensB s c a = false) := Lib.hid (by
       unfold lensB
       rw [HLN.out.1, HLN.out.2.1, HLN.out.2.2.1, HLN.out.2.2.2.1, HLN.out.2.2.2.2.1, HLN.out.2.2.2.2.2]
       refine decide_eq_false fun hh => ?_
       have := of_decide_eq_true HA1.out.symm
       omega)
      have hb5 := HB4.out.alloc (show S + 5 ≤ wr.heap.size by have := HGN.out; omega) (.cells #[.int .u64 ak, .int .i64 aq, .slice ai1 an1 ac1, .slice ai2 an2 ac2] 47)
      have HB5 := Lib.hid hb5
      clear hb5
      have hkz := HK5.out.below HB5.out (by omega)
      have z0 : (wr.alloc (.cells #[.int .u64 ak, .int .i64 aq, .slice ai1 an1 ac1, .slice ai2 an2 ac2] 47)).cell? ⟨S + 4, 0, none⟩ = some (.bool false) := hkz.cell 0
      have z1 : (wr.alloc (.cells #[.int .u64 ak, .int .i64 aq, .slice ai1 an1 ac1, .slice ai2 an2 ac2] 47)).cell? ⟨S + 4, 1, none⟩ = some (.int .i64 0) := hkz.cell 1
      have z2 : (wr.alloc (.cells #[.int .u64 ak, .int .i64 aq, .slice ai1 an1 ac1, .slice ai2 an2 ac2] 47)).cell? ⟨S + 4, 2, none⟩ = some (.float .f64 0) := hkz.cell 2
      have zf : ∀ o, (wr.alloc (.cells #[.int .u64 ak, .int .i64 aq, .slice ai1 an1 ac1, .slice ai2 an2 ac2] 47)).frozen? ⟨S + 4, o, none⟩ = false := fun o => hkz.frozen o
      have HKZ := Lib.hid (hkz.three (.bool false) (.int .i64 0) (.float .f64 0))
      have HRZ := Lib.hid (RDVal.mk (P := DVal s k m c a real) (r := false) (n := 0) (z := 0) (k := 3) (.inr (.inr (.inl ⟨HK.out, HMB.out, HLB.out, rfl, rfl, rfl, rfl⟩))) HSS.out HBW.out (Nat.le_add_right S 5) HB5.out)
      clear hkz
      go_wp2_with fail
      refine bodyPost_ret ?_ ?_ HRZ.out
      rotate_left
      ·rfl
      ·exact dval_results rfl rfl HKZ.out
    ·clear HBR HG HB3 HGN HN3 hsz
     have HLB : Hid (lensB s c a = true) := Lib.hid (by
      unfold lensB
      rw [HLN.out.1, HLN.out.2.1, HLN.out.2.2.1, HLN.out.2.2.2.1, HLN.out.2.2.2.2.1, HLN.out.2.2.2.2.2]
      exact decide_eq_true ⟨h1, h2, h3, h4⟩)
     have HOK : Hid (OkVal s k m c a) := Lib.hid ⟨HK.out, HMB.out, HLB.out⟩
     have HLL := Lib.hid (And.intro h1 (And.intro h2 (And.intro h3 h4)))
     clear h1 h2 h3 h4
     have x20 : wr.cell? ⟨S + 1, 0, none⟩ = some (.int .i64 k) := (HK2.out.below HB4.out (by omega)).cell 0
     have x21 : wr.cell? ⟨S + 1, 1, none⟩ = some (.int .i64 m) := (HK2.out.below HB4.out (by omega)).cell 1
     have x31 : wr.cell? ⟨S + 2, 1, none⟩ = some (.int .i64 cq) := (HK3.out.below HB4.out (by omega)).cell 1
     have x32 : wr.cell? ⟨S + 2, 2, none⟩ = some (.slice ci1 cn1 cc1) := (HK3.out.below HB4.out (by omega)).cell 2
     have x11 : wr.cell? ⟨S, 1, none⟩ = some (.slice ai ni ci) := (HK1.out.below HB4.out (by omega)).cell 1
     have hSw : S + 5 ≤ wr.heap.size := by have := HB4.out.size; rw [HSZ.out] at this; exact this
     by_cases hk0 : k = 0
     ·rw [hk0] at x20
      have HK0 := Lib.hid hk0
      clear hk0
      go_wp2_with fail
      refine (dwhole_any _ cq).mono ?_; rintro e w5 ⟨rfl, hb5⟩
      have HB5 := Lib.hid (HB4.out.trans (hb5.mono hSw))
      clear hb5 x20 x21 x31 x32 x11
      have hkz := HK5.out.below HB5.out (by omega)
      have z0 := hkz.c 0
      have z1 := hkz.c 1
      have z2 := hkz.c 2
      have zf : ∀ o, w5.frozen? ⟨S + 4, o, none⟩ = false := fun o => hkz.frozen o
      have HKZ := Lib.hid (hkz.three (.bool false) (.int .i64 cq) (.float .f64 0))
      have HRZ := Lib.hid (RDVal.mk (P := DVal s k m c a real) (r := false) (n := cq) (z := 0) (k := 0) (.inr (.inr (.inr (.inl ⟨HOK.out, rfl, HK0.out, rfl, HV.out.2.1.symm, rfl⟩)))) HSS.out HBW.out (Nat.le_add_right S 5) HB5.out)
      clear hkz
      go_wp2_with fail
      refine bodyPost_ret ?_ ?_ HRZ.out
      rotate_left
      ·rfl
      ·exact dval_results rfl rfl HKZ.out
     have t0 : (k == 0) = false := by simpa using hk0
     have HK4C : Hid ((s.ints.length : Int) ≤ m → k ≤ 4) := Lib.hid (fun h => col_says4 HMB.out hk0 h)
     obtain ⟨hm0, hmn, hk1, hk6⟩ : 0 ≤ m ∧ m < (ni + nn : Nat) ∧ 1 ≤ k ∧ k ≤ 6 := col_says (by rw [← HLN.out.1, ← HLN.out.2.1]; exact HMB.out) hk0
     obtain ⟨mk, rfl⟩ : ∃ mk : Nat, m = (mk : Int) := ⟨m.toNat, by omega⟩
     by_cases hmi : ni ≤ mk
     ·as_aux_lemma =>
      obtain ⟨j, hmj⟩ : ∃ j : Nat, mk = ni + j := ⟨mk - ni, by omega⟩
      have hj : j < cn2 := by have := HLL.out.2.1; omega
      have hMJ : (mk : Int) = ni + j := by omega
      clear hmi hmj
      generalize ((mk : Nat) : Int) = M at *
      clear mk
      have HMJ := Lib.hid hMJ
      have t1 : decide ((ni : Int) ≤ M) = true := decide_eq_true (by omega)
      have hM0 : (ni : Int) ≤ M := by omega
      obtain ⟨b, off, e, hbl, hcw⟩ := (HC.out.2.2.1.below HB4.out (Nat.le_of_eq HSZ.out)).at (by show 0 < cn2; omega)
      simp only at e
      subst e
      have c0 := hcw (j * 3) (by show j * 3 < cn2 * 3; omega)
      have c1 := hcw (j * 3 + 1) (by show j * 3 + 1 < cn2 * 3; omega)
      have c2 := hcw (j * 3 + 2) (by show j * 3 + 2 < cn2 * 3; omega)
      obtain ⟨p0, p1, p2⟩ := relCells_get (ds := c.nums) (i := j) (by rw [HLN.out.2.2.2.1]; exact hj)
      have HW := Lib.hid (HC.out.2.2.2.2.2.2.2 (relAt c.nums j) (relAt_mem (by rw [HLN.out.2.2.2.1]; exact hj)))
      have HRE := Lib.hid (hre hk1 (HK4C.out (by rw [HLN.out.1]; omega)) (by rw [HLN.out.1]; omega) (by rw [HLN.out.1, HLN.out.2.2.2.1]; omega))
      rw [show M - (s.ints.length : Int) = (j : Int) from by rw [HLN.out.1]; omega, Int.toNat_natCast, HV.out.2.1] at HRE
      obtain ⟨X, hX⟩ : ∃ x, relAt c.nums j = x := ⟨_, rfl⟩
      rw [hX] at p0 p1 p2 HW HRE
      obtain ⟨xs, xqa, xqn, xqc, xmin, xmax⟩ := X
      simp only at p0 p1 p2 HRE
      rw [p0] at c0
      rw [p1, ← Nat.add_assoc] at c1
      rw [p2, ← Nat.add_assoc] at c2
      have HMI : Hid ((s.ints.length : Int) ≤ M) := Lib.hid (by rw [HLN.out.1]; omega)
      have HK0 := Lib.hid hk0
      have x33 : wr.cell? ⟨S + 2, 3, none⟩ = some (.slice (some ⟨b, off, none⟩) cn2 cc2) := (HK3.out.below HB4.out (by omega)).cell 3
      have t5 : IntKind.i64.wrap (M - (ni : Int)) = (j : Int) := by rw [show M - (ni : Int) = j from by omega]; exact IntWalk.i64_in _ ⟨by omega, by omega⟩
      clear hMJ
      clear p0 p1 p2 hcw hbl hX hk1 hk6 hk0 HK4C
      go_upto_region 14 with fail
      go_still_tail 14, (by kernel_rfl)
      change wpList _ _ _ _ _ wr.drew
      have HB9 := Lib.hid (HB4.out.drew)
      clear x20 x21 x31 x32 x33 x11 c0 c1 c2 t0 t1 t5 hSw
      generalize wr.drew = w7 at *
      go_wp2_with fail
      refine (HRE.out w7 ⟨HW.out.1.below HB9.out (Nat.le_of_eq HSZ.out), HW.out.2⟩).mono ?_; rintro e w5 ⟨z, rfl, hz, hb5⟩
      have HZ := Lib.hid hz
      have HB7 := Lib.hid (HB9.out.trans (hb5.mono (by have := HB9.out.size; rw [HSZ.out] at this; exact this)))
      clear hz hb5 HRE
      have hkz := HK5.out.below HB7.out (by omega)
      have z0 := hkz.c 0
      have z1 := hkz.c 1
      have z2 := hkz.c 2
      have zf : ∀ o, w5.frozen? ⟨S + 4, o, none⟩ = false := fun o => hkz.frozen o
      have HKZ := Lib.hid (hkz.three (.bool true) (.int .i64 0) (.float .f64 z))
      have HRZ := Lib.hid (RDVal.mk (P := DVal s k M c a real) (r := true) (n := 0) (z := z) (k := 0) (.inr (.inr (.inr (.inr (.inr ⟨HOK.out, rfl, HK0.out, HMI.out, HZ.out⟩))))) HSS.out HBW.out (Nat.le_add_right S 5) HB7.out)
      clear hkz
      go_wp2_with fail
      refine bodyPost_ret ?_ ?_ HRZ.out
      rotate_left
      ·rfl
      ·exact dval_results rfl rfl HKZ.out
     have t1 : decide ((ni : Int) ≤ (mk : Int)) = false := decide_eq_false (by omega)
     have t1' : decide (ni ≤ mk) = false := decide_eq_false hmi
     have hmlt : mk < cn1 := by have := HLL.out.1; omega
     obtain ⟨b, off, e, hbl, hcw⟩ := (HC.out.1.below HB4.out (Nat.le_of_eq HSZ.out)).at (by show 0 < cn1; omega)
     simp only at e
     subst e
     have c0 := hcw (mk * 5) (by show mk * 5 < cn1 * 5; omega)
     have c1 := hcw (mk * 5 + 1) (by show mk * 5 + 1 < cn1 * 5; omega)
     have c2 := hcw (mk * 5 + 2) (by show mk * 5 + 2 < cn1 * 5; omega)
     have c3 := hcw (mk * 5 + 3) (by show mk * 5 + 3 < cn1 * 5; omega)
     have c4 := hcw (mk * 5 + 4) (by show mk * 5 + 4 < cn1 * 5; omega)
     obtain ⟨p0, p1, p2, p3, p4⟩ := whlCells_get (ds := c.ints) (i := mk) (by rw [HLN.out.2.2.1]; exact hmlt)
     have HW := Lib.hid (HC.out.2.2.2.2.2.2.1 (whlAt c.ints mk) (whlAt_mem (by rw [HLN.out.2.2.1]; exact hmlt)))
     obtain ⟨X, hX⟩ : ∃ x, whlAt c.ints mk = x := ⟨_, rfl⟩
     rw [hX] at p0 p1 p2 p3 p4 HW
     obtain ⟨xs, xa, xq, xqa, xqn, xqc, xmin, xmax⟩ := X
     simp only at p0 p1 p2 p3 p4
     rw [p0] at c0
     rw [p1, ← Nat.add_assoc] at c1
     rw [p2, ← Nat.add_assoc] at c2
     rw [p3, ← Nat.add_assoc] at c3
     rw [p4, ← Nat.add_assoc] at c4
     have HQL := Lib.hid (hsq.out (whlAt c.ints mk) (whlAt_mem (by rw [HLN.out.2.2.1]; exact hmlt)))
     rw [hX] at HQL
     have HCQ : Hid (I64 cq) := Lib.hid (by rw [← HV.out.2.1]; exact HC.out.2.2.2.2.2.1)
     have HX := Lib.hid hX
     have HMI : Hid ((mk : Int) < (s.ints.length : Int)) := Lib.hid (by rw [HLN.out.1]; omega)
     clear p0 p1 p2 p3 p4 hcw hbl hX
     have hcase : k = 1 ∨ k = 2 ∨ k = 3 ∨ k = 4 ∨ k = 5 ∨ k = 6 := by omega
     obtain ⟨hbD, hbwD, hszD⟩ := boxed wr 58 #[.int .i64 xs, .int .i64 xa, .slice xqa xqn xqc, .int .i64 xmin, .int .i64 xmax]
     have g0 := hbD 0
     have g1 := hbD 1
     have g2 := hbD 2
     have g3 := hbD 3
     have g4 := hbD 4
     simp only [List.getElem?_toArray, List.getElem?_cons_zero, List.getElem?_cons_succ] at g0 g1 g2 g3 g4
     have HB6 : Hid (Below (S + 5) w0 (wr.alloc (.cells #[.int .i64 xs, .int .i64 xa, .slice xqa xqn xqc, .int .i64 xmin, .int .i64 xmax] 58))) := Lib.hid (HB4.out.trans (hbwD.mono hSw))
     clear hbD hbwD hszD g1
     go_upto_region 16 with fail
     generalize (wr.alloc (.cells #[.int .i64 xs, .int .i64 xa, .slice xqa xqn xqc, .int .i64 xmin, .int .i64 xmax] 58)) = w4 at *
     generalize wr.heap.size = D at *
     clear x20 x21 x31 x32 x11 c0 c1 c2 c3 c4 t0 t1 t1' HB4 hSw
     have hSw : S + 5 ≤ w4.heap.size := by have := HB6.out.size; rw [HSZ.out] at this; exact this
     have HG := Lib.hid (And.intro g0 (And.intro g2 (And.intro g3 g4)))
     clear g0 g2 g3 g4
     have hkx := HKM.out.1
     have HK0 := Lib.hid hk0
     clear hk0
     rcases hcase with hkn | hkn | hkn | hkn | hkn | hkn
     ·as_aux_lemma =>
      have HKN := Lib.hid hkn
      have x20 : w4.cell? ⟨S + 1, 0, none⟩ = some (.int .i64 1) := by rw [← HKN.out]; exact (HK2.out.below HB6.out (by omega)).cell 0
      have x21 : w4.cell? ⟨S + 1, 1, none⟩ = some (.int .i64 (mk : Int)) := (HK2.out.below HB6.out (by omega)).cell 1
      have x31 : w4.cell? ⟨S + 2, 1, none⟩ = some (.int .i64 cq) := (HK3.out.below HB6.out (by omega)).cell 1
      obtain ⟨g0, g2, g3, g4⟩ := HG.out
      clear hkn hk1 hk6
      go_wp2_with fail
      refine (dwhole_any _ xs).mono ?_; rintro e w5 ⟨rfl, hb5⟩
      have HB7 := Lib.hid (HB6.out.trans (hb5.mono hSw))
      clear hb5 x20 x21 x31 g0 g2 g3 g4
      have hkz := HK5.out.below HB7.out (by omega)
      have z0 := hkz.c 0
      have z1 := hkz.c 1
      have z2 := hkz.c 2
      have zf : ∀ o, w5.frozen? ⟨S + 4, o, none⟩ = false := fun o => hkz.frozen o
      have HKZ := Lib.hid (hkz.three (.bool false) (.int .i64 xs) (.float .f64 0))
      have HRZ := Lib.hid (RDVal.mk (P := DVal s k (mk : Int) c a real) (r := false) (n := xs) (z := 0) (k := 0) (.inr (.inr (.inr (.inr (.inl ⟨HOK.out, rfl, HK0.out, HMI.out, by rw [Int.toNat_natCast, HX.out]; exact .inl ⟨HKN.out, rfl, rfl, rfl⟩⟩))))) HSS.out HBW.out (Nat.le_add_right S 5) HB7.out)
      clear hkz
      go_wp2_with fail
      refine bodyPost_ret ?_ ?_ HRZ.out
      rotate_left
      ·rfl
      ·exact dval_results rfl rfl HKZ.out
     ·as_aux_lemma =>
      have HKN := Lib.hid hkn
      have x20 : w4.cell? ⟨S + 1, 0, none⟩ = some (.int .i64 2) := by rw [← HKN.out]; exact (HK2.out.below HB6.out (by omega)).cell 0
      have x21 : w4.cell? ⟨S + 1, 1, none⟩ = some (.int .i64 (mk : Int)) := (HK2.out.below HB6.out (by omega)).cell 1
      have x31 : w4.cell? ⟨S + 2, 1, none⟩ = some (.int .i64 cq) := (HK3.out.below HB6.out (by omega)).cell 1
      obtain ⟨g0, g2, g3, g4⟩ := HG.out
      clear hkn hk1 hk6
      go_wp2_with fail
      refine (dwhole_any _ xmin).mono ?_; rintro e w5 ⟨rfl, hb5⟩
      have HB7 := Lib.hid (HB6.out.trans (hb5.mono hSw))
      clear hb5 x20 x21 x31 g0 g2 g3 g4
      have hkz := HK5.out.below HB7.out (by omega)
      have z0 := hkz.c 0
      have z1 := hkz.c 1
      have z2 := hkz.c 2
      have zf : ∀ o, w5.frozen? ⟨S + 4, o, none⟩ = false := fun o => hkz.frozen o
      have HKZ := Lib.hid (hkz.three (.bool false) (.int .i64 xmin) (.float .f64 0))
      have HRZ := Lib.hid (RDVal.mk (P := DVal s k (mk : Int) c a real) (r := false) (n := xmin) (z := 0) (k := 0) (.inr (.inr (.inr (.inr (.inl ⟨HOK.out, rfl, HK0.out, HMI.out, by rw [Int.toNat_natCast, HX.out]; exact .inr (.inl ⟨HKN.out, rfl, rfl, rfl⟩)⟩))))) HSS.out HBW.out (Nat.le_add_right S 5) HB7.out)
      clear hkz
      go_wp2_with fail
      refine bodyPost_ret ?_ ?_ HRZ.out
      rotate_left
      ·rfl
      ·exact dval_results rfl rfl HKZ.out
     ·as_aux_lemma =>
      have HKN := Lib.hid hkn
      have x20 : w4.cell? ⟨S + 1, 0, none⟩ = some (.int .i64 3) := by rw [← HKN.out]; exact (HK2.out.below HB6.out (by omega)).cell 0
      have x21 : w4.cell? ⟨S + 1, 1, none⟩ = some (.int .i64 (mk : Int)) := (HK2.out.below HB6.out (by omega)).cell 1
      have x31 : w4.cell? ⟨S + 2, 1, none⟩ = some (.int .i64 cq) := (HK3.out.below HB6.out (by omega)).cell 1
      obtain ⟨g0, g2, g3, g4⟩ := HG.out
      clear hkn hk1 hk6
      go_wp2_with fail
      refine (dwhole_any _ xmax).mono ?_; rintro e w5 ⟨rfl, hb5⟩
      have HB7 := Lib.hid (HB6.out.trans (hb5.mono hSw))
      clear hb5 x20 x21 x31 g0 g2 g3 g4
      have hkz := HK5.out.below HB7.out (by omega)
      have z0 := hkz.c 0
      have z1 := hkz.c 1
      have z2 := hkz.c 2
      have zf : ∀ o, w5.frozen? ⟨S + 4, o, none⟩ = false := fun o => hkz.frozen o
      have HKZ := Lib.hid (hkz.three (.bool false) (.int .i64 xmax) (.float .f64 0))
      have HRZ := Lib.hid (RDVal.mk (P := DVal s k (mk : Int) c a real) (r := false) (n := xmax) (z := 0) (k := 0) (.inr (.inr (.inr (.inr (.inl ⟨HOK.out, rfl, HK0.out, HMI.out, by rw [Int.toNat_natCast, HX.out]; exact .inr (.inr (.inl ⟨HKN.out, rfl, rfl, rfl⟩))⟩))))) HSS.out HBW.out (Nat.le_add_right S 5) HB7.out)
      clear hkz
      go_wp2_with fail
      refine bodyPost_ret ?_ ?_ HRZ.out
      rotate_left
      ·rfl
      ·exact dval_results rfl rfl HKZ.out
     ·as_aux_lemma =>
      have HKN := Lib.hid hkn
      have x20 : w4.cell? ⟨S + 1, 0, none⟩ = some (.int .i64 4) := by rw [← HKN.out]; exact (HK2.out.below HB6.out (by omega)).cell 0
      have x21 : w4.cell? ⟨S + 1, 1, none⟩ = some (.int .i64 (mk : Int)) := (HK2.out.below HB6.out (by omega)).cell 1
      have x31 : w4.cell? ⟨S + 2, 1, none⟩ = some (.int .i64 cq) := (HK3.out.below HB6.out (by omega)).cell 1
      obtain ⟨g0, g2, g3, g4⟩ := HG.out
      clear hkn hk1 hk6
      have HMC := Lib.hid (fun w => fmean_any xs cq w HW.out.2.2.1.1 HW.out.2.2.1.2 HCQ.out.1 HCQ.out.2)
      go_wp2_with fail
      refine (HMC.out _).mono ?_; rintro e w5 ⟨z, rfl, hz, hb5⟩
      have HZ := Lib.hid hz
      clear hz
      have HB7 := Lib.hid (HB6.out.trans (hb5.mono hSw))
      clear hb5 x20 x21 x31 g0 g2 g3 g4
      go_wp2_with fail
      refine (dreal_any _ z).mono ?_; rintro e w6 ⟨rfl, hb6⟩
      have HB8 := Lib.hid (HB7.out.trans (hb6.mono (by have := HB7.out.size; rw [HSZ.out] at this; exact this)))
      clear hb6
      have hkz := HK5.out.below HB8.out (by omega)
      have z0 := hkz.c 0
      have z1 := hkz.c 1
      have z2 := hkz.c 2
      have zf : ∀ o, w6.frozen? ⟨S + 4, o, none⟩ = false := fun o => hkz.frozen o
      have HKZ := Lib.hid (hkz.three (.bool true) (.int .i64 0) (.float .f64 z))
      have HRZ := Lib.hid (RDVal.mk (P := DVal s k (mk : Int) c a real) (r := true) (n := 0) (z := z) (k := 0) (.inr (.inr (.inr (.inr (.inl ⟨HOK.out, rfl, HK0.out, HMI.out, by rw [Int.toNat_natCast, HX.out]; exact .inr (.inr (.inr (.inl ⟨HKN.out, rfl, rfl, (by show IsMean _ c.count z; rw [HV.out.2.1]; exact HZ.out)⟩)))⟩))))) HSS.out HBW.out (Nat.le_add_right S 5) HB8.out)
      clear hkz
      go_wp2_with fail
      refine bodyPost_ret ?_ ?_ HRZ.out
      rotate_left
      ·rfl
      ·exact dval_results rfl rfl HKZ.out
     ·as_aux_lemma =>
      have HKN := Lib.hid hkn
      have x20 : w4.cell? ⟨S + 1, 0, none⟩ = some (.int .i64 5) := by rw [← HKN.out]; exact (HK2.out.below HB6.out (by omega)).cell 0
      have x21 : w4.cell? ⟨S + 1, 1, none⟩ = some (.int .i64 (mk : Int)) := (HK2.out.below HB6.out (by omega)).cell 1
      have x31 : w4.cell? ⟨S + 2, 1, none⟩ = some (.int .i64 cq) := (HK3.out.below HB6.out (by omega)).cell 1
      obtain ⟨g0, g2, g3, g4⟩ := HG.out
      clear hkn hk1 hk6
      obtain ⟨KQ, hKQ, hSQ, hVQ⟩ := sq_bound HW.out.2.1 (by rw [HW.out.1.1]; exact HQL.out)
      obtain ⟨SQ, hSQ'⟩ : ∃ x, (V 4294967296 xq).toNat = x := ⟨_, rfl⟩
      rw [hSQ'] at hSQ hVQ
      have HMC := Lib.hid (fdev_any cq xs xqa xqn xqc SQ KQ xq w4 (HW.out.1.below HB6.out (Nat.le_of_eq HSZ.out)) HW.out.2.1 hVQ (Nat.le_trans HQL.out (by decide)) hSQ hKQ HW.out.2.2.1.1 HW.out.2.2.1.2 HCQ.out.1 HCQ.out.2)
      have HSQ := Lib.hid hSQ'
      clear hKQ hSQ hVQ hSQ'
      go_wp2_with fail
      refine (HMC.out).mono ?_; rintro e w5 ⟨z, rfl, hz, hb5⟩
      have HZ := Lib.hid (show IsDev cq xs (V 4294967296 xq).toNat z by rw [HSQ.out]; exact hz)
      clear hz HMC
      have HB7 := Lib.hid (HB6.out.trans (hb5.mono hSw))
      clear hb5 x20 x21 x31 g0 g2 g3 g4
      go_wp2_with fail
      refine (dreal_any _ z).mono ?_; rintro e w6 ⟨rfl, hb6⟩
      have HB8 := Lib.hid (HB7.out.trans (hb6.mono (by have := HB7.out.size; rw [HSZ.out] at this; exact this)))
      clear hb6
      have hkz := HK5.out.below HB8.out (by omega)
      have z0 := hkz.c 0
      have z1 := hkz.c 1
      have z2 := hkz.c 2
      have zf : ∀ o, w6.frozen? ⟨S + 4, o, none⟩ = false := fun o => hkz.frozen o
      have HKZ := Lib.hid (hkz.three (.bool true) (.int .i64 0) (.float .f64 z))
      have HRZ := Lib.hid (RDVal.mk (P := DVal s k (mk : Int) c a real) (r := true) (n := 0) (z := z) (k := 0) (.inr (.inr (.inr (.inr (.inl ⟨HOK.out, rfl, HK0.out, HMI.out, by rw [Int.toNat_natCast, HX.out]; exact .inr (.inr (.inr (.inr (.inl ⟨HKN.out, rfl, rfl, (by show IsDev c.count _ _ z; rw [HV.out.2.1]; exact HZ.out)⟩))))⟩))))) HSS.out HBW.out (Nat.le_add_right S 5) HB8.out)
      clear hkz
      go_wp2_with fail
      refine bodyPost_ret ?_ ?_ HRZ.out
      rotate_left
      ·rfl
      ·exact dval_results rfl rfl HKZ.out
     ·as_aux_lemma =>
      have HKN := Lib.hid hkn
      have x20 : w4.cell? ⟨S + 1, 0, none⟩ = some (.int .i64 6) := by rw [← HKN.out]; exact (HK2.out.below HB6.out (by omega)).cell 0
      have x21 : w4.cell? ⟨S + 1, 1, none⟩ = some (.int .i64 (mk : Int)) := (HK2.out.below HB6.out (by omega)).cell 1
      have x31 : w4.cell? ⟨S + 2, 1, none⟩ = some (.int .i64 cq) := (HK3.out.below HB6.out (by omega)).cell 1
      obtain ⟨g0, g2, g3, g4⟩ := HG.out
      clear hkn hk1 hk6
      obtain ⟨b', off', e', hbl', hcw'⟩ := (HA.out.1.below HB6.out (Nat.le_of_eq HSZ.out)).at (by show 0 < an1; have := HLL.out; omega)
      simp only at e'
      subst e'
      have hml2 : mk < an1 := by have := HLL.out; omega
      have c0 := hcw' (mk * 5) (by show mk * 5 < an1 * 5; omega)
      obtain ⟨p0, -⟩ := whlCells_get (ds := a.ints) (i := mk) (by rw [HLN.out.2.2.2.2.1]; exact hml2)
      have HW2 := Lib.hid (HA.out.2.2.2.2.2.2.1 (whlAt a.ints mk) (whlAt_mem (by rw [HLN.out.2.2.2.2.1]; exact hml2)))
      obtain ⟨Y, hY⟩ : ∃ x, whlAt a.ints mk = x := ⟨_, rfl⟩
      rw [hY] at p0 HW2
      obtain ⟨ys, ya, yq, yqa, yqn, yqc, ymin, ymax⟩ := Y
      simp only at p0
      rw [p0] at c0
      have HY := Lib.hid hY
      clear p0 hY hcw' hbl'
      have x42 : w4.cell? ⟨S + 3, 2, none⟩ = some (.slice (some ⟨b', off', none⟩) an1 ac1) := (HK4.out.below HB6.out (by omega)).cell 2
      have HMC := Lib.hid (fun w => fmean_any xs ys w HW.out.2.2.1.1 HW.out.2.2.1.2 HW2.out.2.2.1.1 HW2.out.2.2.1.2)
      go_upto_region 27 with fail
      go_still_tail 9, (by kernel_rfl)
      change wpList _ _ _ _ _ w4.drew
      have HB9 := Lib.hid (HB6.out.drew)
      clear x20 x21 x31 x42 c0 g0 g2 g3 g4 hSw
      generalize w4.drew = w7 at *
      go_wp2_with fail
      refine (HMC.out _).mono ?_; rintro e w5 ⟨z, rfl, hz, hb5⟩
      have HZ := Lib.hid hz
      have HB7 := Lib.hid (HB9.out.trans (hb5.mono (by have := HB9.out.size; rw [HSZ.out] at this; exact this)))
      clear hz hb5 HMC
      go_wp2_with fail
      refine (dreal_any _ z).mono ?_; rintro e w6 ⟨rfl, hb6⟩
      have HB8 := Lib.hid (HB7.out.trans (hb6.mono (by have := HB7.out.size; rw [HSZ.out] at this; exact this)))
      clear hb6
      have hkz := HK5.out.below HB8.out (by omega)
      have z0 := hkz.c 0
      have z1 := hkz.c 1
      have z2 := hkz.c 2
      have zf : ∀ o, w6.frozen? ⟨S + 4, o, none⟩ = false := fun o => hkz.frozen o
      have HKZ := Lib.hid (hkz.three (.bool true) (.int .i64 0) (.float .f64 z))
      have HRZ := Lib.hid (RDVal.mk (P := DVal s k (mk : Int) c a real) (r := true) (n := 0) (z := z) (k := 0) (.inr (.inr (.inr (.inr (.inl ⟨HOK.out, rfl, HK0.out, HMI.out, by rw [Int.toNat_natCast, HX.out, HY.out]; exact .inr (.inr (.inr (.inr (.inr ⟨HKN.out, rfl, rfl, HZ.out⟩))))⟩))))) HSS.out HBW.out (Nat.le_add_right S 5) HB8.out)
      clear hkz
      go_wp2_with fail
      refine bodyPost_ret ?_ ?_ HRZ.out
      rotate_left
      ·rfl
      ·exact dval_results rfl rfl HKZ.out
end Go.Proofs.YtehmompbmnejkaaGreat
/- The contract of package derive's Real, and the chapter's example of derive. No conditions but those stated. -/
namespace Go.Proofs.YtehmompbmnejkaaGreat
open Go.RowKit Ieee

theorem near_dv {p q t k K : Nat} (hK : K = t + k) (hq : 0 < q) (h1 : p * 2 ^ k < q * 9007199254740992) (h2 : t = 0 ∨ q * 4503599627370496 ≤ p * 2 ^ k) : IsNear (p * 2 ^ K) q (min (t * B52 + rne (p * 2 ^ k) q) INF) := by
 have e1 : p * 2 ^ K = p * 2 ^ k * 2 ^ t := by rw [hK, Nat.pow_add]; ac_rfl
 refine ⟨t, ⟨hq, ?_, ?_⟩, ?_⟩
 ·rw [e1, Nat.add_comm t, Nat.pow_add 2 53, ← Nat.mul_assoc]
  exact Nat.mul_lt_mul_of_pos_right h1 (Nat.two_pow_pos t)
 ·rcases h2 with h2 | h2
  ·exact .inl h2
  ·right
   rw [e1, Nat.add_comm t, Nat.pow_add 2 52, ← Nat.mul_assoc]
   exact Nat.mul_le_mul_right _ h2
 ·rw [e1, rne_scale (Nat.two_pow_pos t)]
theorem mean32 {z : Nat} (h : IsMean 3 2 z) : z = 4609434218613702656 := by
 rcases h with ⟨h1, -, -⟩ | ⟨-, -, h⟩
 ·omega
 ·rcases h with ⟨h1, -, -⟩ | ⟨-, h1, -⟩ | ⟨h1, -, -⟩ | ⟨-, -, y, h3, h4⟩
  ·exact absurd h1 (by decide)
  ·exact absurd h1 (by decide)
  ·exact absurd h1 (by decide)
  ·rw [show ((3 : Int)).natAbs = 3 from rfl, show ((2 : Int)).natAbs = 2 from rfl] at h3
   rw [h4, IsNear.one (D := 2) (N := 3 * 2 ^ K1074) h3 (near_dv (t := 1022) (k := 52) (by decide) (by decide) (by decide) (.inr (by decide)))]
   decide
theorem mean36 {z : Nat} (h : IsMean 3 6 z) : z = 4602678819172646912 := by
 rcases h with ⟨h1, -, -⟩ | ⟨-, -, h⟩
 ·omega
 ·rcases h with ⟨h1, -, -⟩ | ⟨-, h1, -⟩ | ⟨h1, -, -⟩ | ⟨-, -, y, h3, h4⟩
  ·exact absurd h1 (by decide)
  ·exact absurd h1 (by decide)
  ·exact absurd h1 (by decide)
  ·rw [show ((3 : Int)).natAbs = 3 from rfl, show ((6 : Int)).natAbs = 6 from rfl] at h3
   rw [h4, IsNear.one (D := 6) (N := 3 * 2 ^ K1074) h3 (near_dv (t := 1021) (k := 53) (by decide) (by decide) (by decide) (.inr (by decide)))]
   decide
noncomputable def realB (s : Sch) (k m : Int) : Bool := mayB s k m && (!decide (k = 0) && (decide (4 ≤ k) || decide ((s.ints.length : Int) ≤ m)))
set_option maxHeartbeats 2000000 in
theorem dkind_any (w : World) (l : SchL) (s : Sch) (k m : Int) (h : SchAt w l s) (hk : I64 k) (hm : I64 m) :
  Calls Tryz.prog 10 #[l.val, .agg #[.int .i64 k, .int .i64 m]] w fun e w' => e = .returned (.bool (realB s k m)) ∧ Below w.heap.size w w' := by
 obtain ⟨ad, nd, cd, ai, ni, ci, an, nn, cn, av, nv, cv⟩ := l
 obtain ⟨hbx, hby, hbw, hsz⟩ := two_pbox w 26 42 #[.slice ad nd cd, .slice ai ni ci, .slice an nn cn, .slice av nv cv] #[.int .i64 k, .int .i64 m]
 have HS := Lib.hid (h.below hbw (Nat.le_refl _))
 have HLN := Lib.hid (show s.ints.length = ni from h.2.2.1.1)
 have HBW := Lib.hid hbw
 have HKM := Lib.hid (And.intro hk hm)
 have e0 := hbx 0
 have e1 := hbx 1
 have e2 := hbx 2
 have e3 := hbx 3
 have y0 := hby 0
 have y1 := hby 1
 simp only [List.getElem?_toArray, List.getElem?_cons_zero, List.getElem?_cons_succ] at e0 e1 e2 e3 y0 y1
 have HE := Lib.hid (And.intro e1 (And.intro y0 y1))
 have HSZ := Lib.hid hsz
 obtain ⟨MB, hMB⟩ : ∃ b, mayB s k m = b := ⟨_, rfl⟩
 obtain ⟨RB, hRB⟩ : ∃ b, realB s k m = b := ⟨_, rfl⟩
 rw [hRB]
 have HRB : Hid (RB = (MB && (!decide (k = 0) && (decide (4 ≤ k) || decide ((ni : Int) ≤ m))))) := Lib.hid (by rw [← hRB, ← hMB, ← HLN.out]; rfl)
 have HCALL : Hid (∀ w', SchAt w' ⟨ad, nd, cd, ai, ni, ci, an, nn, cn, av, nv, cv⟩ s → Calls Tryz.prog 18 #[.agg #[.slice ad nd cd, .slice ai ni ci, .slice an nn cn, .slice av nv cv], .agg #[.int .i64 k, .int .i64 m]] w' fun e w'' => e = .returned (.bool MB) ∧ Below w'.heap.size w' w'') := Lib.hid (fun w' h1 => by
  have h := may_any w' _ s k m h1 HKM.out.1 HKM.out.2
  rw [hMB] at h
  exact h)
 clear h hbw hbx hby hsz hk hm hMB hRB
 unfold SchL.val
 go_enter Tryz.func10, Tryz.ntmps10
 go_upto_region 1 with fail
 generalize ((w.alloc (.cells #[.slice ad nd cd, .slice ai ni ci, .slice an nn cn, .slice av nv cv] 26)).alloc (.cells #[.int .i64 k, .int .i64 m] 42)) = w0 at *
 generalize hS : w.heap.size = S at *
 have HSS := Lib.hid hS
 have HS0 : Hid (S < w0.heap.size ∧ S + 1 < w0.heap.size) := Lib.hid (by have := HSZ.out; omega)
 clear hS
 go_wp2_with fail
 refine (HCALL.out _ HS.out).mono ?_; rintro e w1 ⟨rfl, hb1⟩
 clear e0 e1 e2 e3 y0 y1
 have e1 : w1.cell? ⟨S, 1, none⟩ = some (.slice ai ni ci) := by rw [hb1.cell (p := ⟨S, 1, none⟩) HS0.out.1]; exact HE.out.1
 have y0 : w1.cell? ⟨S + 1, 0, none⟩ = some (.int .i64 k) := by rw [hb1.cell (p := ⟨S + 1, 0, none⟩) HS0.out.2]; exact HE.out.2.1
 have y1 : w1.cell? ⟨S + 1, 1, none⟩ = some (.int .i64 m) := by rw [hb1.cell (p := ⟨S + 1, 1, none⟩) HS0.out.2]; exact HE.out.2.2
 have HB1 := Lib.hid (HBW.out.trans (hb1.mono (Nat.le_of_lt HS0.out.1)))
 clear hb1
 rcases MB with _ | _
 ·have HR : Hid (RB = false) := Lib.hid (by rw [HRB.out]; rfl)
  go_wp2_with fail
  go_ret
  exact ⟨ret_b HR.out, by rw [HSS.out]; exact HB1.out⟩
 by_cases hk0 : k = 0
 ·have HR : Hid (RB = false) := Lib.hid (by rw [HRB.out, hk0]; rfl)
  rw [hk0] at y0
  clear hk0
  go_wp2_with fail
  go_ret
  exact ⟨ret_b HR.out, by rw [HSS.out]; exact HB1.out⟩
 have t0 : (k == 0) = false := by simpa using hk0
 have HR : Hid (RB = (decide (4 ≤ k) || decide ((ni : Int) ≤ m))) := Lib.hid (by rw [HRB.out, decide_eq_false hk0]; rfl)
 clear hk0
 by_cases hk4 : 4 ≤ k
 ·have t1 : decide (4 ≤ k) = true := decide_eq_true hk4
  have HR2 : Hid (RB = true) := Lib.hid (by rw [HR.out, t1]; rfl)
  clear hk4
  go_wp2_with fail
  go_ret
  exact ⟨ret_b HR2.out, by rw [HSS.out]; exact HB1.out⟩
 have t1 : decide (4 ≤ k) = false := decide_eq_false hk4
 have HR2 : Hid (RB = decide ((ni : Int) ≤ m)) := Lib.hid (by rw [HR.out, t1]; rfl)
 clear hk4
 go_wp2_with fail
 go_ret
 exact ⟨ret_b HR2.out, by rw [HSS.out]; exact HB1.out⟩
/-- the example's schema and cells -/
def exS : Sch := ⟨[(⟨#[97]⟩, 2)], [⟨#[109]⟩], [], []⟩
def exW (n : Int) : Whl := ⟨n, 0, [], none, 0, 0, 0, 0⟩
def exC (c n : Int) : CellV := ⟨0, c, [exW n], []⟩
theorem one_name {b : UInt8} (h : 97 ≤ b.toNat ∧ b.toNat ≤ 122) (hw : wordB ⟨#[b]⟩ = false) : nameB ⟨#[b]⟩ = true := by
 refine nameB_yes ⟨(show 1 ≤ 1 from Nat.le_refl _), (show 1 ≤ 16 by decide), fun _ => h, fun i hi => ?_, hw⟩
 have h0 : i < 1 := hi
 obtain rfl : i = 0 := by omega
 exact .inl h
theorem exS_ok : chkS exS = 0 := by
 refine chk_ok rfl ?_ ?_ (by decide) (by decide)
 ·show (if nameB ⟨#[97]⟩ = false then false else if nameB ⟨#[109]⟩ = false then false else true) = true
  rw [one_name (by decide) (by decide), one_name (by decide) (by decide)]
  rfl
 ·have h : TwiceIs exS.names (-1) := by
   refine .inl ⟨rfl, fun j hj => ?_⟩
   have hj2 : j < 2 := hj
   match j, hj2 with
   | 0, _ => exact fun h => by cases h
   | 1, _ => exact fun h => absurd (List.mem_singleton.1 h) (by decide)
  rw [(twR_is _).one h]
  decide
theorem ex_okv (k : Int) (hk : k = 4 ∨ k = 6) (c n c2 n2 : Int) {r : Bool} {v : Int} {z e : Nat} {real : Bool → Int → Nat → Prop} (h : DVal exS k 0 (exC c n) (exC c2 n2) real r v z e) :
  e = 0 ∧ r = true ∧ v = 0 ∧ ((k = 4 ∧ IsMean n c z) ∨ (k = 6 ∧ IsMean n n2 z)) := by
 have hcol : colB exS.ints.length exS.nums.length k 0 = true := by rcases hk with rfl | rfl <;> decide
 rcases h with ⟨h, -⟩ | ⟨-, h, -⟩ | ⟨-, -, h, -⟩ | ⟨-, -, h, -⟩ | ⟨-, h0, -, -, h⟩ | ⟨-, -, -, h, -⟩
 ·exact absurd exS_ok h
 ·rw [hcol] at h; cases h
 ·exact absurd h (by show ¬ lensB exS (exC c n) (exC c2 n2) = false; unfold lensB exS exC; simp)
 ·rcases hk with rfl | rfl <;> exact absurd h (by decide)
 ·rcases h with ⟨h1, -⟩ | ⟨h1, -⟩ | ⟨h1, -⟩ | ⟨h1, h2, h3, h4⟩ | ⟨h1, -⟩ | ⟨h1, h2, h3, h4⟩
  ·omega
  ·omega
  ·omega
  ·exact ⟨h0, h2, h3, .inl ⟨h1, h4⟩⟩
  ·omega
  ·exact ⟨h0, h2, h3, .inr ⟨h1, h4⟩⟩
 ·exact absurd h (by decide)
theorem ex_real : realB exS 1 0 = false := by
 unfold realB mayB
 rw [exS_ok]
 decide
def exL (s : Nat) : SchL := ⟨some ⟨s, 0, none⟩, 1, 1, some ⟨s + 1, 0, none⟩, 1, 1, none, 0, 0, none, 0, 0⟩
def exM (s : Nat) : CellL := ⟨some ⟨s, 0, none⟩, 1, 1, none, 0, 0⟩
theorem exS_at {w : World} {s : Nat} (h1 : Blk w s 56 #[.string ⟨#[97]⟩, .int .i64 2]) (h2 : Blk w (s + 1) 9 #[.string ⟨#[109]⟩]) : SchAt w (exL s) exS := by
 refine ⟨⟨rfl, Nat.le_refl _, by show 1 ≤ maxLen; unfold maxLen; omega, .inr ⟨s, 0, rfl, h1.lt, fun i hi => ?_⟩⟩, rfl, ⟨rfl, Nat.le_refl _, by show 1 ≤ maxLen; unfold maxLen; omega, .inr ⟨s + 1, 0, rfl, h2.lt, fun i hi => ?_⟩⟩,
  ⟨rfl, Nat.le_refl _, Nat.zero_le _, .inl rfl⟩, ⟨rfl, Nat.le_refl _, Nat.zero_le _, .inl rfl⟩, fun d hd => ?_, fun x hx => ?_, (fun x hx => by cases hx), (fun x hx => by cases hx)⟩
 ·have : i = 0 ∨ i = 1 := by simp only [exL] at hi; omega
  rw [Nat.zero_add, h1.cell]
  rcases this with rfl | rfl <;> rfl
 ·obtain rfl : i = 0 := by simp only [exL] at hi; omega
  exact h2.cell 0
 ·simp only [exS, List.mem_singleton] at hd
  subst hd
  exact ⟨by show 1 ≤ maxLen; unfold maxLen; omega, by decide, by decide⟩
 ·simp only [exS, List.mem_singleton] at hx
  subst hx
  show 1 ≤ maxLen; unfold maxLen; omega
theorem exC_at {w : World} {s : Nat} {c n : Int} (hc : I64 c) (hn : I64 n) (h : Blk w s 58 #[.int .i64 n, .int .i64 0, .slice none 0 0, .int .i64 0, .int .i64 0]) : CellAt w (exM s) (exC c n) := by
 have i0 : I64 0 := ⟨by decide, by decide⟩
 refine ⟨⟨rfl, Nat.le_refl _, by show 1 ≤ maxLen; unfold maxLen; omega, .inr ⟨s, 0, rfl, h.lt, fun i hi => ?_⟩⟩, rfl, ⟨rfl, Nat.le_refl _, Nat.zero_le _, .inl rfl⟩, rfl, ⟨by show (0 : Int) ≤ 0; decide, by show (0 : Int) ≤ _; decide⟩, hc, fun x hx => ?_, (fun x hx => by cases hx)⟩
 ·have : i = 0 ∨ i = 1 ∨ i = 2 ∨ i = 3 ∨ i = 4 := by simp only [exM] at hi; omega
  rw [Nat.zero_add, h.cell]
  rcases this with rfl | rfl | rfl | rfl | rfl <;> rfl
 ·simp only [exC, List.mem_singleton] at hx
  subst hx
  exact ⟨⟨rfl, Nat.le_refl _, Nat.zero_le _, .inl rfl⟩, (fun d hd => by cases hd), hn, i0, i0, i0⟩
end Go.Proofs.YtehmompbmnejkaaGreat
/- The chapter's example of derive: bushellaw32.awake. No conditions. -/
namespace Go.Proofs.YtehmompbmnejkaaGreat
open Go.RowKit Ieee
attribute [local go_sem] run_store_float

/-- blocks, one made behind the other -/
def allocs (w : World) : List (Array Value × TypeId) → World
 | [] => w
 | x :: l => allocs (w.alloc (.cells x.1 x.2)) l
theorem allocs_kept {w : World} {g : Nat} {t : TypeId} {cs : Array Value} (h : Blk w g t cs) : ∀ l, Blk (allocs w l) g t cs
 | [] => h
 | x :: l => by
  have h2 : Blk (w.alloc (.cells x.1 x.2)) g t cs := h.alloc _
  exact allocs_kept h2 l
theorem allocs_blk : ∀ (l : List (Array Value × TypeId)) (w : World) (i : Nat) (x : Array Value × TypeId), l[i]? = some x → Blk (allocs w l) (w.heap.size + i) x.2 x.1
 | [], _, _, _, h => by simp at h
 | y :: l, w, 0, x, h => by
  simp only [List.getElem?_cons_zero, Option.some.injEq] at h
  subst h
  exact allocs_kept (Blk.new w y.2 y.1) l
 | y :: l, w, i + 1, x, h => by
  have h2 := allocs_blk l (w.alloc (.cells y.1 y.2)) i x (by simpa using h)
  rw [show (w.alloc (.cells y.1 y.2)).heap.size = w.heap.size + 1 from by simp, Nat.add_assoc, Nat.add_comm 1] at h2
  exact h2
theorem allocs_below : ∀ (l : List (Array Value × TypeId)) (w : World), Below w.heap.size w (allocs w l) ∧ (allocs w l).heap.size = w.heap.size + l.length
 | [], w => ⟨Below.refl _ _, rfl⟩
 | y :: l, w => by
  obtain ⟨h1, h2⟩ := allocs_below l (w.alloc (.cells y.1 y.2))
  have e : (w.alloc (.cells y.1 y.2)).heap.size = w.heap.size + 1 := by simp
  rw [e] at h1 h2
  refine ⟨((Below.refl w.heap.size w).alloc (Nat.le_refl _) (.cells y.1 y.2)).trans (h1.mono (Nat.le_add_right _ 1)), ?_⟩
  show (allocs (w.alloc (.cells y.1 y.2)) l).heap.size = _
  rw [h2, List.length_cons]; omega
def exBlocks (s : Nat) : List (Array Value × TypeId) :=
  [(#[.string ⟨#[97]⟩, .int .i64 2], 56), (#[.string ⟨#[109]⟩], 9), (#[.slice (some ⟨s, 0, none⟩) 1 1, .slice (some ⟨s + 1, 0, none⟩) 1 1, .slice none 0 0, .slice none 0 0], 26),
   (#[.int .i64 3, .int .i64 0, .slice none 0 0, .int .i64 0, .int .i64 0], 58), (#[.int .u64 0, .int .i64 2, .slice (some ⟨s + 1 + 1 + 1, 0, none⟩) 1 1, .slice none 0 0], 47),
   (#[.int .i64 6, .int .i64 0, .slice none 0 0, .int .i64 0, .int .i64 0], 58), (#[.int .u64 0, .int .i64 9, .slice (some ⟨s + 1 + 1 + 1 + 1 + 1, 0, none⟩) 1 1, .slice none 0 0], 47)]
theorem no_real (k : Int) (c n : Int) : RealCall exS k 0 (exC c n) fun _ _ _ => True := fun _ _ h => absurd h (by decide)
theorem ex_call {w w1 : World} {s : Nat} (k : Int) (v : Nat) (hk : (k = 4 ∧ v = 4609434218613702656) ∨ (k = 6 ∧ v = 4602678819172646912)) (h1 : Blk w s 56 #[.string ⟨#[97]⟩, .int .i64 2]) (h2 : Blk w (s + 1) 9 #[.string ⟨#[109]⟩])
  (h3 : Blk w (s + 3) 58 #[.int .i64 3, .int .i64 0, .slice none 0 0, .int .i64 0, .int .i64 0]) (h4 : Blk w (s + 5) 58 #[.int .i64 6, .int .i64 0, .slice none 0 0, .int .i64 0, .int .i64 0]) (hb : Below w.heap.size w w1) :
  Calls Tryz.prog 8 #[.agg #[.slice (some ⟨s, 0, none⟩) 1 1, .slice (some ⟨s + 1, 0, none⟩) 1 1, .slice none 0 0, .slice none 0 0], .agg #[.int .i64 k, .int .i64 0], .agg #[.int .u64 0, .int .i64 2, .slice (some ⟨s + 1 + 1 + 1, 0, none⟩) 1 1, .slice none 0 0], .agg #[.int .u64 0, .int .i64 9, .slice (some ⟨s + 1 + 1 + 1 + 1 + 1, 0, none⟩) 1 1, .slice none 0 0]] w1
   fun e w' => e = .returned (.tuple #[.agg #[.bool true, .int .i64 0, .float .f64 v], .int .i64 0]) ∧ Below w1.heap.size w1 w' := by
 have i64 : ∀ {x : Int}, -100 ≤ x → x ≤ 100 → I64 x := fun h1 h2 => ⟨by omega, by omega⟩
 have hcall := dvalue_any w1 (exL s) exS k 0 (exM (s + 3)) (exM (s + 5)) (exC 2 3) (exC 9 6) (fun _ _ _ => True) (exS_at (h1.below hb h1.lt) (h2.below hb h2.lt)) (by rcases hk with ⟨rfl, -⟩ | ⟨rfl, -⟩ <;> exact i64 (by decide) (by decide)) (i64 (by decide) (by decide))
  (exC_at (i64 (by decide) (by decide)) (i64 (by decide) (by decide)) (h3.below hb h3.lt)) (exC_at (i64 (by decide) (by decide)) (i64 (by decide) (by decide)) (h4.below hb h4.lt)) (Lib.hid fun x hx => by simp only [exC, List.mem_singleton] at hx; subst hx; decide) (no_real k 2 3)
 refine hcall.mono ?_
 rintro e w' ⟨r, n, z, kk, rfl, hP, hb2⟩
 obtain ⟨rfl, rfl, rfl, hz⟩ := ex_okv k (hk.imp (·.1) (·.1)) 2 3 9 6 hP
 refine ⟨?_, hb2⟩
 rcases hz with ⟨rfl, hz⟩ | ⟨rfl, hz⟩ <;> rcases hk with ⟨h, rfl⟩ | ⟨h, rfl⟩
 ·rw [mean32 hz]; rfl
 ·exact absurd h (by decide)
 ·exact absurd h (by decide)
 ·rw [mean36 hz]; rfl

set_option maxHeartbeats 4000000 in
theorem awake_der (w : World) : Calls Tryz.prog 6 #[] w fun e w' => e = .returned (.bool true) ∧ Below w.heap.size w w' := by
 obtain ⟨W, hW⟩ : ∃ W, allocs w (exBlocks w.heap.size) = W := ⟨_, rfl⟩
 obtain ⟨S, hS⟩ : ∃ S, w.heap.size = S := ⟨_, rfl⟩
 have hbk := fun i x h => allocs_blk (exBlocks w.heap.size) w i x h
 obtain ⟨hbw, hsz⟩ := allocs_below (exBlocks w.heap.size) w
 rw [hW] at hbk hbw hsz
 have b0 := hbk 0 _ rfl
 have b1 := hbk 1 _ rfl
 have b2 := hbk 2 _ rfl
 have b3 := hbk 3 _ rfl
 have b4 := hbk 4 _ rfl
 have b5 := hbk 5 _ rfl
 have b6 := hbk 6 _ rfl
 simp only [exBlocks, allocs] at hW
 rw [hS] at hW b0 b1 b2 b3 b4 b5 b6 hbw hsz
 have HBW := Lib.hid hbw
 have HSZ : Hid (W.heap.size = S + 7) := Lib.hid hsz
 have HC4 := Lib.hid (fun w1 (h : Below W.heap.size W w1) => ex_call 4 _ (.inl ⟨rfl, rfl⟩) b0 b1 b3 b5 h)
 have HC6 := Lib.hid (fun w1 (h : Below W.heap.size W w1) => ex_call 6 _ (.inr ⟨rfl, rfl⟩) b0 b1 b3 b5 h)
 have HR := Lib.hid (fun w1 (h : Below W.heap.size W w1) => dkind_any w1 (exL S) exS 1 0 (exS_at (b0.below h b0.lt) (b1.below h b1.lt)) ⟨by decide, by decide⟩ ⟨by decide, by decide⟩)
 have HB2 := Lib.hid b2
 have HB4 := Lib.hid b4
 have HB6 := Lib.hid b6
 have HW := Lib.hid hW
 have HS := Lib.hid hS
 clear hbk hbw hsz b0 b1 b2 b3 b4 b5 b6 hW hS
 go_enter Tryz.func6, Tryz.ntmps6
 go_upto_region 4 with fail
 rw [HS.out, HW.out]
 have x0 : W.cell? ⟨S + 1 + 1, 0, none⟩ = some (.slice (some ⟨S, 0, none⟩) 1 1) := (HB2.out.below (Below.refl W.heap.size W) HB2.out.lt).cell 0
 have x1 : W.cell? ⟨S + 1 + 1, 1, none⟩ = some (.slice (some ⟨S + 1, 0, none⟩) 1 1) := (HB2.out.below (Below.refl W.heap.size W) HB2.out.lt).cell 1
 have x2 : W.cell? ⟨S + 1 + 1, 2, none⟩ = some (.slice none 0 0) := (HB2.out.below (Below.refl W.heap.size W) HB2.out.lt).cell 2
 have x3 : W.cell? ⟨S + 1 + 1, 3, none⟩ = some (.slice none 0 0) := (HB2.out.below (Below.refl W.heap.size W) HB2.out.lt).cell 3
 have y0 : W.cell? ⟨S + 1 + 1 + 1 + 1, 0, none⟩ = some (.int .u64 0) := (HB4.out.below (Below.refl W.heap.size W) HB4.out.lt).cell 0
 have y1 : W.cell? ⟨S + 1 + 1 + 1 + 1, 1, none⟩ = some (.int .i64 2) := (HB4.out.below (Below.refl W.heap.size W) HB4.out.lt).cell 1
 have y2 : W.cell? ⟨S + 1 + 1 + 1 + 1, 2, none⟩ = some (.slice (some ⟨S + 1 + 1 + 1, 0, none⟩) 1 1) := (HB4.out.below (Below.refl W.heap.size W) HB4.out.lt).cell 2
 have y3 : W.cell? ⟨S + 1 + 1 + 1 + 1, 3, none⟩ = some (.slice none 0 0) := (HB4.out.below (Below.refl W.heap.size W) HB4.out.lt).cell 3
 have z0 : W.cell? ⟨S + 1 + 1 + 1 + 1 + 1 + 1, 0, none⟩ = some (.int .u64 0) := (HB6.out.below (Below.refl W.heap.size W) HB6.out.lt).cell 0
 have z1 : W.cell? ⟨S + 1 + 1 + 1 + 1 + 1 + 1, 1, none⟩ = some (.int .i64 9) := (HB6.out.below (Below.refl W.heap.size W) HB6.out.lt).cell 1
 have z2 : W.cell? ⟨S + 1 + 1 + 1 + 1 + 1 + 1, 2, none⟩ = some (.slice (some ⟨S + 1 + 1 + 1 + 1 + 1, 0, none⟩) 1 1) := (HB6.out.below (Below.refl W.heap.size W) HB6.out.lt).cell 2
 have z3 : W.cell? ⟨S + 1 + 1 + 1 + 1 + 1 + 1, 3, none⟩ = some (.slice none 0 0) := (HB6.out.below (Below.refl W.heap.size W) HB6.out.lt).cell 3
 go_wp2_with fail
 refine (HC4.out _ (Below.refl _ _)).mono ?_; rintro e w1 ⟨rfl, hb1⟩
 clear x0 x1 x2 x3 y0 y1 y2 y3 z0 z1 z2 z3
 have HV1 := Lib.hid (Blk.new w1 37 #[.bool true, .int .i64 0, .float .f64 4609434218613702656])
 have HB1 := Lib.hid (hb1.alloc hb1.size (.cells #[.bool true, .int .i64 0, .float .f64 4609434218613702656] 37))
 go_upto_region 5 with fail
 generalize w1.alloc (.cells #[.bool true, .int .i64 0, .float .f64 4609434218613702656] 37) = w2 at *
 generalize w1.heap.size = P at *
 clear hb1
 have x0 := (HB2.out.below HB1.out HB2.out.lt).c 0
 have x1 := (HB2.out.below HB1.out HB2.out.lt).c 1
 have x2 := (HB2.out.below HB1.out HB2.out.lt).c 2
 have x3 := (HB2.out.below HB1.out HB2.out.lt).c 3
 have y0 := (HB4.out.below HB1.out HB4.out.lt).c 0
 have y1 := (HB4.out.below HB1.out HB4.out.lt).c 1
 have y2 := (HB4.out.below HB1.out HB4.out.lt).c 2
 have y3 := (HB4.out.below HB1.out HB4.out.lt).c 3
 have z0 := (HB6.out.below HB1.out HB6.out.lt).c 0
 have z1 := (HB6.out.below HB1.out HB6.out.lt).c 1
 have z2 := (HB6.out.below HB1.out HB6.out.lt).c 2
 have z3 := (HB6.out.below HB1.out HB6.out.lt).c 3
 go_wp2_with fail
 refine (HC6.out _ HB1.out).mono ?_; rintro e w3 ⟨rfl, hb3⟩
 clear x0 x1 x2 x3 y0 y1 y2 y3 z0 z1 z2 z3
 have HV2 := Lib.hid (Blk.new w3 37 #[.bool true, .int .i64 0, .float .f64 4602678819172646912])
 have HV3 := Lib.hid ((HV1.out.below hb3 HV1.out.lt).alloc (.cells #[.bool true, .int .i64 0, .float .f64 4602678819172646912] 37))
 have hb4 := HB1.out.trans (hb3.mono HB1.out.size)
 have HB3 := Lib.hid (hb4.alloc hb4.size (.cells #[.bool true, .int .i64 0, .float .f64 4602678819172646912] 37))
 go_upto_region 6 with fail
 generalize w3.alloc (.cells #[.bool true, .int .i64 0, .float .f64 4602678819172646912] 37) = w4 at *
 generalize w3.heap.size = Q at *
 clear hb3 hb4
 have p0 := HV3.out.c 0
 have p2 := HV3.out.c 2
 have q0 := HV2.out.c 0
 have q2 := HV2.out.c 2
 have o1 : FloatKind.f64.format.order 4609434218613702656 4609434218613702656 = some .eq := by decide
 have o2 : FloatKind.f64.format.order 4602678819172646912 4602678819172646912 = some .eq := by decide
 have x0 := (HB2.out.below HB3.out HB2.out.lt).c 0
 have x1 := (HB2.out.below HB3.out HB2.out.lt).c 1
 have x2 := (HB2.out.below HB3.out HB2.out.lt).c 2
 have x3 := (HB2.out.below HB3.out HB2.out.lt).c 3
 have HR2 := Lib.hid (HR.out _ HB3.out)
 rw [ex_real] at HR2
 go_wp2_with fail
 refine (HR2.out).mono ?_; rintro e w5 ⟨rfl, hb5⟩
 have HB5 := Lib.hid (HBW.out.trans ((HB3.out.trans (hb5.mono HB3.out.size)).mono (by have := HSZ.out; omega)))
 clear hb5 x0 x1 x2 x3 p0 p2 q0 q2
 go_wp2_with fail
 go_ret
 exact ⟨rfl, by rw [HS.out]; exact HB5.out⟩
end Go.Proofs.YtehmompbmnejkaaGreat
