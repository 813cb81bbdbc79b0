/- The contract of bushelref14's Join: printed by gen_dbj.py. Conditions: cells of facts, few. -/
import Derived.Test.YtehmompbmnejkaaGreatMDbA
namespace Go.Proofs.YtehmompbmnejkaaGreat
open Go.RowKit Ieee
attribute [local go_sem] run_store_float

/-- two operations may come up -/
theorem wpAnyN_pair {P : Program} {ops : Array Oper} {Q : Exit → Act → World → Prop} {md : Region.Mode} {S : World → Prop} {Ls : List Nat} {i j : Nat} {o p : Oper} {fuel : Nat} {listed : Array Bool} {a : Act} {w : World} (hr : Region.ready md ops listed = [i, j]) (ho : ops[i]? = some o) (hp : ops[j]? = some p)
  (h1 : ∀ K' : Act → World → Prop, Shut (∀ a w, S w → (S w → wpAnyN P md ops Q S Ls fuel (listed.setIfInBounds i true) a w) → K' a w) → if Region.wanted o (yielded ops a.tmps) = true then Oper.wp P o a w K' Q else K' (a.put o.dst undef) w)
  (h2 : ∀ K' : Act → World → Prop, Shut (∀ a w, S w → (S w → wpAnyN P md ops Q S Ls fuel (listed.setIfInBounds j true) a w) → K' a w) → if Region.wanted p (yielded ops a.tmps) = true then Oper.wp P p a w K' Q else K' (a.put p.dst undef) w) :
  wpAnyN P md ops Q S Ls (fuel + 1) listed a w :=
 ⟨fun h0 => (by rw [hr] at h0; cases h0), fun q hq => by
  rw [hr] at hq
  have hq' : q = i ∨ q = j := by simpa using hq
  rcases hq' with rfl | rfl
  ·exact wpOp_step ho fun K' hK => h1 K' fun a w hS hW => hK a w ⟨.inr hS, hW hS⟩
  ·exact wpOp_step hp fun K' hK => h2 K' fun a w hS hW => hK a w ⟨.inr hS, hW hS⟩⟩
/-- the answer: a cell of k facts, or an error -/
def RCJoin (k : Int) (ni nn : Nat) (w : World) (e : Ending) (w' : World) : Prop := ∃ (l : CellL) (c : CellV) (er : Int), e = .returned (.tuple #[l.val c, .int .i64 er]) ∧ (er = 0 → CellAt w' l c ∧ CInv k ni nn c) ∧ Below w.heap.size w w'
theorem join_results {w : World} {s : Nat} {er : Int} {tmps : Array Value} {v0 v1 v2 v3 : Value} (h2 : tmps[4]? = some (.pointer (some ⟨s, 0, none⟩))) (h3 : tmps[5]? = some (.int .i64 er)) (hk : Blk w s 47 #[v0, v1, v2, v3]) :
  (Sem.run Tryz.prog (results Tryz.f28 tmps) w) = .ok (.tuple #[.agg #[v0, v1, v2, v3], .int .i64 er]) w := by
 have d0 := hk.cell 0
 have d1 := hk.cell 1
 have d2 := hk.cell 2
 have d3 := hk.cell 3
 clear hk
 simp at d0 d1 d2 d3
 simp [results, Tryz.results28, go_sem, h2, h3, d0, d1, d2, d3]
theorem Blk.store5B {w : World} {b y : Nat} {t t' : TypeId} {u0 u1 u2 u3 u4 : Value} {cs : Array Value} (hk : Blk w b t #[u0, u1, u2, u3, u4]) (hy : Blk w y t' cs) (hne : y ≠ b) (z0 z1 z2 z3 z4 : Value) :
    Blk (((((w.setCell ⟨b, 0, none⟩ z0).setCell ⟨b, 1, none⟩ z1).setCell ⟨b, 2, none⟩ z2).setCell ⟨b, 3, none⟩ z3).setCell ⟨b, 4, none⟩ z4) b t #[z0, z1, z2, z3, z4] ∧ Blk (((((w.setCell ⟨b, 0, none⟩ z0).setCell ⟨b, 1, none⟩ z1).setCell ⟨b, 2, none⟩ z2).setCell ⟨b, 3, none⟩ z3).setCell ⟨b, 4, none⟩ z4) y t' cs ∧
    ∀ (w0 : World) (N : Nat), Below N w0 w → N ≤ b → Below N w0 (((((w.setCell ⟨b, 0, none⟩ z0).setCell ⟨b, 1, none⟩ z1).setCell ⟨b, 2, none⟩ z2).setCell ⟨b, 3, none⟩ z3).setCell ⟨b, 4, none⟩ z4) :=
  ⟨((((((hk.set_ 0 z0).set_ 1 z1).set_ 2 z2).set_ 3 z3)).set_ 4 z4).to rfl, ((((hy.far (p := ⟨b, 0, none⟩) hne z0).far (p := ⟨b, 1, none⟩) hne z1).far (p := ⟨b, 2, none⟩) hne z2).far (p := ⟨b, 3, none⟩) hne z3).far (p := ⟨b, 4, none⟩) hne z4,
   fun _ _ h hb => below_at (below_set4 h hb z0 z1 z2 z3) (p := ⟨b, 4, none⟩) hb z4⟩
theorem Blk.store3B {w : World} {b y : Nat} {t t' : TypeId} {u0 u1 u2 : Value} {cs : Array Value} (hk : Blk w b t #[u0, u1, u2]) (hy : Blk w y t' cs) (hne : y ≠ b) (z0 z1 z2 : Value) :
    Blk (((w.setCell ⟨b, 0, none⟩ z0).setCell ⟨b, 1, none⟩ z1).setCell ⟨b, 2, none⟩ z2) b t #[z0, z1, z2] ∧ Blk (((w.setCell ⟨b, 0, none⟩ z0).setCell ⟨b, 1, none⟩ z1).setCell ⟨b, 2, none⟩ z2) y t' cs ∧
    ∀ (w0 : World) (N : Nat), Below N w0 w → N ≤ b → Below N w0 (((w.setCell ⟨b, 0, none⟩ z0).setCell ⟨b, 1, none⟩ z1).setCell ⟨b, 2, none⟩ z2) :=
  ⟨(((hk.set_ 0 z0).set_ 1 z1).set_ 2 z2).to rfl, ((hy.far (p := ⟨b, 0, none⟩) hne z0).far (p := ⟨b, 1, none⟩) hne z1).far (p := ⟨b, 2, none⟩) hne z2,
   fun _ _ h hb => below_at (below_at (below_at h (p := ⟨b, 0, none⟩) hb z0) (p := ⟨b, 1, none⟩) hb z1) (p := ⟨b, 2, none⟩) hb z2⟩
theorem Blk.store4 {w : World} {b : Nat} {t : TypeId} {u0 u1 u2 u3 : Value} (hk : Blk w b t #[u0, u1, u2, u3]) (z0 z1 z2 z3 : Value) :
  Blk ((((w.setCell ⟨b, 0, none⟩ z0).setCell ⟨b, 1, none⟩ z1).setCell ⟨b, 2, none⟩ z2).setCell ⟨b, 3, none⟩ z3) b t #[z0, z1, z2, z3] :=
 (((((hk.set_ 0 z0).set_ 1 z1).set_ 2 z2).set_ 3 z3)).to rfl
/-- an error's answer -/
theorem RCJoin.err {k : Int} {ni nn : Nat} {w w' : World} {er : Int} (he : er ≠ 0) (hb : Below w.heap.size w w') : RCJoin k ni nn w (.returned (.tuple #[.agg #[.int .u64 0, .int .i64 0, .slice none 0 0, .slice none 0 0], .int .i64 er])) w' :=
 ⟨⟨none, 0, 0, none, 0, 0⟩, ⟨0, 0, [], []⟩, er, rfl, fun h => absurd h he, hb⟩

set_option maxRecDepth 100000 in
set_option maxHeartbeats 16000000 in
theorem cjoin_any (w : World) (la lb : CellL) (a b : CellV) (k j : Int) (ni nn : Nat) (ha : CellAt w la a) (hb : CellAt w lb b) (ia : CInv k ni nn a) (ib : CInv j ni nn b) (hk : 1 ≤ k ∧ k ≤ 500) (hj : 1 ≤ j ∧ j ≤ 500) (hni : ni ≤ 20) (hnn : nn ≤ 20) :
  Calls Tryz.prog 28 #[la.val a, lb.val b] w (RCJoin (k + j) ni nn w) := by
 obtain ⟨ai, mi, ci, an, mn, cn⟩ := la
 obtain ⟨bi, mj, di, bn, mo, dn⟩ := lb
 obtain ⟨qa, kx, xs, us⟩ := a
 obtain ⟨qb, ky, ys, vs⟩ := b
 obtain ⟨q1, q2, q3, q4, q5, q6⟩ := ia
 obtain ⟨p1, p2, p3, p4, p5, p6⟩ := ib
 dsimp only at q1 q2 q3 q4 p1 p2 p3 p4
 have e1 : xs.length = mi := ha.2.1
 have e2 : us.length = mn := ha.2.2.2.1
 have e3 : ys.length = mj := hb.2.1
 have e4 : vs.length = mo := hb.2.2.2.1
 obtain rfl : mi = mj := by omega
 obtain rfl : mn = mo := by omega
 obtain rfl : mi = ni := by omega
 obtain rfl : mn = nn := by omega
 clear q3 q4 p3 p4
 subst q1 q2 p1 p2
 obtain ⟨k1, k2, k3, hbw, hsz⟩ := three_pbox w 47 47 47 #[.int .u64 0, .int .i64 kx, .slice ai mi ci, .slice an mn cn] #[.int .u64 0, .int .i64 ky, .slice bi mi di, .slice bn mn dn] #[.int .u64 0, .int .i64 0, .slice none 0 0, .slice none 0 0]
 have HA := Lib.hid (ha.below hbw (Nat.le_refl _))
 have HBB := Lib.hid (hb.below hbw (Nat.le_refl _))
 have HLX := Lib.hid (And.intro e1 (And.intro e2 (And.intro e3 e4)))
 have HIX := Lib.hid (And.intro q5 (And.intro q6 (And.intro p5 p6)))
 have HKK := Lib.hid (And.intro hk hj)
 have HMM := Lib.hid (And.intro hni hnn)
 have hkj : -9223372036854775808 ≤ kx + ky ∧ kx + ky ≤ 9223372036854775807 := by omega
 have HRM := Lib.hid (fun w => room_any kx ky w (by omega) (by omega))
 rw [roomZ_yes hkj, fits_yes hkj] at HRM
 have HBW := Lib.hid hbw
 have HK1 := Lib.hid k1
 have HK2 := Lib.hid k2
 have HK3 := Lib.hid k3
 have x0 := k1.cell 0
 have x1 := k1.cell 1
 have x2 := k1.cell 2
 have x3 := k1.cell 3
 have y0 := k2.cell 0
 have y1 := k2.cell 1
 have y2 := k2.cell 2
 have y3 := k2.cell 3
 simp only [List.getElem?_toArray, List.getElem?_cons_zero, List.getElem?_cons_succ] at x0 x1 x2 x3 y0 y1 y2 y3
 have HSZ := Lib.hid hsz
 have HMX : Hid (mi ≤ 9223372036854775807 ∧ mn ≤ 9223372036854775807) := Lib.hid (by omega)
 clear ha hb q5 q6 p5 p6 e1 e2 e3 e4 hk hj hbw hsz k1 k2 k3 hkj
 unfold CellL.val
 dsimp only
 go_enter Tryz.func28, Tryz.ntmps28
 go_upto_region 1 with fail
 generalize (((w.alloc (.cells #[.int .u64 0, .int .i64 kx, .slice ai mi ci, .slice an mn cn] 47)).alloc (.cells #[.int .u64 0, .int .i64 ky, .slice bi mi di, .slice bn mn dn] 47)).alloc (.cells #[.int .u64 0, .int .i64 0, .slice none 0 0, .slice none 0 0] 47)) = w0 at *
 generalize hS : w.heap.size = S at *
 have HSS := Lib.hid hS
 clear hS
 obtain ⟨N, hN⟩ : ∃ N, w0.heap.size = N := ⟨_, rfl⟩
 have HN := Lib.hid hN
 clear hN
 have HLT : Hid (S < N ∧ S + 1 < N ∧ S + 2 < N) := Lib.hid (by rw [← HN.out, HSZ.out]; omega)
 have hNv : ∀ v, Below N w0 v → N ≤ v.heap.size := fun v hv => by have := hv.size; rw [HN.out] at this; exact this
 go_wp2_with fail
 refine (HRM.out _).mono ?_
 rintro e w1 ⟨rfl, hb1⟩
 have HB1 := Lib.hid (show Below N w0 w1 by rw [HN.out] at hb1; exact hb1)
 clear hb1 HRM x0 x1 x2 x3 y0 y1 y2 y3
 have hx0 := (HK1.out.below HB1.out HLT.out.1).c 0
 have hkC := Blk.new w1 47 #[.int .u64 0, .int .i64 (kx + ky), .slice none 0 0, .slice none 0 0]
 have hbC : Below w1.heap.size w1 (w1.alloc (.cells #[.int .u64 0, .int .i64 (kx + ky), .slice none 0 0, .slice none 0 0] 47)) := (Below.refl _ _).alloc (Nat.le_refl _) _
 have hNC : N ≤ w1.heap.size := hNv _ HB1.out
 have HBC := Lib.hid (HB1.out.trans (hbC.mono hNC))
 have HCU := Lib.hid (CU.mk0 hkC)
 go_upto_region 7 with fail
 have HNC := Lib.hid hNC
 have HCN : Hid (N ≤ w1.heap.size + 1) := Lib.hid (by omega)
 generalize (w1.alloc (.cells #[.int .u64 0, .int .i64 (kx + ky), .slice none 0 0, .slice none 0 0] 47)) = w2 at *
 generalize w1.heap.size = C at *
 clear hkC hbC hNC HB1 hx0
 have hmx := HMX.out.1
 go_wp2_with fail
 go_loopg [9] mi (fun gg iu wr => ∃ (jj : Nat) (vi : Value) (zs : List Whl), iu = .int .i64 jj ∧ jj + gg = mi ∧ zs.length = jj ∧ CU wr C 0 (kx + ky) vi (.slice none 0 0) zs [] ∧ (∀ z ∈ zs, WInv (kx + ky) z) ∧ Below N w0 wr)
 case atStart => exact ⟨0, _, [], rfl, by omega, rfl, HCU.out, fun x hx => (by cases hx), HBC.out⟩
 case round =>
 clear HCU HBC
 obtain ⟨jj, vi, zs, rfl, hqq, hzl, hcu, hwi, hb⟩ := hrel
 have HQQ := Lib.hid hqq
 have HZJ := Lib.hid hzl
 have HCU0 := Lib.hid hcu
 have HWI := Lib.hid hwi
 have HB := Lib.hid hb
 have x2 := (HK1.out.below hb HLT.out.1).c 2
 have y2 := (HK2.out.below hb HLT.out.2.1).c 2
 clear hqq hzl hcu hwi hb
 by_cases hlt : jj < mi
 case pos =>
  have HXL : Hid (zs.length ≤ 20) := Lib.hid (by rw [HZJ.out]; have := HMM.out.1; omega)
  have HA2 := Lib.hid (HA.out.below HB.out (Nat.le_of_eq HN.out))
  have HB2 := Lib.hid (HBB.out.below HB.out (Nat.le_of_eq HN.out))
  obtain ⟨ab, ao, ae, abl, ac⟩ := HA2.out.1.at (show 0 < mi by omega)
  obtain ⟨bb, bo, be, bbl, bc⟩ := HB2.out.1.at (show 0 < mi by omega)
  dsimp only at ae be ac bc
  subst ae be
  obtain ⟨g0, g1, g2, g3, g4⟩ := whlCells_get (ds := xs) (i := jj) (by rw [HLX.out.1]; exact hlt)
  obtain ⟨f0, f1, f2, f3, f4⟩ := whlCells_get (ds := ys) (i := jj) (by rw [HLX.out.2.2.1]; exact hlt)
  have hmx := whlAt_mem (ds := xs) (i := jj) (by rw [HLX.out.1]; exact hlt)
  have hmy := whlAt_mem (ds := ys) (i := jj) (by rw [HLX.out.2.2.1]; exact hlt)
  have HPX := Lib.hid (And.intro (HA2.out.2.2.2.2.2.2.1 _ hmx) (HIX.out.1 _ hmx))
  have HPY := Lib.hid (And.intro (HB2.out.2.2.2.2.2.2.1 _ hmy) (HIX.out.2.2.1 _ hmy))
  obtain ⟨⟨s1, t1, l1, a1, n1, c1, m1, M1⟩, hx⟩ : ∃ z, whlAt xs jj = z := ⟨_, rfl⟩
  obtain ⟨⟨s2, t2, l2, a2, n2, c2, m2, M2⟩, hy⟩ : ∃ z, whlAt ys jj = z := ⟨_, rfl⟩
  rw [hx] at g0 g1 g2 g3 g4 HPX
  rw [hy] at f0 f1 f2 f3 f4 HPY
  dsimp only at g0 g1 g2 g3 g4 f0 f1 f2 f3 f4
  have ac0 := ac (jj * 5) (by omega)
  have ac1 := ac (jj * 5 + 1) (by omega)
  have ac2 := ac (jj * 5 + 2) (by omega)
  have ac3 := ac (jj * 5 + 3) (by omega)
  have ac4 := ac (jj * 5 + 4) (by omega)
  have bc0 := bc (jj * 5) (by omega)
  have bc1 := bc (jj * 5 + 1) (by omega)
  have bc2 := bc (jj * 5 + 2) (by omega)
  have bc3 := bc (jj * 5 + 3) (by omega)
  have bc4 := bc (jj * 5 + 4) (by omega)
  rw [g0] at ac0
  rw [g1, ← Nat.add_assoc] at ac1
  rw [g2, ← Nat.add_assoc] at ac2
  rw [g3, ← Nat.add_assoc] at ac3
  rw [g4, ← Nat.add_assoc] at ac4
  rw [f0] at bc0
  rw [f1, ← Nat.add_assoc] at bc1
  rw [f2, ← Nat.add_assoc] at bc2
  rw [f3, ← Nat.add_assoc] at bc3
  rw [f4, ← Nat.add_assoc] at bc4
  clear ac bc g0 g1 g2 g3 g4 f0 f1 f2 f3 f4 hx hy hmx hmy HA2 HB2
  have hxs : S < wr.heap.size ∧ S + 1 < wr.heap.size := by have := hNv _ HB.out; have := HLT.out; omega
  go_wp2_with fail
  go_upto_region 10 with fail
  go_cut [10, 11] (fun u v wx => ∃ X Y, u = .pointer (some ⟨X, 0, none⟩) ∧ v = .pointer (some ⟨Y, 0, none⟩) ∧ Blk wx X 58 #[.int .i64 s1, .int .i64 t1, .slice a1 n1 c1, .int .i64 m1, .int .i64 M1] ∧ Blk wx Y 58 #[.int .i64 s2, .int .i64 t2, .slice a2 n2 c2, .int .i64 m2, .int .i64 M2] ∧ Below wr.heap.size wr wx)

  case first =>

   refine wp_regionN (fun w' => Below wr.heap.size wr w') [] (by kernel_rfl) (by exact (Below.refl _ _).drew) (fun hHeld => ?_)
   generalize wr.drew = v0 at *
   refine wpAnyN_u 0 ⟨some 72, _, _, _, _, _⟩ _ rfl ?_
   try simp only [Act.put, putA, putB, putC]
   refine wpAnyN_t 1 ⟨some 73, _, _, _, _, _⟩ ?_ rfl ?_ ?_
   rotate_left 1
   ·(intro w hSw; have d0 : w.cell? ⟨S, 2, none⟩ = some (.slice (some ⟨ab, ao, none⟩) mi ci) := (by rw [(bcell hSw).1 _ _ hxs.1]; exact x2); go_simp; try with_reducible rfl)
   try simp only [Act.put, putA, putB, putC]
   refine wpAnyN_u 2 ⟨some 74, _, _, _, _, _⟩ _ rfl ?_
   try simp only [Act.put, putA, putB, putC]
   refine wpAnyN_u 3 ⟨some 75, _, _, _, _, _⟩ _ rfl ?_
   try simp only [Act.put, putA, putB, putC]
   refine wpAnyN_t 4 ⟨some 76, _, _, _, _, _⟩ ?_ rfl ?_ ?_
   rotate_left 1
   ·(intro w hSw; have d0 : w.cell? ⟨ab, ao + jj * 5, none⟩ = some (.int .i64 s1) := (by rw [(bcell hSw).1 _ _ abl]; exact ac0); have d1 : w.cell? ⟨ab, ao + jj * 5 + 1, none⟩ = some (.int .i64 t1) := (by rw [(bcell hSw).1 _ _ abl]; exact ac1); have d2 : w.cell? ⟨ab, ao + jj * 5 + 2, none⟩ = some (.slice a1 n1 c1) := (by rw [(bcell hSw).1 _ _ abl]; exact ac2); have d3 : w.cell? ⟨ab, ao + jj * 5 + 3, none⟩ = some (.int .i64 m1) := (by rw [(bcell hSw).1 _ _ abl]; exact ac3); have d4 : w.cell? ⟨ab, ao + jj * 5 + 4, none⟩ = some (.int .i64 M1) := (by rw [(bcell hSw).1 _ _ abl]; exact ac4); go_simp; try with_reducible rfl)
   try simp only [Act.put, putA, putB, putC]
   refine wpAnyN_u 5 ⟨some 77, _, _, _, _, _⟩ _ rfl ?_
   try simp only [Act.put, putA, putB, putC]
   refine wpAnyN_t 6 ⟨some 78, _, _, _, _, _⟩ ?_ rfl ?_ ?_
   rotate_left 1
   ·(intro w hSw; have d0 : w.cell? ⟨S + 1, 2, none⟩ = some (.slice (some ⟨bb, bo, none⟩) mi di) := (by rw [(bcell hSw).1 _ _ hxs.2]; exact y2); go_simp; try with_reducible rfl)
   try simp only [Act.put, putA, putB, putC]
   refine wpAnyN_u 7 ⟨some 79, _, _, _, _, _⟩ _ rfl ?_
   try simp only [Act.put, putA, putB, putC]
   refine wpAnyN_u 8 ⟨some 80, _, _, _, _, _⟩ _ rfl ?_
   try simp only [Act.put, putA, putB, putC]
   refine wpAnyN_t 9 ⟨some 81, _, _, _, _, _⟩ ?_ rfl ?_ ?_
   rotate_left 1
   ·(intro w hSw; have d0 : w.cell? ⟨bb, bo + jj * 5, none⟩ = some (.int .i64 s2) := (by rw [(bcell hSw).1 _ _ bbl]; exact bc0); have d1 : w.cell? ⟨bb, bo + jj * 5 + 1, none⟩ = some (.int .i64 t2) := (by rw [(bcell hSw).1 _ _ bbl]; exact bc1); have d2 : w.cell? ⟨bb, bo + jj * 5 + 2, none⟩ = some (.slice a2 n2 c2) := (by rw [(bcell hSw).1 _ _ bbl]; exact bc2); have d3 : w.cell? ⟨bb, bo + jj * 5 + 3, none⟩ = some (.int .i64 m2) := (by rw [(bcell hSw).1 _ _ bbl]; exact bc3); have d4 : w.cell? ⟨bb, bo + jj * 5 + 4, none⟩ = some (.int .i64 M2) := (by rw [(bcell hSw).1 _ _ bbl]; exact bc4); go_simp; try with_reducible rfl)
   try simp only [Act.put, putA, putB, putC]
   have HB0 := Lib.hid hHeld
   refine wpAnyN_pair (i := 10) (j := 11) (o := ⟨some 10, _, _, _, _, _⟩) (p := ⟨some 11, _, _, _, _, _⟩) (by kernel_rfl) rfl rfl (fun K hK => ?_) (fun K hK => ?_)
   ·go_simp
    have HBk := Lib.hid (Blk.new v0 58 #[.int .i64 0, .int .i64 0, .slice none 0 0, .int .i64 0, .int .i64 0])
    have HB1 := Lib.hid (HB0.out.alloc HB0.out.size (.cells #[.int .i64 0, .int .i64 0, .slice none 0 0, .int .i64 0, .int .i64 0] 58))
    obtain ⟨X, hX⟩ : ∃ X, v0.heap.size = X := ⟨_, rfl⟩
    have HXS : Hid (wr.heap.size ≤ X) := Lib.hid (by have := HB0.out.size; omega)
    have HXK : Hid (Blk (v0.alloc (.cells #[.int .i64 0, .int .i64 0, .slice none 0 0, .int .i64 0, .int .i64 0] 58)) X 58 #[.int .i64 0, .int .i64 0, .slice none 0 0, .int .i64 0, .int .i64 0]) := Lib.hid (by rw [← hX]; exact HBk.out)
    rw [hX]
    clear HBk
    generalize (v0.alloc (.cells #[.int .i64 0, .int .i64 0, .slice none 0 0, .int .i64 0, .int .i64 0] 58)) = v1 at *
    refine hK.out _ _ (by exact HB1.out) ?_
    clear hK K hHeld
    intro hHeld
    try simp only [Act.put, putA, putB, putC]
    refine wpAnyN_one (i := 11) (o := ⟨some 11, _, _, _, _, _⟩) (by kernel_rfl) rfl (fun K hK => ?_)
    go_simp
    have HBk := Lib.hid (Blk.new v1 58 #[.int .i64 0, .int .i64 0, .slice none 0 0, .int .i64 0, .int .i64 0])
    have HB2 := Lib.hid (HB1.out.alloc HB1.out.size (.cells #[.int .i64 0, .int .i64 0, .slice none 0 0, .int .i64 0, .int .i64 0] 58))
    have HXK2 := Lib.hid (HXK.out.alloc (.cells #[.int .i64 0, .int .i64 0, .slice none 0 0, .int .i64 0, .int .i64 0] 58))
    obtain ⟨Y, hY⟩ : ∃ Y, v1.heap.size = Y := ⟨_, rfl⟩
    have HYS : Hid (wr.heap.size ≤ Y ∧ Y ≠ X) := Lib.hid (by have := HB1.out.size; have := HXK.out.lt; omega)
    have HYK2 : Hid (Blk (v1.alloc (.cells #[.int .i64 0, .int .i64 0, .slice none 0 0, .int .i64 0, .int .i64 0] 58)) Y 58 #[.int .i64 0, .int .i64 0, .slice none 0 0, .int .i64 0, .int .i64 0]) := Lib.hid (by rw [← hY]; exact HBk.out)
    rw [hY]
    clear HBk
    generalize (v1.alloc (.cells #[.int .i64 0, .int .i64 0, .slice none 0 0, .int .i64 0, .int .i64 0] 58)) = v2 at *
    refine hK.out _ _ (by exact HB2.out) ?_
    clear hK K hHeld
    intro hHeld
    try simp only [Act.put, putA, putB, putC]
    have z0 := HXK2.out.c 0
    have z1 := HXK2.out.c 1
    have z2 := HXK2.out.c 2
    have z3 := HXK2.out.c 3
    have z4 := HXK2.out.c 4
    have zf : ∀ o, v2.frozen? ⟨X, o, none⟩ = false := fun o => HXK2.out.frozen o
    refine wpAnyN_one (i := 12) (o := ⟨none, _, _, _, _, _⟩) (by kernel_rfl) rfl (fun K hK => ?_)
    go_simp
    clear z0 z1 z2 z3 z4 zf
    have HST := Lib.hid (Blk.store5B HXK2.out HYK2.out (show Y ≠ X from HYS.out.2) (.int .i64 s1) (.int .i64 t1) (.slice a1 n1 c1) (.int .i64 m1) (.int .i64 M1))
    have HXK3 := Lib.hid HST.out.1
    have HYK3 := Lib.hid HST.out.2.1
    have HB3 := Lib.hid (HST.out.2.2 _ _ HB2.out HXS.out)
    clear HST
    generalize (((((v2.setCell ⟨X, 0, none⟩ (.int .i64 s1)).setCell ⟨X, 1, none⟩ (.int .i64 t1)).setCell ⟨X, 2, none⟩ (.slice a1 n1 c1)).setCell ⟨X, 3, none⟩ (.int .i64 m1)).setCell ⟨X, 4, none⟩ (.int .i64 M1)) = v3 at *
    refine hK.out _ _ (by exact HB3.out) ?_
    clear hK K hHeld
    intro hHeld
    try simp only [Act.put, putA, putB, putC]
    have z0 := HYK3.out.c 0
    have z1 := HYK3.out.c 1
    have z2 := HYK3.out.c 2
    have z3 := HYK3.out.c 3
    have z4 := HYK3.out.c 4
    have zf : ∀ o, v3.frozen? ⟨Y, o, none⟩ = false := fun o => HYK3.out.frozen o
    refine wpAnyN_one (i := 13) (o := ⟨none, _, _, _, _, _⟩) (by kernel_rfl) rfl (fun K hK => ?_)
    go_simp
    clear z0 z1 z2 z3 z4 zf
    have HST := Lib.hid (Blk.store5B HYK3.out HXK3.out (show X ≠ Y from (Ne.symm HYS.out.2)) (.int .i64 s2) (.int .i64 t2) (.slice a2 n2 c2) (.int .i64 m2) (.int .i64 M2))
    have HYK4 := Lib.hid HST.out.1
    have HXK4 := Lib.hid HST.out.2.1
    have HB4 := Lib.hid (HST.out.2.2 _ _ HB3.out HYS.out.1)
    clear HST
    generalize (((((v3.setCell ⟨Y, 0, none⟩ (.int .i64 s2)).setCell ⟨Y, 1, none⟩ (.int .i64 t2)).setCell ⟨Y, 2, none⟩ (.slice a2 n2 c2)).setCell ⟨Y, 3, none⟩ (.int .i64 m2)).setCell ⟨Y, 4, none⟩ (.int .i64 M2)) = v4 at *
    refine hK.out _ _ (by exact HB4.out) ?_
    clear hK K hHeld
    intro hHeld
    try simp only [Act.put, putA, putB, putC]
    refine wpAnyN_end (by kernel_rfl) ?_
    try go_wp2_with fail
    go_meet
    exact ⟨X, Y, rfl, rfl, HXK4.out, HYK4.out, HB4.out⟩
   ·go_simp
    have HBk := Lib.hid (Blk.new v0 58 #[.int .i64 0, .int .i64 0, .slice none 0 0, .int .i64 0, .int .i64 0])
    have HB1 := Lib.hid (HB0.out.alloc HB0.out.size (.cells #[.int .i64 0, .int .i64 0, .slice none 0 0, .int .i64 0, .int .i64 0] 58))
    obtain ⟨Y, hY⟩ : ∃ Y, v0.heap.size = Y := ⟨_, rfl⟩
    have HYS : Hid (wr.heap.size ≤ Y) := Lib.hid (by have := HB0.out.size; omega)
    have HYK : Hid (Blk (v0.alloc (.cells #[.int .i64 0, .int .i64 0, .slice none 0 0, .int .i64 0, .int .i64 0] 58)) Y 58 #[.int .i64 0, .int .i64 0, .slice none 0 0, .int .i64 0, .int .i64 0]) := Lib.hid (by rw [← hY]; exact HBk.out)
    rw [hY]
    clear HBk
    generalize (v0.alloc (.cells #[.int .i64 0, .int .i64 0, .slice none 0 0, .int .i64 0, .int .i64 0] 58)) = v1 at *
    refine hK.out _ _ (by exact HB1.out) ?_
    clear hK K hHeld
    intro hHeld
    try simp only [Act.put, putA, putB, putC]
    refine wpAnyN_one (i := 10) (o := ⟨some 10, _, _, _, _, _⟩) (by kernel_rfl) rfl (fun K hK => ?_)
    go_simp
    have HBk := Lib.hid (Blk.new v1 58 #[.int .i64 0, .int .i64 0, .slice none 0 0, .int .i64 0, .int .i64 0])
    have HB2 := Lib.hid (HB1.out.alloc HB1.out.size (.cells #[.int .i64 0, .int .i64 0, .slice none 0 0, .int .i64 0, .int .i64 0] 58))
    have HYK2 := Lib.hid (HYK.out.alloc (.cells #[.int .i64 0, .int .i64 0, .slice none 0 0, .int .i64 0, .int .i64 0] 58))
    obtain ⟨X, hX⟩ : ∃ X, v1.heap.size = X := ⟨_, rfl⟩
    have HXS : Hid (wr.heap.size ≤ X ∧ X ≠ Y) := Lib.hid (by have := HB1.out.size; have := HYK.out.lt; omega)
    have HXK2 : Hid (Blk (v1.alloc (.cells #[.int .i64 0, .int .i64 0, .slice none 0 0, .int .i64 0, .int .i64 0] 58)) X 58 #[.int .i64 0, .int .i64 0, .slice none 0 0, .int .i64 0, .int .i64 0]) := Lib.hid (by rw [← hX]; exact HBk.out)
    rw [hX]
    clear HBk
    generalize (v1.alloc (.cells #[.int .i64 0, .int .i64 0, .slice none 0 0, .int .i64 0, .int .i64 0] 58)) = v2 at *
    refine hK.out _ _ (by exact HB2.out) ?_
    clear hK K hHeld
    intro hHeld
    try simp only [Act.put, putA, putB, putC]
    have z0 := HXK2.out.c 0
    have z1 := HXK2.out.c 1
    have z2 := HXK2.out.c 2
    have z3 := HXK2.out.c 3
    have z4 := HXK2.out.c 4
    have zf : ∀ o, v2.frozen? ⟨X, o, none⟩ = false := fun o => HXK2.out.frozen o
    refine wpAnyN_one (i := 12) (o := ⟨none, _, _, _, _, _⟩) (by kernel_rfl) rfl (fun K hK => ?_)
    go_simp
    clear z0 z1 z2 z3 z4 zf
    have HST := Lib.hid (Blk.store5B HXK2.out HYK2.out (show Y ≠ X from (Ne.symm HXS.out.2)) (.int .i64 s1) (.int .i64 t1) (.slice a1 n1 c1) (.int .i64 m1) (.int .i64 M1))
    have HXK3 := Lib.hid HST.out.1
    have HYK3 := Lib.hid HST.out.2.1
    have HB3 := Lib.hid (HST.out.2.2 _ _ HB2.out HXS.out.1)
    clear HST
    generalize (((((v2.setCell ⟨X, 0, none⟩ (.int .i64 s1)).setCell ⟨X, 1, none⟩ (.int .i64 t1)).setCell ⟨X, 2, none⟩ (.slice a1 n1 c1)).setCell ⟨X, 3, none⟩ (.int .i64 m1)).setCell ⟨X, 4, none⟩ (.int .i64 M1)) = v3 at *
    refine hK.out _ _ (by exact HB3.out) ?_
    clear hK K hHeld
    intro hHeld
    try simp only [Act.put, putA, putB, putC]
    have z0 := HYK3.out.c 0
    have z1 := HYK3.out.c 1
    have z2 := HYK3.out.c 2
    have z3 := HYK3.out.c 3
    have z4 := HYK3.out.c 4
    have zf : ∀ o, v3.frozen? ⟨Y, o, none⟩ = false := fun o => HYK3.out.frozen o
    refine wpAnyN_one (i := 13) (o := ⟨none, _, _, _, _, _⟩) (by kernel_rfl) rfl (fun K hK => ?_)
    go_simp
    clear z0 z1 z2 z3 z4 zf
    have HST := Lib.hid (Blk.store5B HYK3.out HXK3.out (show X ≠ Y from HXS.out.2) (.int .i64 s2) (.int .i64 t2) (.slice a2 n2 c2) (.int .i64 m2) (.int .i64 M2))
    have HYK4 := Lib.hid HST.out.1
    have HXK4 := Lib.hid HST.out.2.1
    have HB4 := Lib.hid (HST.out.2.2 _ _ HB3.out HYS.out)
    clear HST
    generalize (((((v3.setCell ⟨Y, 0, none⟩ (.int .i64 s2)).setCell ⟨Y, 1, none⟩ (.int .i64 t2)).setCell ⟨Y, 2, none⟩ (.slice a2 n2 c2)).setCell ⟨Y, 3, none⟩ (.int .i64 m2)).setCell ⟨Y, 4, none⟩ (.int .i64 M2)) = v4 at *
    refine hK.out _ _ (by exact HB4.out) ?_
    clear hK K hHeld
    intro hHeld
    try simp only [Act.put, putA, putB, putC]
    refine wpAnyN_end (by kernel_rfl) ?_
    try go_wp2_with fail
    go_meet
    exact ⟨X, Y, rfl, rfl, HXK4.out, HYK4.out, HB4.out⟩

  case rest =>
   obtain ⟨X, Y, rfl, rfl, hX, hY, hbx⟩ := hcut
   clear x2 y2 ac0 ac1 ac2 ac3 ac4 bc0 bc1 bc2 bc3 bc4 abl bbl hxs
   have HCU1 := Lib.hid (HCU0.out.below hbx (Nat.le_refl _))
   have HB1 := Lib.hid (HB.out.trans (hbx.mono (hNv _ HB.out)))
   have HR1 := Lib.hid (HPX.out.1.1.below hbx (Nat.le_refl _))
   have HR2 := Lib.hid (HPY.out.1.1.below hbx (Nat.le_refl _))
   dsimp only at HR1 HR2
   have HD1 := Lib.hid HPX.out.1.2.1
   have HD2 := Lib.hid HPY.out.1.2.1
   have HI1 : Hid (I64 s1 ∧ I64 t1 ∧ I64 m1 ∧ I64 M1) := Lib.hid HPX.out.1.2.2
   have HI2 : Hid (I64 s2 ∧ I64 t2 ∧ I64 m2 ∧ I64 M2) := Lib.hid HPY.out.1.2.2
   have HW1 : Hid (n1 ≤ 20) := Lib.hid (HPX.out.2.words HPX.out.1 (by have := HKK.out; omega))
   have HW2 : Hid (n2 ≤ 20) := Lib.hid (HPY.out.2.words HPY.out.1 (by have := HKK.out; omega))
   have HFT := Lib.hid (sq_fit (HPX.out.2.fit HPX.out.1 HKK.out.1.2) (HPY.out.2.fit HPY.out.1 HKK.out.2.2))
   dsimp only at HD1 HD2 HFT
   generalize wc = wk at *
   have HX := Lib.hid hX
   have HY := Lib.hid hY
   have u0 := hX.c 0
   have u1 := hY.c 0
   clear hX hY hbx
   go_wp2_with fail
   refine (room_any s1 s2 _ HI1.out.1 HI2.out.1).mono ?_
   rintro e w3 ⟨rfl, hb3⟩
   have HX3 := Lib.hid (HX.out.below hb3 HX.out.lt)
   have HY3 := Lib.hid (HY.out.below hb3 HY.out.lt)
   have HB3 := Lib.hid (HB1.out.trans (hb3.mono (hNv _ HB1.out)))
   have HCU3 := Lib.hid (HCU1.out.below hb3 (Nat.le_refl _))
   have HR13 := Lib.hid (HR1.out.below hb3 (Nat.le_refl _))
   have HR23 := Lib.hid (HR2.out.below hb3 (Nat.le_refl _))
   clear u0 u1 hb3 HX HY HR1 HR2
   have u0 := HX3.out.c 1
   have u1 := HY3.out.c 1
   go_wp2_with fail
   refine (room_any t1 t2 _ HI1.out.2.1 HI2.out.2.1).mono ?_
   rintro e w4 ⟨rfl, hb3⟩
   have HX4 := Lib.hid (HX3.out.below hb3 HX3.out.lt)
   have HY4 := Lib.hid (HY3.out.below hb3 HY3.out.lt)
   have HB4 := Lib.hid (HB3.out.trans (hb3.mono (hNv _ HB3.out)))
   have HCU4 := Lib.hid (HCU3.out.below hb3 (Nat.le_refl _))
   have HR14 := Lib.hid (HR13.out.below hb3 (Nat.le_refl _))
   have HR24 := Lib.hid (HR23.out.below hb3 (Nat.le_refl _))
   clear u0 u1 hb3 HX3 HY3 HR13 HR23
   by_cases hz1 : -9223372036854775808 ≤ s1 + s2 ∧ s1 + s2 ≤ 9223372036854775807
   case neg =>
    as_aux_lemma =>
    rw [fits_no hz1, roomZ_no hz1]
    clear hz1

    have hk3 : Blk w4 (S + 1 + 1) 47 #[.int .u64 0, .int .i64 0, .slice none 0 0, .slice none 0 0] := HK3.out.below HB4.out HLT.out.2.2
    have z0 := hk3.c 0
    have z1 := hk3.c 1
    have z2 := hk3.c 2
    have z3 := hk3.c 3
    have zf : ∀ o, w4.frozen? ⟨S + 1 + 1, o, none⟩ = false := fun o => hk3.frozen o
    have HKR := Lib.hid hk3
    clear hk3
    go_wp2_with fail
    refine bodyPost_ret ?_ ?_ (RCJoin.err (er := 10) (by decide) ?_)
    rotate_left 2
    ·rw [HSS.out]
     exact below_set4 (HBW.out.trans (HB4.out.mono (Nat.le_of_lt HLT.out.1))) (by omega) _ _ _ _
    ·exact join_results rfl rfl (HKR.out.store4 _ _ _ _)
    ·rfl

   rw [fits_yes hz1, roomZ_yes hz1]
   have HZ1 : Hid (I64 (s1 + s2)) := Lib.hid hz1
   clear hz1
   by_cases hz2 : -9223372036854775808 ≤ t1 + t2 ∧ t1 + t2 ≤ 9223372036854775807
   case neg =>
    as_aux_lemma =>
    rw [fits_no hz2, roomZ_no hz2]
    clear hz2

    have hk3 : Blk w4 (S + 1 + 1) 47 #[.int .u64 0, .int .i64 0, .slice none 0 0, .slice none 0 0] := HK3.out.below HB4.out HLT.out.2.2
    have z0 := hk3.c 0
    have z1 := hk3.c 1
    have z2 := hk3.c 2
    have z3 := hk3.c 3
    have zf : ∀ o, w4.frozen? ⟨S + 1 + 1, o, none⟩ = false := fun o => hk3.frozen o
    have HKR := Lib.hid hk3
    clear hk3
    go_wp2_with fail
    refine bodyPost_ret ?_ ?_ (RCJoin.err (er := 10) (by decide) ?_)
    rotate_left 2
    ·rw [HSS.out]
     exact below_set4 (HBW.out.trans (HB4.out.mono (Nat.le_of_lt HLT.out.1))) (by omega) _ _ _ _
    ·exact join_results rfl rfl (HKR.out.store4 _ _ _ _)
    ·rfl

   rw [fits_yes hz2, roomZ_yes hz2]
   have HZ2 : Hid (I64 (t1 + t2)) := Lib.hid hz2
   clear hz2
   obtain ⟨s3, hs3⟩ : ∃ s3, s1 + s2 = s3 := ⟨_, rfl⟩
   have HS3 : Hid (s3 = s1 + s2) := Lib.hid hs3.symm
   rw [hs3] at HZ1 ⊢
   clear hs3
   generalize t1 + t2 = t3 at *
   go_upto_region 15 with fail
   go_cut [16] (fun sB wx => ∃ (t : Nat) (nB : Bool) (pB : Option Addr) (lB cB : Nat), sB = .pointer (some ⟨t, 0, none⟩) ∧ Blk wx t 83 #[.bool nB, .slice pB lB cB] ∧ NumC wx nB pB lB cB (V 4294967296 l1 + V 4294967296 l2) ∧ Below w4.heap.size w4 wx)
   case first =>

    refine wp_regionN (fun w' => Below w4.heap.size w4 w') [] (by kernel_rfl) (by exact (Below.refl _ _).drew) (fun hHeld => ?_)
    generalize w4.drew = v0 at *
    refine wpAnyN_u 0 ⟨some 105, _, _, _, _, _⟩ _ rfl ?_
    try simp only [Act.put, putA, putB, putC]
    refine wpAnyN_t 1 ⟨some 106, _, _, _, _, _⟩ ?_ rfl ?_ ?_
    rotate_left 1
    ·(intro w hSw; have d2 := (HX4.out.below hSw HX4.out.lt).c 2; have d3 := (HY4.out.below hSw HY4.out.lt).c 2; go_simp; try with_reducible rfl)
    try simp only [Act.put, putA, putB, putC]
    refine wpAnyN_u 3 ⟨some 108, _, _, _, _, _⟩ _ rfl ?_
    try simp only [Act.put, putA, putB, putC]
    refine wpAnyN_t 4 ⟨some 109, _, _, _, _, _⟩ ?_ rfl ?_ ?_
    rotate_left 1
    ·(intro w hSw; have d2 := (HX4.out.below hSw HX4.out.lt).c 2; have d3 := (HY4.out.below hSw HY4.out.lt).c 2; go_simp; try with_reducible rfl)
    try simp only [Act.put, putA, putB, putC]
    have HB_0 := Lib.hid hHeld
    refine wpAnyN_pair (i := 2) (j := 7) (o := ⟨some 107, _, _, _, _, _⟩) (p := ⟨some 16, _, _, _, _, _⟩) (by kernel_rfl) rfl rfl (fun K hK => ?_) (fun K hK => ?_)
    ·go_simp
     refine (rnum_any a1 n1 c1 l1 _ (HR14.out.below HB_0.out (Nat.le_refl _)) HD1.out (by have := HW1.out; omega)).mono ?_
     rintro e v1 ⟨e1, p1, g1, h1, rfl, hN, hbn, -⟩
     have HN1_1 := Lib.hid hN
     clear hN
     have HB_1 := Lib.hid (HB_0.out.trans (hbn.mono HB_0.out.size))
     clear hbn
     refine hK.out _ _ (by exact HB_1.out) ?_
     clear hK K hHeld
     intro hHeld
     try simp only [Act.put, putA, putB, putC]
     refine wpAnyN_pair (i := 5) (j := 7) (o := ⟨some 110, _, _, _, _, _⟩) (p := ⟨some 16, _, _, _, _, _⟩) (by kernel_rfl) rfl rfl (fun K hK => ?_) (fun K hK => ?_)
     ·go_simp
      refine (rnum_any a2 n2 c2 l2 _ (HR24.out.below HB_1.out (Nat.le_refl _)) HD2.out (by have := HW2.out; omega)).mono ?_
      rintro e v2 ⟨e2, p2, g2, h2, rfl, hN, hbn, -⟩
      have HN2_2 := Lib.hid hN
      clear hN
      have HB_2 := Lib.hid (HB_1.out.trans (hbn.mono HB_1.out.size))
      have HN1_2 := Lib.hid (HN1_1.out.below hbn (Nat.le_refl _))
      clear hbn
      clear HN1_1
      refine hK.out _ _ (by exact HB_2.out) ?_
      clear hK K hHeld
      intro hHeld
      try simp only [Act.put, putA, putB, putC]
      refine wpAnyN_pair (i := 6) (j := 7) (o := ⟨some 111, _, _, _, _, _⟩) (p := ⟨some 16, _, _, _, _, _⟩) (by kernel_rfl) rfl rfl (fun K hK => ?_) (fun K hK => ?_)
      ·go_simp
       refine (add_any e1 e2 p1 p2 g1 h1 g2 h2 _ _ _ HN1_2.out HN2_2.out HFT.out.1 HFT.out.2.1).mono ?_
       rintro e v3 ⟨e3, p3, g3, h3, rfl, hN, hbn, -⟩
       have HN3_3 := Lib.hid hN
       clear hN
       have HB_3 := Lib.hid (HB_2.out.trans (hbn.mono HB_2.out.size))
       have HN1_3 := Lib.hid (HN1_2.out.below hbn (Nat.le_refl _))
       have HN2_3 := Lib.hid (HN2_2.out.below hbn (Nat.le_refl _))
       clear hbn
       clear HN1_2 HN2_2
       refine hK.out _ _ (by exact HB_3.out) ?_
       clear hK K hHeld
       intro hHeld
       try simp only [Act.put, putA, putB, putC]
       refine wpAnyN_one (i := 7) (o := ⟨some 16, _, _, _, _, _⟩) (by kernel_rfl) rfl (fun K hK => ?_)
       go_simp
       have hbn := (Below.refl v3.heap.size v3).alloc (Nat.le_refl _) (.cells #[.bool false, .slice none 0 0] 83)
       have HBk := Lib.hid (Blk.new v3 83 #[.bool false, .slice none 0 0])
       obtain ⟨T, hT⟩ : ∃ T, v3.heap.size = T := ⟨_, rfl⟩
       have HTG : Hid (w4.heap.size ≤ T) := Lib.hid (by have := HB_3.out.size; omega)
       have HT_4 : Hid (Blk (v3.alloc (.cells #[.bool false, .slice none 0 0] 83)) T 83 #[.bool false, .slice none 0 0]) := Lib.hid (by rw [← hT]; exact HBk.out)
       rw [hT]
       clear HBk
       generalize (v3.alloc (.cells #[.bool false, .slice none 0 0] 83)) = v4 at *
       clear hT
       have HB_4 := Lib.hid (HB_3.out.trans (hbn.mono HB_3.out.size))
       have HN1_4 := Lib.hid (HN1_3.out.below hbn (Nat.le_refl _))
       have HN2_4 := Lib.hid (HN2_3.out.below hbn (Nat.le_refl _))
       have HN3_4 := Lib.hid (HN3_3.out.below hbn (Nat.le_refl _))
       clear hbn
       clear HN1_3 HN2_3 HN3_3
       refine hK.out _ _ (by exact HB_4.out) ?_
       clear hK K hHeld
       intro hHeld
       try simp only [Act.put, putA, putB, putC]
       have z0 := HT_4.out.c 0
       have z1 := HT_4.out.c 1
       have zf : ∀ o, v4.frozen? ⟨T, o, none⟩ = false := fun o => HT_4.out.frozen o
       refine wpAnyN_one (i := 8) (o := ⟨none, _, _, _, _, _⟩) (by kernel_rfl) rfl (fun K hK => ?_)
       go_simp
       have HNF := Lib.hid (NumC.set2 HN3_4.out z0 z1 e3 p3 g3 h3)
       have HBF := Lib.hid (below_at (below_at HB_4.out (p := ⟨T, 0, none⟩) HTG.out (.bool e3)) (p := ⟨T, 1, none⟩) HTG.out (.slice p3 g3 h3))
       have HTF : Hid (Blk ((v4.setCell ⟨T, 0, none⟩ (.bool e3)).setCell ⟨T, 1, none⟩ (.slice p3 g3 h3)) T 83 #[.bool e3, .slice p3 g3 h3]) := Lib.hid (((HT_4.out.set_ 0 _).set_ 1 _).to rfl)
       refine hK.out _ _ (by exact HBF.out) ?_
       clear hK K hHeld z0 z1 zf
       intro hHeld
       try simp only [Act.put, putA, putB, putC]
       refine wpAnyN_end (by kernel_rfl) ?_
       try go_wp2_with fail
       go_meet
       exact ⟨T, e3, p3, g3, h3, rfl, HTF.out, HNF.out, HBF.out⟩
      ·go_simp
       have hbn := (Below.refl v2.heap.size v2).alloc (Nat.le_refl _) (.cells #[.bool false, .slice none 0 0] 83)
       have HBk := Lib.hid (Blk.new v2 83 #[.bool false, .slice none 0 0])
       obtain ⟨T, hT⟩ : ∃ T, v2.heap.size = T := ⟨_, rfl⟩
       have HTG : Hid (w4.heap.size ≤ T) := Lib.hid (by have := HB_2.out.size; omega)
       have HT_3 : Hid (Blk (v2.alloc (.cells #[.bool false, .slice none 0 0] 83)) T 83 #[.bool false, .slice none 0 0]) := Lib.hid (by rw [← hT]; exact HBk.out)
       rw [hT]
       clear HBk
       generalize (v2.alloc (.cells #[.bool false, .slice none 0 0] 83)) = v3 at *
       clear hT
       have HB_3 := Lib.hid (HB_2.out.trans (hbn.mono HB_2.out.size))
       have HN1_3 := Lib.hid (HN1_2.out.below hbn (Nat.le_refl _))
       have HN2_3 := Lib.hid (HN2_2.out.below hbn (Nat.le_refl _))
       clear hbn
       clear HN1_2 HN2_2
       refine hK.out _ _ (by exact HB_3.out) ?_
       clear hK K hHeld
       intro hHeld
       try simp only [Act.put, putA, putB, putC]
       refine wpAnyN_one (i := 6) (o := ⟨some 111, _, _, _, _, _⟩) (by kernel_rfl) rfl (fun K hK => ?_)
       go_simp
       refine (add_any e1 e2 p1 p2 g1 h1 g2 h2 _ _ _ HN1_3.out HN2_3.out HFT.out.1 HFT.out.2.1).mono ?_
       rintro e v4 ⟨e3, p3, g3, h3, rfl, hN, hbn, -⟩
       have HN3_4 := Lib.hid hN
       clear hN
       have HB_4 := Lib.hid (HB_3.out.trans (hbn.mono HB_3.out.size))
       have HN1_4 := Lib.hid (HN1_3.out.below hbn (Nat.le_refl _))
       have HN2_4 := Lib.hid (HN2_3.out.below hbn (Nat.le_refl _))
       have HT_4 := Lib.hid (HT_3.out.below hbn HT_3.out.lt)
       clear hbn
       clear HN1_3 HN2_3 HT_3
       refine hK.out _ _ (by exact HB_4.out) ?_
       clear hK K hHeld
       intro hHeld
       try simp only [Act.put, putA, putB, putC]
       have z0 := HT_4.out.c 0
       have z1 := HT_4.out.c 1
       have zf : ∀ o, v4.frozen? ⟨T, o, none⟩ = false := fun o => HT_4.out.frozen o
       refine wpAnyN_one (i := 8) (o := ⟨none, _, _, _, _, _⟩) (by kernel_rfl) rfl (fun K hK => ?_)
       go_simp
       have HNF := Lib.hid (NumC.set2 HN3_4.out z0 z1 e3 p3 g3 h3)
       have HBF := Lib.hid (below_at (below_at HB_4.out (p := ⟨T, 0, none⟩) HTG.out (.bool e3)) (p := ⟨T, 1, none⟩) HTG.out (.slice p3 g3 h3))
       have HTF : Hid (Blk ((v4.setCell ⟨T, 0, none⟩ (.bool e3)).setCell ⟨T, 1, none⟩ (.slice p3 g3 h3)) T 83 #[.bool e3, .slice p3 g3 h3]) := Lib.hid (((HT_4.out.set_ 0 _).set_ 1 _).to rfl)
       refine hK.out _ _ (by exact HBF.out) ?_
       clear hK K hHeld z0 z1 zf
       intro hHeld
       try simp only [Act.put, putA, putB, putC]
       refine wpAnyN_end (by kernel_rfl) ?_
       try go_wp2_with fail
       go_meet
       exact ⟨T, e3, p3, g3, h3, rfl, HTF.out, HNF.out, HBF.out⟩
     ·go_simp
      have hbn := (Below.refl v1.heap.size v1).alloc (Nat.le_refl _) (.cells #[.bool false, .slice none 0 0] 83)
      have HBk := Lib.hid (Blk.new v1 83 #[.bool false, .slice none 0 0])
      obtain ⟨T, hT⟩ : ∃ T, v1.heap.size = T := ⟨_, rfl⟩
      have HTG : Hid (w4.heap.size ≤ T) := Lib.hid (by have := HB_1.out.size; omega)
      have HT_2 : Hid (Blk (v1.alloc (.cells #[.bool false, .slice none 0 0] 83)) T 83 #[.bool false, .slice none 0 0]) := Lib.hid (by rw [← hT]; exact HBk.out)
      rw [hT]
      clear HBk
      generalize (v1.alloc (.cells #[.bool false, .slice none 0 0] 83)) = v2 at *
      clear hT
      have HB_2 := Lib.hid (HB_1.out.trans (hbn.mono HB_1.out.size))
      have HN1_2 := Lib.hid (HN1_1.out.below hbn (Nat.le_refl _))
      clear hbn
      clear HN1_1
      refine hK.out _ _ (by exact HB_2.out) ?_
      clear hK K hHeld
      intro hHeld
      try simp only [Act.put, putA, putB, putC]
      refine wpAnyN_one (i := 5) (o := ⟨some 110, _, _, _, _, _⟩) (by kernel_rfl) rfl (fun K hK => ?_)
      go_simp
      refine (rnum_any a2 n2 c2 l2 _ (HR24.out.below HB_2.out (Nat.le_refl _)) HD2.out (by have := HW2.out; omega)).mono ?_
      rintro e v3 ⟨e2, p2, g2, h2, rfl, hN, hbn, -⟩
      have HN2_3 := Lib.hid hN
      clear hN
      have HB_3 := Lib.hid (HB_2.out.trans (hbn.mono HB_2.out.size))
      have HN1_3 := Lib.hid (HN1_2.out.below hbn (Nat.le_refl _))
      have HT_3 := Lib.hid (HT_2.out.below hbn HT_2.out.lt)
      clear hbn
      clear HN1_2 HT_2
      refine hK.out _ _ (by exact HB_3.out) ?_
      clear hK K hHeld
      intro hHeld
      try simp only [Act.put, putA, putB, putC]
      refine wpAnyN_one (i := 6) (o := ⟨some 111, _, _, _, _, _⟩) (by kernel_rfl) rfl (fun K hK => ?_)
      go_simp
      refine (add_any e1 e2 p1 p2 g1 h1 g2 h2 _ _ _ HN1_3.out HN2_3.out HFT.out.1 HFT.out.2.1).mono ?_
      rintro e v4 ⟨e3, p3, g3, h3, rfl, hN, hbn, -⟩
      have HN3_4 := Lib.hid hN
      clear hN
      have HB_4 := Lib.hid (HB_3.out.trans (hbn.mono HB_3.out.size))
      have HN1_4 := Lib.hid (HN1_3.out.below hbn (Nat.le_refl _))
      have HT_4 := Lib.hid (HT_3.out.below hbn HT_3.out.lt)
      have HN2_4 := Lib.hid (HN2_3.out.below hbn (Nat.le_refl _))
      clear hbn
      clear HN1_3 HT_3 HN2_3
      refine hK.out _ _ (by exact HB_4.out) ?_
      clear hK K hHeld
      intro hHeld
      try simp only [Act.put, putA, putB, putC]
      have z0 := HT_4.out.c 0
      have z1 := HT_4.out.c 1
      have zf : ∀ o, v4.frozen? ⟨T, o, none⟩ = false := fun o => HT_4.out.frozen o
      refine wpAnyN_one (i := 8) (o := ⟨none, _, _, _, _, _⟩) (by kernel_rfl) rfl (fun K hK => ?_)
      go_simp
      have HNF := Lib.hid (NumC.set2 HN3_4.out z0 z1 e3 p3 g3 h3)
      have HBF := Lib.hid (below_at (below_at HB_4.out (p := ⟨T, 0, none⟩) HTG.out (.bool e3)) (p := ⟨T, 1, none⟩) HTG.out (.slice p3 g3 h3))
      have HTF : Hid (Blk ((v4.setCell ⟨T, 0, none⟩ (.bool e3)).setCell ⟨T, 1, none⟩ (.slice p3 g3 h3)) T 83 #[.bool e3, .slice p3 g3 h3]) := Lib.hid (((HT_4.out.set_ 0 _).set_ 1 _).to rfl)
      refine hK.out _ _ (by exact HBF.out) ?_
      clear hK K hHeld z0 z1 zf
      intro hHeld
      try simp only [Act.put, putA, putB, putC]
      refine wpAnyN_end (by kernel_rfl) ?_
      try go_wp2_with fail
      go_meet
      exact ⟨T, e3, p3, g3, h3, rfl, HTF.out, HNF.out, HBF.out⟩
    ·go_simp
     have hbn := (Below.refl v0.heap.size v0).alloc (Nat.le_refl _) (.cells #[.bool false, .slice none 0 0] 83)
     have HBk := Lib.hid (Blk.new v0 83 #[.bool false, .slice none 0 0])
     obtain ⟨T, hT⟩ : ∃ T, v0.heap.size = T := ⟨_, rfl⟩
     have HTG : Hid (w4.heap.size ≤ T) := Lib.hid (by have := HB_0.out.size; omega)
     have HT_1 : Hid (Blk (v0.alloc (.cells #[.bool false, .slice none 0 0] 83)) T 83 #[.bool false, .slice none 0 0]) := Lib.hid (by rw [← hT]; exact HBk.out)
     rw [hT]
     clear HBk
     generalize (v0.alloc (.cells #[.bool false, .slice none 0 0] 83)) = v1 at *
     clear hT
     have HB_1 := Lib.hid (HB_0.out.trans (hbn.mono HB_0.out.size))
     clear hbn
     refine hK.out _ _ (by exact HB_1.out) ?_
     clear hK K hHeld
     intro hHeld
     try simp only [Act.put, putA, putB, putC]
     refine wpAnyN_one (i := 2) (o := ⟨some 107, _, _, _, _, _⟩) (by kernel_rfl) rfl (fun K hK => ?_)
     go_simp
     refine (rnum_any a1 n1 c1 l1 _ (HR14.out.below HB_1.out (Nat.le_refl _)) HD1.out (by have := HW1.out; omega)).mono ?_
     rintro e v2 ⟨e1, p1, g1, h1, rfl, hN, hbn, -⟩
     have HN1_2 := Lib.hid hN
     clear hN
     have HB_2 := Lib.hid (HB_1.out.trans (hbn.mono HB_1.out.size))
     have HT_2 := Lib.hid (HT_1.out.below hbn HT_1.out.lt)
     clear hbn
     clear HT_1
     refine hK.out _ _ (by exact HB_2.out) ?_
     clear hK K hHeld
     intro hHeld
     try simp only [Act.put, putA, putB, putC]
     refine wpAnyN_one (i := 5) (o := ⟨some 110, _, _, _, _, _⟩) (by kernel_rfl) rfl (fun K hK => ?_)
     go_simp
     refine (rnum_any a2 n2 c2 l2 _ (HR24.out.below HB_2.out (Nat.le_refl _)) HD2.out (by have := HW2.out; omega)).mono ?_
     rintro e v3 ⟨e2, p2, g2, h2, rfl, hN, hbn, -⟩
     have HN2_3 := Lib.hid hN
     clear hN
     have HB_3 := Lib.hid (HB_2.out.trans (hbn.mono HB_2.out.size))
     have HT_3 := Lib.hid (HT_2.out.below hbn HT_2.out.lt)
     have HN1_3 := Lib.hid (HN1_2.out.below hbn (Nat.le_refl _))
     clear hbn
     clear HT_2 HN1_2
     refine hK.out _ _ (by exact HB_3.out) ?_
     clear hK K hHeld
     intro hHeld
     try simp only [Act.put, putA, putB, putC]
     refine wpAnyN_one (i := 6) (o := ⟨some 111, _, _, _, _, _⟩) (by kernel_rfl) rfl (fun K hK => ?_)
     go_simp
     refine (add_any e1 e2 p1 p2 g1 h1 g2 h2 _ _ _ HN1_3.out HN2_3.out HFT.out.1 HFT.out.2.1).mono ?_
     rintro e v4 ⟨e3, p3, g3, h3, rfl, hN, hbn, -⟩
     have HN3_4 := Lib.hid hN
     clear hN
     have HB_4 := Lib.hid (HB_3.out.trans (hbn.mono HB_3.out.size))
     have HT_4 := Lib.hid (HT_3.out.below hbn HT_3.out.lt)
     have HN1_4 := Lib.hid (HN1_3.out.below hbn (Nat.le_refl _))
     have HN2_4 := Lib.hid (HN2_3.out.below hbn (Nat.le_refl _))
     clear hbn
     clear HT_3 HN1_3 HN2_3
     refine hK.out _ _ (by exact HB_4.out) ?_
     clear hK K hHeld
     intro hHeld
     try simp only [Act.put, putA, putB, putC]
     have z0 := HT_4.out.c 0
     have z1 := HT_4.out.c 1
     have zf : ∀ o, v4.frozen? ⟨T, o, none⟩ = false := fun o => HT_4.out.frozen o
     refine wpAnyN_one (i := 8) (o := ⟨none, _, _, _, _, _⟩) (by kernel_rfl) rfl (fun K hK => ?_)
     go_simp
     have HNF := Lib.hid (NumC.set2 HN3_4.out z0 z1 e3 p3 g3 h3)
     have HBF := Lib.hid (below_at (below_at HB_4.out (p := ⟨T, 0, none⟩) HTG.out (.bool e3)) (p := ⟨T, 1, none⟩) HTG.out (.slice p3 g3 h3))
     have HTF : Hid (Blk ((v4.setCell ⟨T, 0, none⟩ (.bool e3)).setCell ⟨T, 1, none⟩ (.slice p3 g3 h3)) T 83 #[.bool e3, .slice p3 g3 h3]) := Lib.hid (((HT_4.out.set_ 0 _).set_ 1 _).to rfl)
     refine hK.out _ _ (by exact HBF.out) ?_
     clear hK K hHeld z0 z1 zf
     intro hHeld
     try simp only [Act.put, putA, putB, putC]
     refine wpAnyN_end (by kernel_rfl) ?_
     try go_wp2_with fail
     go_meet
     exact ⟨T, e3, p3, g3, h3, rfl, HTF.out, HNF.out, HBF.out⟩

   case rest =>
    obtain ⟨T, nB, pB, lB, cB, rfl, hT, hNB, hbx⟩ := hcut
    generalize wc = w5 at *
    have HT5 := Lib.hid hT
    have HN5 := Lib.hid hNB
    have HX5 := Lib.hid (HX4.out.below hbx HX4.out.lt)
    have HY5 := Lib.hid (HY4.out.below hbx HY4.out.lt)
    have HB5 := Lib.hid (HB4.out.trans (hbx.mono (hNv _ HB4.out)))
    have HCU5 := Lib.hid (HCU4.out.below hbx (Nat.le_refl _))
    clear hT hNB hbx HX4 HY4 HB4 HCU4 HR14 HR24
    go_upto_region 16 with fail
    refine wp_regionN (fun w' => Below w5.heap.size w5 w') [18, 19, 20] (by kernel_rfl) (by exact (Below.refl _ _).drew) (fun hHeld => ?_)
    generalize w5.drew = v0 at *
    have HB_0 := Lib.hid hHeld

    refine wpAnyN_u 0 ⟨some 112, _, _, _, _, _⟩ _ rfl ?_
    try simp only [Act.put, putA, putB, putC]
    refine wpAnyN_t 1 ⟨some 113, _, _, _, _, _⟩ ?_ rfl ?_ ?_
    rotate_left 1
    ·(intro w hSw; have d0 := (HCU5.out.blk.below hSw HCU5.out.blk.lt).c 2; go_simp; try with_reducible rfl)
    try simp only [Act.put, putA, putB, putC]
    refine wpAnyN_u 2 ⟨some 114, _, _, _, _, _⟩ _ rfl ?_
    try simp only [Act.put, putA, putB, putC]
    refine wpAnyN_u 3 ⟨some 115, _, _, _, _, _⟩ _ rfl ?_
    try simp only [Act.put, putA, putB, putC]
    refine wpAnyN_t 4 ⟨some 116, _, _, _, _, _⟩ ?_ rfl ?_ ?_
    rotate_left 1
    ·(intro w hSw; have d0 := (HT5.out.below hSw HT5.out.lt).c 0; have d1 := (HT5.out.below hSw HT5.out.lt).c 1; go_simp; try with_reducible rfl)
    try simp only [Act.put, putA, putB, putC]
    refine wpAnyN_u 6 ⟨some 118, _, _, _, _, _⟩ _ rfl ?_
    try simp only [Act.put, putA, putB, putC]
    refine wpAnyN_t 7 ⟨some 119, _, _, _, _, _⟩ ?_ rfl ?_ ?_
    rotate_left 1
    ·(intro w hSw; have d0 := (HX5.out.below hSw HX5.out.lt).c 3; go_simp; try with_reducible rfl)
    try simp only [Act.put, putA, putB, putC]
    refine wpAnyN_u 8 ⟨some 120, _, _, _, _, _⟩ _ rfl ?_
    try simp only [Act.put, putA, putB, putC]
    refine wpAnyN_t 9 ⟨some 121, _, _, _, _, _⟩ ?_ rfl ?_ ?_
    rotate_left 1
    ·(intro w hSw; have d0 := (HY5.out.below hSw HY5.out.lt).c 3; go_simp; try with_reducible rfl)
    try simp only [Act.put, putA, putB, putC]
    refine wpAnyN_u 10 ⟨some 122, _, _, _, _, _⟩ _ rfl ?_
    try simp only [Act.put, putA, putB, putC]
    refine wpAnyN_u 11 ⟨some 123, _, _, _, _, _⟩ _ rfl ?_
    try simp only [Act.put, putA, putB, putC]
    refine wpAnyN_t 12 ⟨some 124, _, _, _, _, _⟩ ?_ rfl ?_ ?_
    rotate_left 1
    ·(intro w hSw; have d0 := (HX5.out.below hSw HX5.out.lt).c 4; go_simp; try with_reducible rfl)
    try simp only [Act.put, putA, putB, putC]
    refine wpAnyN_u 13 ⟨some 125, _, _, _, _, _⟩ _ rfl ?_
    try simp only [Act.put, putA, putB, putC]
    refine wpAnyN_t 14 ⟨some 126, _, _, _, _, _⟩ ?_ rfl ?_ ?_
    rotate_left 1
    ·(intro w hSw; have d0 := (HY5.out.below hSw HY5.out.lt).c 4; go_simp; try with_reducible rfl)
    try simp only [Act.put, putA, putB, putC]
    refine wpAnyN_u 15 ⟨some 127, _, _, _, _, _⟩ _ rfl ?_
    try simp only [Act.put, putA, putB, putC]
    refine wpAnyN_one (i := 5) (o := ⟨some 117, _, _, _, _, _⟩) (by kernel_rfl) rfl (fun K hK => ?_)
    go_simp
    refine (rof_any nB pB lB cB (V 4294967296 l1 + V 4294967296 l2) _ (HN5.out.below HB_0.out (Nat.le_refl _)) HFT.out.2.2.1 (room_short (HN5.out) (Nat.lt_of_lt_of_le HFT.out.2.2.2 room_136))).mono ?_
    rintro e v3 ⟨a3, l3, c3, rfl, ⟨sq, hr3, hd3, ht3, hv3⟩, hb3, hf3⟩
    have HQ3 := Lib.hid (And.intro hr3 (And.intro hd3 (And.intro ht3 hv3)))
    have HCUa := Lib.hid (HCU5.out.below HB_0.out (Nat.le_refl _))
    have HF3 : Hid (Off vi a3 c3 ∧ Off (.slice none 0 0) a3 c3) := Lib.hid ⟨Off.fresh HCUa.out.oi hf3 (Nat.le_refl _), Off.nil⟩
    have HCU6 := Lib.hid (HCUa.out.below hb3 (Nat.le_refl _))
    have HB_1 := Lib.hid (HB_0.out.trans (hb3.mono HB_0.out.size))
    clear hr3 hd3 ht3 hv3 hb3 hf3 HCUa
    refine hK.out _ _ (by exact HB_1.out) ?_
    clear hK K hHeld
    intro hHeld
    try simp only [Act.put, putA, putB, putC]
    refine wpAnyN_u 16 ⟨some 128, _, _, _, _, _⟩ _ rfl ?_
    try simp only [Act.put, putA, putB, putC]
    refine wpAnyN_one (i := 17) (o := ⟨some 129, _, _, _, _, _⟩) (by kernel_rfl) rfl (fun K hK => ?_)
    go_simp
    have HB_2 := Lib.hid (HB_1.out.alloc HB_1.out.size (.cells #[.int .i64 s3, .int .i64 t3, .slice a3 l3 c3, .int .i64 (min m1 m2), .int .i64 (max M1 M2)] 58))
    refine hK.out _ _ (by exact HB_2.out) ?_
    clear hK K hHeld
    intro hHeld
    try simp only [Act.put, putA, putB, putC]
    refine wpAnyN_late (i := 18) (o := ⟨some 130, _, _, _, _, _⟩) (by kernel_rfl) (by kernel_rfl) rfl (fun K hK => ?_)
    refine step_append_off info_whl rfl (by decide) Tryz.underlying44 rfl _ _ (by rfl) v3 58 #[.int .i64 s3, .int .i64 t3, .slice a3 l3 c3, .int .i64 (min m1 m2), .int .i64 (max M1 M2)] (C + 1) vi zs.length (whlCells zs) v3.heap.size rfl rfl (by rfl) (by rfl) HCU6.out.oi (by intro u hu; simp at hu; rcases hu with rfl | rfl | rfl | rfl | rfl <;> rfl) (by have := HXL.out; omega) (by have := HXL.out; unfold maxLen; omega) HCU6.out.blk.lt ?_
    intro va v4 h2 h3 h4 h5
    obtain ⟨ra, rc, rfl⟩ := own_form h2
    obtain ⟨g4, h5, h6⟩ := h5
    have HAP := Lib.hid (And.intro h2 (And.intro h3 (And.intro h5 h6)))
    have HB6 := Lib.hid (HB5.out.trans (HB_1.out.mono (hNv _ HB5.out)))
    have HB7 := Lib.hid (below_own HB6.out h3 (hNv _ HB6.out) HCU6.out.oi HCN.out)
    have hk4 := HCU6.out.blk_w h3
    have zc : v4.cell? ⟨C, 2, none⟩ = some vi := hk4.cell 2
    have zf : ∀ o, v4.frozen? ⟨C, o, none⟩ = false := fun o => hk4.frozen o
    clear h2 h3 h4 h5 h6 hk4
    refine hK.out _ _ ?_
    clear hK K
    try simp only [Act.put, putA, putB, putC]
    refine wpAnyN_free (i := 19) (oi := ⟨some 131, _, _, _, _, _⟩) (v := ?_) rfl (by kernel_rfl) (by kernel_rfl) (by kernel_rfl) (by kernel_rfl) (by kernel_rfl) (fun _ _ _ h => h) (Or.inl ⟨by rfl, ?_⟩) ?_
    rotate_left 1
    ·(intro w hSw; clear hSw; go_simp; try with_reducible rfl)
    try simp only [Act.put, putA, putB, putC]
    refine wpAnyN_late (i := 20) (o := ⟨none, _, _, _, _, _⟩) (by kernel_rfl) (by kernel_rfl) rfl (fun K hK => ?_)
    go_simp
    refine hK.out _ _ ?_
    clear hK K
    try simp only [Act.put, putA, putB, putC]
    refine wpAnyN_end (by kernel_rfl) ?_

    have HCU8 := Lib.hid (HCU6.out.pushW ⟨s3, t3, sq, a3, l3, c3, min m1 m2, max M1 M2⟩ ⟨HQ3.out.1, HQ3.out.2.1, HZ1.out, HZ2.out, min_in HI1.out.2.2.1 HI2.out.2.2.1, max_in HI1.out.2.2.2 HI2.out.2.2.2⟩ HF3.out HAP.out.1 HAP.out.2.1 HAP.out.2.2.1 HAP.out.2.2.2)
    have HW8 : Hid (∀ y ∈ zs ++ [(⟨s3, t3, sq, a3, l3, c3, min m1 m2, max M1 M2⟩ : Whl)], WInv (kx + ky) y) := Lib.hid (fun y hy => by
     rcases List.mem_append.1 hy with hy | hy
     ·exact HWI.out y hy
     ·rw [List.mem_singleton.1 hy]; exact WInv.join (by have := HKK.out; omega) (by have := HKK.out; omega) HPX.out.2 HPY.out.2 HS3.out rfl rfl HQ3.out.2.2.1 HQ3.out.2.2.2)
    have HB8 := Lib.hid (below_at HB7.out (p := ⟨C, 2, none⟩) HNC.out (.slice ra (zs.length + 1) rc))
    generalize v4.setCell ⟨C, 2, none⟩ (.slice ra (zs.length + 1) rc) = v5 at *
    clear zc zf
    go_wp2_with fail
    go_roundg (mi - jj - 1)
    case measure => have := HQQ.out; omega
    case rel => exact ⟨jj + 1, _, _, by go_num, by have := HQQ.out; omega, by rw [List.length_append, HZJ.out]; rfl, HCU8.out, HW8.out, HB8.out⟩

 case neg =>
 obtain rfl : mi = jj := by have := HQQ.out; omega
 clear hlt
 have HZI := Lib.hid HZJ.out
 have HCU9 := Lib.hid HCU0.out
 have HB9 := Lib.hid HB.out
 have hmn := HMX.out.2
 clear HB HCU0
 have HB := Lib.hid HB9.out
 go_wp2_with fail
 go_loopg [17] mn (fun gg iu wr => ∃ (jj : Nat) (vn : Value) (ts : List Rel), iu = .int .i64 jj ∧ jj + gg = mn ∧ ts.length = jj ∧ CU wr C 0 (kx + ky) vi vn zs ts ∧ (∀ z ∈ ts, RInv (kx + ky) z) ∧ Below N w0 wr)
 case atStart => exact ⟨0, _, [], rfl, by omega, rfl, HCU9.out, fun x hx => (by cases hx), HB9.out⟩
 case round =>
 clear HB HQQ HCU9 HB9
 obtain ⟨jj, vn, ts, rfl, hqq, hzl, hcu, hri, hb⟩ := hrel
 have HQQ := Lib.hid hqq
 have HTJ := Lib.hid hzl
 have HCU0 := Lib.hid hcu
 have HRI := Lib.hid hri
 have HB := Lib.hid hb
 have x3 := (HK1.out.below hb HLT.out.1).c 3
 have y3 := (HK2.out.below hb HLT.out.2.1).c 3
 clear hqq hzl hcu hri hb
 by_cases hlt : jj < mn
 case pos =>
  have HXL : Hid (ts.length ≤ 20) := Lib.hid (by rw [HTJ.out]; have := HMM.out.2; omega)
  have HA2 := Lib.hid (HA.out.below HB.out (Nat.le_of_eq HN.out))
  have HB2 := Lib.hid (HBB.out.below HB.out (Nat.le_of_eq HN.out))
  obtain ⟨ab, ao, ae, abl, ac⟩ := HA2.out.2.2.1.at (show 0 < mn by omega)
  obtain ⟨bb, bo, be, bbl, bc⟩ := HB2.out.2.2.1.at (show 0 < mn by omega)
  dsimp only at ae be ac bc
  subst ae be
  obtain ⟨g0, g1, g2⟩ := relCells_get (ds := us) (i := jj) (by rw [HLX.out.2.1]; exact hlt)
  obtain ⟨f0, f1, f2⟩ := relCells_get (ds := vs) (i := jj) (by rw [HLX.out.2.2.2]; exact hlt)
  have hmx := relAt_mem (ds := us) (i := jj) (by rw [HLX.out.2.1]; exact hlt)
  have hmy := relAt_mem (ds := vs) (i := jj) (by rw [HLX.out.2.2.2]; exact hlt)
  have HPX := Lib.hid (And.intro (HA2.out.2.2.2.2.2.2.2 _ hmx) (HIX.out.2.1 _ hmx))
  have HPY := Lib.hid (And.intro (HB2.out.2.2.2.2.2.2.2 _ hmy) (HIX.out.2.2.2 _ hmy))
  obtain ⟨⟨s1, a1, n1, c1, m1, M1⟩, hx⟩ : ∃ z, relAt us jj = z := ⟨_, rfl⟩
  obtain ⟨⟨s2, a2, n2, c2, m2, M2⟩, hy⟩ : ∃ z, relAt vs jj = z := ⟨_, rfl⟩
  rw [hx] at g0 g1 g2 HPX
  rw [hy] at f0 f1 f2 HPY
  dsimp only at g0 g1 g2 f0 f1 f2
  have ac0 := ac (jj * 3) (by omega)
  have ac1 := ac (jj * 3 + 1) (by omega)
  have ac2 := ac (jj * 3 + 2) (by omega)
  have bc0 := bc (jj * 3) (by omega)
  have bc1 := bc (jj * 3 + 1) (by omega)
  have bc2 := bc (jj * 3 + 2) (by omega)
  rw [g0] at ac0
  rw [g1, ← Nat.add_assoc] at ac1
  rw [g2, ← Nat.add_assoc] at ac2
  rw [f0] at bc0
  rw [f1, ← Nat.add_assoc] at bc1
  rw [f2, ← Nat.add_assoc] at bc2
  clear ac bc g0 g1 g2 f0 f1 f2 hx hy hmx hmy HA2 HB2
  have hxs : S < wr.heap.size ∧ S + 1 < wr.heap.size := by have := hNv _ HB.out; have := HLT.out; omega
  go_wp2_with fail
  go_upto_region 20 with fail
  go_cut [18, 19] (fun u v wx => ∃ X Y, u = .pointer (some ⟨X, 0, none⟩) ∧ v = .pointer (some ⟨Y, 0, none⟩) ∧ Blk wx X 71 #[.slice a1 n1 c1, .float .f64 m1, .float .f64 M1] ∧ Blk wx Y 71 #[.slice a2 n2 c2, .float .f64 m2, .float .f64 M2] ∧ Below wr.heap.size wr wx)
  case first =>
   as_aux_lemma =>

   refine wp_regionN (fun w' => Below wr.heap.size wr w') [] (by kernel_rfl) (by exact (Below.refl _ _).drew) (fun hHeld => ?_)
   generalize wr.drew = v0 at *
   refine wpAnyN_u 0 ⟨some 139, _, _, _, _, _⟩ _ rfl ?_
   try simp only [Act.put, putA, putB, putC]
   refine wpAnyN_t 1 ⟨some 140, _, _, _, _, _⟩ ?_ rfl ?_ ?_
   rotate_left 1
   ·(intro w hSw; have d0 : w.cell? ⟨S, 3, none⟩ = some (.slice (some ⟨ab, ao, none⟩) mn cn) := (by rw [(bcell hSw).1 _ _ hxs.1]; exact x3); go_simp; try with_reducible rfl)
   try simp only [Act.put, putA, putB, putC]
   refine wpAnyN_u 2 ⟨some 141, _, _, _, _, _⟩ _ rfl ?_
   try simp only [Act.put, putA, putB, putC]
   refine wpAnyN_u 3 ⟨some 142, _, _, _, _, _⟩ _ rfl ?_
   try simp only [Act.put, putA, putB, putC]
   refine wpAnyN_t 4 ⟨some 143, _, _, _, _, _⟩ ?_ rfl ?_ ?_
   rotate_left 1
   ·(intro w hSw; have d0 : w.cell? ⟨ab, ao + jj * 3, none⟩ = some (.slice a1 n1 c1) := (by rw [(bcell hSw).1 _ _ abl]; exact ac0); have d1 : w.cell? ⟨ab, ao + jj * 3 + 1, none⟩ = some (.float .f64 m1) := (by rw [(bcell hSw).1 _ _ abl]; exact ac1); have d2 : w.cell? ⟨ab, ao + jj * 3 + 2, none⟩ = some (.float .f64 M1) := (by rw [(bcell hSw).1 _ _ abl]; exact ac2); go_simp; try with_reducible rfl)
   try simp only [Act.put, putA, putB, putC]
   refine wpAnyN_u 5 ⟨some 144, _, _, _, _, _⟩ _ rfl ?_
   try simp only [Act.put, putA, putB, putC]
   refine wpAnyN_t 6 ⟨some 145, _, _, _, _, _⟩ ?_ rfl ?_ ?_
   rotate_left 1
   ·(intro w hSw; have d0 : w.cell? ⟨S + 1, 3, none⟩ = some (.slice (some ⟨bb, bo, none⟩) mn dn) := (by rw [(bcell hSw).1 _ _ hxs.2]; exact y3); go_simp; try with_reducible rfl)
   try simp only [Act.put, putA, putB, putC]
   refine wpAnyN_u 7 ⟨some 146, _, _, _, _, _⟩ _ rfl ?_
   try simp only [Act.put, putA, putB, putC]
   refine wpAnyN_u 8 ⟨some 147, _, _, _, _, _⟩ _ rfl ?_
   try simp only [Act.put, putA, putB, putC]
   refine wpAnyN_t 9 ⟨some 148, _, _, _, _, _⟩ ?_ rfl ?_ ?_
   rotate_left 1
   ·(intro w hSw; have d0 : w.cell? ⟨bb, bo + jj * 3, none⟩ = some (.slice a2 n2 c2) := (by rw [(bcell hSw).1 _ _ bbl]; exact bc0); have d1 : w.cell? ⟨bb, bo + jj * 3 + 1, none⟩ = some (.float .f64 m2) := (by rw [(bcell hSw).1 _ _ bbl]; exact bc1); have d2 : w.cell? ⟨bb, bo + jj * 3 + 2, none⟩ = some (.float .f64 M2) := (by rw [(bcell hSw).1 _ _ bbl]; exact bc2); go_simp; try with_reducible rfl)
   try simp only [Act.put, putA, putB, putC]
   have HB0 := Lib.hid hHeld
   refine wpAnyN_pair (i := 10) (j := 11) (o := ⟨some 18, _, _, _, _, _⟩) (p := ⟨some 19, _, _, _, _, _⟩) (by kernel_rfl) rfl rfl (fun K hK => ?_) (fun K hK => ?_)
   ·go_simp
    have HBk := Lib.hid (Blk.new v0 71 #[.slice none 0 0, .float .f64 0, .float .f64 0])
    have HB1 := Lib.hid (HB0.out.alloc HB0.out.size (.cells #[.slice none 0 0, .float .f64 0, .float .f64 0] 71))
    obtain ⟨X, hX⟩ : ∃ X, v0.heap.size = X := ⟨_, rfl⟩
    have HXS : Hid (wr.heap.size ≤ X) := Lib.hid (by have := HB0.out.size; omega)
    have HXK : Hid (Blk (v0.alloc (.cells #[.slice none 0 0, .float .f64 0, .float .f64 0] 71)) X 71 #[.slice none 0 0, .float .f64 0, .float .f64 0]) := Lib.hid (by rw [← hX]; exact HBk.out)
    rw [hX]
    clear HBk
    generalize (v0.alloc (.cells #[.slice none 0 0, .float .f64 0, .float .f64 0] 71)) = v1 at *
    refine hK.out _ _ (by exact HB1.out) ?_
    clear hK K hHeld
    intro hHeld
    try simp only [Act.put, putA, putB, putC]
    refine wpAnyN_one (i := 11) (o := ⟨some 19, _, _, _, _, _⟩) (by kernel_rfl) rfl (fun K hK => ?_)
    go_simp
    have HBk := Lib.hid (Blk.new v1 71 #[.slice none 0 0, .float .f64 0, .float .f64 0])
    have HB2 := Lib.hid (HB1.out.alloc HB1.out.size (.cells #[.slice none 0 0, .float .f64 0, .float .f64 0] 71))
    have HXK2 := Lib.hid (HXK.out.alloc (.cells #[.slice none 0 0, .float .f64 0, .float .f64 0] 71))
    obtain ⟨Y, hY⟩ : ∃ Y, v1.heap.size = Y := ⟨_, rfl⟩
    have HYS : Hid (wr.heap.size ≤ Y ∧ Y ≠ X) := Lib.hid (by have := HB1.out.size; have := HXK.out.lt; omega)
    have HYK2 : Hid (Blk (v1.alloc (.cells #[.slice none 0 0, .float .f64 0, .float .f64 0] 71)) Y 71 #[.slice none 0 0, .float .f64 0, .float .f64 0]) := Lib.hid (by rw [← hY]; exact HBk.out)
    rw [hY]
    clear HBk
    generalize (v1.alloc (.cells #[.slice none 0 0, .float .f64 0, .float .f64 0] 71)) = v2 at *
    refine hK.out _ _ (by exact HB2.out) ?_
    clear hK K hHeld
    intro hHeld
    try simp only [Act.put, putA, putB, putC]
    have z0 := HXK2.out.c 0
    have z1 := HXK2.out.c 1
    have z2 := HXK2.out.c 2
    have zf : ∀ o, v2.frozen? ⟨X, o, none⟩ = false := fun o => HXK2.out.frozen o
    refine wpAnyN_one (i := 12) (o := ⟨none, _, _, _, _, _⟩) (by kernel_rfl) rfl (fun K hK => ?_)
    go_simp
    clear z0 z1 z2 zf
    have HST := Lib.hid (Blk.store3B HXK2.out HYK2.out (show Y ≠ X from HYS.out.2) (.slice a1 n1 c1) (.float .f64 m1) (.float .f64 M1))
    have HXK3 := Lib.hid HST.out.1
    have HYK3 := Lib.hid HST.out.2.1
    have HB3 := Lib.hid (HST.out.2.2 _ _ HB2.out HXS.out)
    clear HST
    generalize (((v2.setCell ⟨X, 0, none⟩ (.slice a1 n1 c1)).setCell ⟨X, 1, none⟩ (.float .f64 m1)).setCell ⟨X, 2, none⟩ (.float .f64 M1)) = v3 at *
    refine hK.out _ _ (by exact HB3.out) ?_
    clear hK K hHeld
    intro hHeld
    try simp only [Act.put, putA, putB, putC]
    have z0 := HYK3.out.c 0
    have z1 := HYK3.out.c 1
    have z2 := HYK3.out.c 2
    have zf : ∀ o, v3.frozen? ⟨Y, o, none⟩ = false := fun o => HYK3.out.frozen o
    refine wpAnyN_one (i := 13) (o := ⟨none, _, _, _, _, _⟩) (by kernel_rfl) rfl (fun K hK => ?_)
    go_simp
    clear z0 z1 z2 zf
    have HST := Lib.hid (Blk.store3B HYK3.out HXK3.out (show X ≠ Y from (Ne.symm HYS.out.2)) (.slice a2 n2 c2) (.float .f64 m2) (.float .f64 M2))
    have HYK4 := Lib.hid HST.out.1
    have HXK4 := Lib.hid HST.out.2.1
    have HB4 := Lib.hid (HST.out.2.2 _ _ HB3.out HYS.out.1)
    clear HST
    generalize (((v3.setCell ⟨Y, 0, none⟩ (.slice a2 n2 c2)).setCell ⟨Y, 1, none⟩ (.float .f64 m2)).setCell ⟨Y, 2, none⟩ (.float .f64 M2)) = v4 at *
    refine hK.out _ _ (by exact HB4.out) ?_
    clear hK K hHeld
    intro hHeld
    try simp only [Act.put, putA, putB, putC]
    refine wpAnyN_end (by kernel_rfl) ?_
    try go_wp2_with fail
    go_meet
    exact ⟨X, Y, rfl, rfl, HXK4.out, HYK4.out, HB4.out⟩
   ·go_simp
    have HBk := Lib.hid (Blk.new v0 71 #[.slice none 0 0, .float .f64 0, .float .f64 0])
    have HB1 := Lib.hid (HB0.out.alloc HB0.out.size (.cells #[.slice none 0 0, .float .f64 0, .float .f64 0] 71))
    obtain ⟨Y, hY⟩ : ∃ Y, v0.heap.size = Y := ⟨_, rfl⟩
    have HYS : Hid (wr.heap.size ≤ Y) := Lib.hid (by have := HB0.out.size; omega)
    have HYK : Hid (Blk (v0.alloc (.cells #[.slice none 0 0, .float .f64 0, .float .f64 0] 71)) Y 71 #[.slice none 0 0, .float .f64 0, .float .f64 0]) := Lib.hid (by rw [← hY]; exact HBk.out)
    rw [hY]
    clear HBk
    generalize (v0.alloc (.cells #[.slice none 0 0, .float .f64 0, .float .f64 0] 71)) = v1 at *
    refine hK.out _ _ (by exact HB1.out) ?_
    clear hK K hHeld
    intro hHeld
    try simp only [Act.put, putA, putB, putC]
    refine wpAnyN_one (i := 10) (o := ⟨some 18, _, _, _, _, _⟩) (by kernel_rfl) rfl (fun K hK => ?_)
    go_simp
    have HBk := Lib.hid (Blk.new v1 71 #[.slice none 0 0, .float .f64 0, .float .f64 0])
    have HB2 := Lib.hid (HB1.out.alloc HB1.out.size (.cells #[.slice none 0 0, .float .f64 0, .float .f64 0] 71))
    have HYK2 := Lib.hid (HYK.out.alloc (.cells #[.slice none 0 0, .float .f64 0, .float .f64 0] 71))
    obtain ⟨X, hX⟩ : ∃ X, v1.heap.size = X := ⟨_, rfl⟩
    have HXS : Hid (wr.heap.size ≤ X ∧ X ≠ Y) := Lib.hid (by have := HB1.out.size; have := HYK.out.lt; omega)
    have HXK2 : Hid (Blk (v1.alloc (.cells #[.slice none 0 0, .float .f64 0, .float .f64 0] 71)) X 71 #[.slice none 0 0, .float .f64 0, .float .f64 0]) := Lib.hid (by rw [← hX]; exact HBk.out)
    rw [hX]
    clear HBk
    generalize (v1.alloc (.cells #[.slice none 0 0, .float .f64 0, .float .f64 0] 71)) = v2 at *
    refine hK.out _ _ (by exact HB2.out) ?_
    clear hK K hHeld
    intro hHeld
    try simp only [Act.put, putA, putB, putC]
    have z0 := HXK2.out.c 0
    have z1 := HXK2.out.c 1
    have z2 := HXK2.out.c 2
    have zf : ∀ o, v2.frozen? ⟨X, o, none⟩ = false := fun o => HXK2.out.frozen o
    refine wpAnyN_one (i := 12) (o := ⟨none, _, _, _, _, _⟩) (by kernel_rfl) rfl (fun K hK => ?_)
    go_simp
    clear z0 z1 z2 zf
    have HST := Lib.hid (Blk.store3B HXK2.out HYK2.out (show Y ≠ X from (Ne.symm HXS.out.2)) (.slice a1 n1 c1) (.float .f64 m1) (.float .f64 M1))
    have HXK3 := Lib.hid HST.out.1
    have HYK3 := Lib.hid HST.out.2.1
    have HB3 := Lib.hid (HST.out.2.2 _ _ HB2.out HXS.out.1)
    clear HST
    generalize (((v2.setCell ⟨X, 0, none⟩ (.slice a1 n1 c1)).setCell ⟨X, 1, none⟩ (.float .f64 m1)).setCell ⟨X, 2, none⟩ (.float .f64 M1)) = v3 at *
    refine hK.out _ _ (by exact HB3.out) ?_
    clear hK K hHeld
    intro hHeld
    try simp only [Act.put, putA, putB, putC]
    have z0 := HYK3.out.c 0
    have z1 := HYK3.out.c 1
    have z2 := HYK3.out.c 2
    have zf : ∀ o, v3.frozen? ⟨Y, o, none⟩ = false := fun o => HYK3.out.frozen o
    refine wpAnyN_one (i := 13) (o := ⟨none, _, _, _, _, _⟩) (by kernel_rfl) rfl (fun K hK => ?_)
    go_simp
    clear z0 z1 z2 zf
    have HST := Lib.hid (Blk.store3B HYK3.out HXK3.out (show X ≠ Y from HXS.out.2) (.slice a2 n2 c2) (.float .f64 m2) (.float .f64 M2))
    have HYK4 := Lib.hid HST.out.1
    have HXK4 := Lib.hid HST.out.2.1
    have HB4 := Lib.hid (HST.out.2.2 _ _ HB3.out HYS.out)
    clear HST
    generalize (((v3.setCell ⟨Y, 0, none⟩ (.slice a2 n2 c2)).setCell ⟨Y, 1, none⟩ (.float .f64 m2)).setCell ⟨Y, 2, none⟩ (.float .f64 M2)) = v4 at *
    refine hK.out _ _ (by exact HB4.out) ?_
    clear hK K hHeld
    intro hHeld
    try simp only [Act.put, putA, putB, putC]
    refine wpAnyN_end (by kernel_rfl) ?_
    try go_wp2_with fail
    go_meet
    exact ⟨X, Y, rfl, rfl, HXK4.out, HYK4.out, HB4.out⟩

  case rest =>
   obtain ⟨X, Y, rfl, rfl, hX, hY, hbx⟩ := hcut
   clear x3 y3 ac0 ac1 ac2 bc0 bc1 bc2 abl bbl hxs
   have HCU1 := Lib.hid (HCU0.out.below hbx (Nat.le_refl _))
   have HB1 := Lib.hid (HB.out.trans (hbx.mono (hNv _ HB.out)))
   have HR11 := Lib.hid (HPX.out.1.1.below hbx (Nat.le_refl _))
   have HR21 := Lib.hid (HPY.out.1.1.below hbx (Nat.le_refl _))
   dsimp only at HR11 HR21
   have HD1 : Hid (Byt s1) := Lib.hid HPX.out.1.2.1
   have HD2 : Hid (Byt s2) := Lib.hid HPY.out.1.2.1
   have HC1 : Hid (codeN s1 = 0) := Lib.hid HPX.out.2.1
   have HC2 : Hid (codeN s2 = 0) := Lib.hid HPY.out.2.1
   have HI1 : Hid (m1 < 18446744073709551616 ∧ M1 < 18446744073709551616) := Lib.hid HPX.out.1.2.2
   have HI2 : Hid (m2 < 18446744073709551616 ∧ M2 < 18446744073709551616) := Lib.hid HPY.out.1.2.2
   generalize wc = wk at *
   have HX1 := Lib.hid hX
   have HY1 := Lib.hid hY
   have u0 := hX.c 0
   clear hX hY hbx
   go_wp2_with fail

   refine (rsread_any _ a1 n1 c1 s1 (HR11.out) HD1.out).mono ?_
   rintro e w3 ⟨hbn, b1, z1, ng1, p1, g1, h1, rfl, hN, hz⟩
   have HZE1 := Lib.hid (hz HC1.out)
   rw [show ((codeN s1 : Nat) : Int) = 0 from by rw [HC1.out]; rfl]
   clear hz
   obtain ⟨q10, q11, q12, q13, q14, hq1⟩ : ∃ q0 q1 q2 q3 q4 : Bool, rsCells b1 = fun ng a l c => #[.bool q0, .bool q1, .bool q2, .bool q3, .bool q4, .bool ng, .slice a l c] := ⟨_, _, _, _, _, rfl⟩
   rw [hq1]
   have HQ1 := Lib.hid hq1
   obtain ⟨hk, hbk⟩ := one_box w3 89 #[.bool q10, .bool q11, .bool q12, .bool q13, .bool q14, .bool ng1, .slice p1 g1 h1]
   have hbm := hbn.trans (hbk.mono hbn.size)
   have HV2 := Lib.hid hk
   have HN12 := Lib.hid (hN.below hbk (Nat.le_refl _))
   have HCU2 := Lib.hid (HCU1.out.below hbm (Nat.le_refl _))
   have HX2 := Lib.hid (HX1.out.below hbm HX1.out.lt)
   have HY2 := Lib.hid (HY1.out.below hbm HY1.out.lt)
   have HR22 := Lib.hid (HR21.out.below hbm (Nat.le_refl _))
   have HB2 := Lib.hid (HB1.out.trans (hbm.mono (hNv _ HB1.out)))
   clear hk hbk hbm hbn hN hq1
   go_upto_region 22 with fail
   generalize (w3.alloc (.cells #[.bool q10, .bool q11, .bool q12, .bool q13, .bool q14, .bool ng1, .slice p1 g1 h1] 89)) = w4 at *
   generalize w3.heap.size = V at *
   clear HCU1 HX1 HY1 HR21

   clear u0
   have u0 := HY2.out.c 0
   go_wp2_with fail

   refine (rsread_any _ a2 n2 c2 s2 (HR22.out) HD2.out).mono ?_
   rintro e w5 ⟨hbn, b2, z2, ng2, p2, g2, h2, rfl, hN, hz⟩
   have HZE2 := Lib.hid (hz HC2.out)
   rw [show ((codeN s2 : Nat) : Int) = 0 from by rw [HC2.out]; rfl]
   clear hz
   obtain ⟨q20, q21, q22, q23, q24, hq2⟩ : ∃ q0 q1 q2 q3 q4 : Bool, rsCells b2 = fun ng a l c => #[.bool q0, .bool q1, .bool q2, .bool q3, .bool q4, .bool ng, .slice a l c] := ⟨_, _, _, _, _, rfl⟩
   rw [hq2]
   have HQ2 := Lib.hid hq2
   obtain ⟨hk, hbk⟩ := one_box w5 89 #[.bool q20, .bool q21, .bool q22, .bool q23, .bool q24, .bool ng2, .slice p2 g2 h2]
   have hbm := hbn.trans (hbk.mono hbn.size)
   have HW3 := Lib.hid hk
   have HN23 := Lib.hid (hN.below hbk (Nat.le_refl _))
   have HCU3 := Lib.hid (HCU2.out.below hbm (Nat.le_refl _))
   have HX3 := Lib.hid (HX2.out.below hbm HX2.out.lt)
   have HY3 := Lib.hid (HY2.out.below hbm HY2.out.lt)
   have HV3 := Lib.hid (HV2.out.below hbm HV2.out.lt)
   have HN13 := Lib.hid (HN12.out.below hbm (Nat.le_refl _))
   have HB3 := Lib.hid (HB2.out.trans (hbm.mono (hNv _ HB2.out)))
   clear hk hbk hbm hbn hN hq2
   go_upto_region 23 with fail
   generalize (w5.alloc (.cells #[.bool q20, .bool q21, .bool q22, .bool q23, .bool q24, .bool ng2, .slice p2 g2 h2] 89)) = w6 at *
   generalize w5.heap.size = W at *
   clear HCU2 HX2 HY2 HV2 HN12

   clear u0
   have u0 := HV3.out.c 0
   have u1 := HV3.out.c 1
   have u2 := HV3.out.c 2
   have u3 := HV3.out.c 3
   have u4 := HV3.out.c 4
   have u5 := HV3.out.c 5
   have u6 := HV3.out.c 6
   have v0 := HW3.out.c 0
   have v1 := HW3.out.c 1
   have v2 := HW3.out.c 2
   have v3 := HW3.out.c 3
   have v4 := HW3.out.c 4
   have v5 := HW3.out.c 5
   have v6 := HW3.out.c 6
   have HF1 : Hid (FineS b1 z1) := Lib.hid (by rw [HZE1.out.1, HZE1.out.2]; exact FineS.read HD1.out HC1.out)
   have HF2 : Hid (FineS b2 z2) := Lib.hid (by rw [HZE2.out.1, HZE2.out.2]; exact FineS.read HD2.out HC2.out)
   have HF3 := Lib.hid (HF1.out.join HF2.out)
   obtain ⟨b3, hb3⟩ : ∃ b, joinF b1 b2 z1 z2 = b := ⟨_, rfl⟩
   obtain ⟨z3, hz3⟩ : ∃ z, putZ z1 z2 = z := ⟨_, rfl⟩
   rw [hb3, hz3] at HF3
   obtain ⟨q30, q31, q32, q33, q34, hq3⟩ : ∃ q0 q1 q2 q3 q4 : Bool, rsCells b3 = fun ng a l c => #[.bool q0, .bool q1, .bool q2, .bool q3, .bool q4, .bool ng, .slice a l c] := ⟨_, _, _, _, _, rfl⟩
   have HJ : Hid (∀ w', NumC w' ng1 p1 g1 h1 z1 → NumC w' ng2 p2 g2 h2 z2 → Calls Tryz.prog 56 #[.agg #[.bool q10, .bool q11, .bool q12, .bool q13, .bool q14, .bool ng1, .slice p1 g1 h1], .agg #[.bool q20, .bool q21, .bool q22, .bool q23, .bool q24, .bool ng2, .slice p2 g2 h2]] w' fun e w'' => ∃ ng a l c, e = .returned (.tuple #[.agg #[.bool q30, .bool q31, .bool q32, .bool q33, .bool q34, .bool ng, .slice a l c], .bool (decide ((z1 + z2).natAbs < ROOM))]) ∧ NumC w'' ng a l c z3 ∧ Below w'.heap.size w' w'') := Lib.hid (fun w' k1 k2 => by
    have h := rsjoin_any w' b1 b2 z1 z2 ng1 ng2 p1 g1 h1 p2 g2 h2 k1 k2 HF1.out.1 HF2.out.1
    unfold RRS at h
    rw [hb3, hz3, HQ1.out, HQ2.out, hq3] at h
    exact h)
   have HBY : Hid (∀ w' ng a l c, NumC w' ng a l c z3 → Calls Tryz.prog 33 #[.agg #[.bool q30, .bool q31, .bool q32, .bool q33, .bool q34, .bool ng, .slice a l c]] w' (RBytes b3 z3 w')) := Lib.hid (fun w' ng a l c h1 => by
    have h := rsbytes_any w' b3 z3 ng a l c h1 HF3.out.1 HF3.out.2.1
    rw [hq3] at h
    exact h)
   have HJF := Lib.hid (And.intro hb3 hz3)
   clear hb3 hz3 hq3
   go_wp2_with fail
   refine (HJ.out _ HN13.out HN23.out).mono ?_
   rintro e w7 ⟨ng3, p3, g3, h3, rfl, hN, hbn⟩
   obtain ⟨hk, hbk⟩ := one_box w7 89 #[.bool q30, .bool q31, .bool q32, .bool q33, .bool q34, .bool ng3, .slice p3 g3 h3]
   have hbm := hbn.trans (hbk.mono hbn.size)
   have HZ4 := Lib.hid hk
   have HN34 := Lib.hid (hN.below hbk (Nat.le_refl _))
   have HCU4 := Lib.hid (HCU3.out.below hbm (Nat.le_refl _))
   have HX4 := Lib.hid (HX3.out.below hbm HX3.out.lt)
   have HY4 := Lib.hid (HY3.out.below hbm HY3.out.lt)
   have HB4 := Lib.hid (HB3.out.trans (hbm.mono (hNv _ HB3.out)))
   clear hk hbk hbm hbn hN HCU3 HX3 HY3 HV3 HW3 HN13 HN23 HJ
   clear u0 u1 u2 u3 u4 u5 u6 v0 v1 v2 v3 v4 v5 v6
   go_upto_region 26 with fail
   generalize (w7.alloc (.cells #[.bool q30, .bool q31, .bool q32, .bool q33, .bool q34, .bool ng3, .slice p3 g3 h3] 89)) = w8 at *
   generalize w7.heap.size = Z at *
   by_cases hz1 : (z1 + z2).natAbs < ROOM
   case neg =>
    as_aux_lemma =>
    rw [decide_eq_false hz1]
    clear hz1

    have hk3 : Blk w8 (S + 1 + 1) 47 #[.int .u64 0, .int .i64 0, .slice none 0 0, .slice none 0 0] := HK3.out.below HB4.out HLT.out.2.2
    have z0 := hk3.c 0
    have z1 := hk3.c 1
    have z2 := hk3.c 2
    have z3 := hk3.c 3
    have zf : ∀ o, w8.frozen? ⟨S + 1 + 1, o, none⟩ = false := fun o => hk3.frozen o
    have HKR := Lib.hid hk3
    clear hk3
    go_wp2_with fail
    refine bodyPost_ret ?_ ?_ (RCJoin.err (er := 10) (by decide) ?_)
    rotate_left 2
    ·rw [HSS.out]
     exact below_set4 (HBW.out.trans (HB4.out.mono (Nat.le_of_lt HLT.out.1))) (by omega) _ _ _ _
    ·exact join_results rfl rfl (HKR.out.store4 _ _ _ _)
    ·rfl

   rw [decide_eq_true hz1]
   have HZR := Lib.hid hz1
   clear hz1
   obtain ⟨mm, hmm⟩ : ∃ m, (if keyN m2 < keyN m1 then m2 else m1) = m := ⟨_, rfl⟩
   obtain ⟨MM, hMM⟩ : ∃ m, (if keyN M1 < keyN M2 then M2 else M1) = m := ⟨_, rfl⟩
   have HLE : Hid (∀ v, Calls Tryz.prog 57 #[.float .f64 m1, .float .f64 m2] v fun e v' => e = .returned (.float .f64 mm) ∧ Below v.heap.size v v') := Lib.hid (fun v => by rw [← hmm]; exact rleast_any m1 m2 v HI1.out.1 HI2.out.1)
   have HMO : Hid (∀ v, Calls Tryz.prog 58 #[.float .f64 M1, .float .f64 M2] v fun e v' => e = .returned (.float .f64 MM) ∧ Below v.heap.size v v') := Lib.hid (fun v => by rw [← hMM]; exact rmost_any M1 M2 v HI1.out.2 HI2.out.2)
   have HME := Lib.hid (And.intro hmm.symm hMM.symm)
   clear hmm hMM
   go_upto_region 28 with fail
   refine wp_regionN (fun w' => Below w8.heap.size w8 w') [16, 17, 18] (by kernel_rfl) (by exact (Below.refl _ _).drew) (fun hHeld => ?_)
   generalize w8.drew = v0 at *
   have HB_0 := Lib.hid hHeld

   refine wpAnyN_u 0 ⟨some 177, _, _, _, _, _⟩ _ rfl ?_
   try simp only [Act.put, putA, putB, putC]
   refine wpAnyN_t 1 ⟨some 178, _, _, _, _, _⟩ ?_ rfl ?_ ?_
   rotate_left 1
   ·(intro w hSw; have d0 := (HCU4.out.blk.below hSw HCU4.out.blk.lt).c 3; go_simp; try with_reducible rfl)
   try simp only [Act.put, putA, putB, putC]
   refine wpAnyN_t 2 ⟨some 179, _, _, _, _, _⟩ ?_ rfl ?_ ?_
   rotate_left 1
   ·(intro w hSw; have d0 := (HZ4.out.below hSw HZ4.out.lt).c 0; have d1 := (HZ4.out.below hSw HZ4.out.lt).c 1; have d2 := (HZ4.out.below hSw HZ4.out.lt).c 2; have d3 := (HZ4.out.below hSw HZ4.out.lt).c 3; have d4 := (HZ4.out.below hSw HZ4.out.lt).c 4; have d5 := (HZ4.out.below hSw HZ4.out.lt).c 5; have d6 := (HZ4.out.below hSw HZ4.out.lt).c 6; go_simp; try with_reducible rfl)
   try simp only [Act.put, putA, putB, putC]
   refine wpAnyN_u 4 ⟨some 181, _, _, _, _, _⟩ _ rfl ?_
   try simp only [Act.put, putA, putB, putC]
   refine wpAnyN_t 5 ⟨some 182, _, _, _, _, _⟩ ?_ rfl ?_ ?_
   rotate_left 1
   ·(intro w hSw; have d0 := (HX4.out.below hSw HX4.out.lt).c 1; go_simp; try with_reducible rfl)
   try simp only [Act.put, putA, putB, putC]
   refine wpAnyN_u 6 ⟨some 183, _, _, _, _, _⟩ _ rfl ?_
   try simp only [Act.put, putA, putB, putC]
   refine wpAnyN_t 7 ⟨some 184, _, _, _, _, _⟩ ?_ rfl ?_ ?_
   rotate_left 1
   ·(intro w hSw; have d0 := (HY4.out.below hSw HY4.out.lt).c 1; go_simp; try with_reducible rfl)
   try simp only [Act.put, putA, putB, putC]
   refine wpAnyN_u 9 ⟨some 186, _, _, _, _, _⟩ _ rfl ?_
   try simp only [Act.put, putA, putB, putC]
   refine wpAnyN_t 10 ⟨some 187, _, _, _, _, _⟩ ?_ rfl ?_ ?_
   rotate_left 1
   ·(intro w hSw; have d0 := (HX4.out.below hSw HX4.out.lt).c 2; go_simp; try with_reducible rfl)
   try simp only [Act.put, putA, putB, putC]
   refine wpAnyN_u 11 ⟨some 188, _, _, _, _, _⟩ _ rfl ?_
   try simp only [Act.put, putA, putB, putC]
   refine wpAnyN_t 12 ⟨some 189, _, _, _, _, _⟩ ?_ rfl ?_ ?_
   rotate_left 1
   ·(intro w hSw; have d0 := (HY4.out.below hSw HY4.out.lt).c 2; go_simp; try with_reducible rfl)
   try simp only [Act.put, putA, putB, putC]
   refine wpAnyN_one (i := 3) (o := ⟨some 180, _, _, _, _, _⟩) (by kernel_rfl) rfl (fun K hK => ?_)
   go_simp
   refine (HBY.out _ _ _ _ _ (HN34.out.below HB_0.out (Nat.le_refl _))).mono ?_
   rintro e v1 ⟨a3, l3, c3, bs, rfl, hr3, hi3, hbn, hf3⟩
   have HCUa := Lib.hid (HCU4.out.below HB_0.out (Nat.le_refl _))
   have HF4 : Hid (Off vi a3 c3 ∧ Off vn a3 c3) := Lib.hid ⟨Off.fresh HCUa.out.oi hf3 (Nat.le_refl _), Off.fresh HCUa.out.on hf3 (Nat.le_refl _)⟩
   have HI3 := Lib.hid hi3
   have HRa := Lib.hid hr3
   have HB_1 := Lib.hid (HB_0.out.trans (hbn.mono HB_0.out.size))
   have HCUb := Lib.hid (HCUa.out.below hbn (Nat.le_refl _))
   clear hr3 hi3 hbn hf3 HCUa
   refine hK.out _ _ (by exact HB_1.out) ?_
   clear hK K hHeld
   intro hHeld
   try simp only [Act.put, putA, putB, putC]
   refine wpAnyN_one (i := 8) (o := ⟨some 185, _, _, _, _, _⟩) (by kernel_rfl) rfl (fun K hK => ?_)
   go_simp
   refine (HLE.out _).mono ?_
   rintro e v2 ⟨rfl, hbn⟩
   have HB_2 := Lib.hid (HB_1.out.trans (hbn.mono HB_1.out.size))
   have HCUc := Lib.hid (HCUb.out.below hbn (Nat.le_refl _))
   have HRb := Lib.hid (HRa.out.below hbn (Nat.le_refl _))
   clear hbn HCUb HRa
   refine hK.out _ _ (by exact HB_2.out) ?_
   clear hK K hHeld
   intro hHeld
   try simp only [Act.put, putA, putB, putC]
   refine wpAnyN_one (i := 13) (o := ⟨some 190, _, _, _, _, _⟩) (by kernel_rfl) rfl (fun K hK => ?_)
   go_simp
   refine (HMO.out _).mono ?_
   rintro e v3 ⟨rfl, hbn⟩
   have HB_3 := Lib.hid (HB_2.out.trans (hbn.mono HB_2.out.size))
   have HCU6 := Lib.hid (HCUc.out.below hbn (Nat.le_refl _))
   have HRc := Lib.hid (HRb.out.below hbn (Nat.le_refl _))
   clear hbn HCUc HRb
   refine hK.out _ _ (by exact HB_3.out) ?_
   clear hK K hHeld
   intro hHeld
   try simp only [Act.put, putA, putB, putC]
   refine wpAnyN_u 14 ⟨some 191, _, _, _, _, _⟩ _ rfl ?_
   try simp only [Act.put, putA, putB, putC]
   refine wpAnyN_one (i := 15) (o := ⟨some 192, _, _, _, _, _⟩) (by kernel_rfl) rfl (fun K hK => ?_)
   go_simp
   have HB_4 := Lib.hid (HB_3.out.alloc HB_3.out.size (.cells #[.slice a3 l3 c3, .float .f64 mm, .float .f64 MM] 71))
   refine hK.out _ _ (by exact HB_4.out) ?_
   clear hK K hHeld
   intro hHeld
   try simp only [Act.put, putA, putB, putC]
   refine wpAnyN_late (i := 16) (o := ⟨some 193, _, _, _, _, _⟩) (by kernel_rfl) (by kernel_rfl) rfl (fun K hK => ?_)
   refine step_append_off info_rel rfl (by decide) Tryz.underlying45 rfl _ _ (by rfl) v3 71 #[.slice a3 l3 c3, .float .f64 mm, .float .f64 MM] (C + 1) vn ts.length (relCells ts) v3.heap.size rfl rfl (by rfl) (by rfl) HCU6.out.on (by intro u hu; simp at hu; rcases hu with rfl | rfl | rfl <;> rfl) (by have := HXL.out; omega) (by have := HXL.out; unfold maxLen; omega) HCU6.out.blk.lt ?_
   intro va v4 h2 h3 h4 h5
   obtain ⟨ra, rc, rfl⟩ := own_form h2
   obtain ⟨g4, h5, h6⟩ := h5
   have HAP := Lib.hid (And.intro h2 (And.intro h3 (And.intro h5 h6)))
   have HB6 := Lib.hid (HB4.out.trans (HB_3.out.mono (hNv _ HB4.out)))
   have HB7 := Lib.hid (below_own HB6.out h3 (hNv _ HB6.out) HCU6.out.on HCN.out)
   have hk4 := HCU6.out.blk_r h3
   have zc : v4.cell? ⟨C, 3, none⟩ = some vn := hk4.cell 3
   have zf : ∀ o, v4.frozen? ⟨C, o, none⟩ = false := fun o => hk4.frozen o
   clear h2 h3 h4 h5 h6 hk4
   refine hK.out _ _ ?_
   clear hK K
   try simp only [Act.put, putA, putB, putC]
   refine wpAnyN_free (i := 17) (oi := ⟨some 194, _, _, _, _, _⟩) (v := ?_) rfl (by kernel_rfl) (by kernel_rfl) (by kernel_rfl) (by kernel_rfl) (by kernel_rfl) (fun _ _ _ h => h) (Or.inl ⟨by rfl, ?_⟩) ?_
   rotate_left 1
   ·(intro w hSw; clear hSw; go_simp; try with_reducible rfl)
   try simp only [Act.put, putA, putB, putC]
   refine wpAnyN_late (i := 18) (o := ⟨none, _, _, _, _, _⟩) (by kernel_rfl) (by kernel_rfl) rfl (fun K hK => ?_)
   go_simp
   refine hK.out _ _ ?_
   clear hK K
   try simp only [Act.put, putA, putB, putC]
   refine wpAnyN_end (by kernel_rfl) ?_

   have HJB : Hid (IsBytes (joinF (bOf s1) (bOf s2) (zOf s1) (zOf s2)) (putZ (zOf s1) (zOf s2)) bs ∧ (zOf s1 + zOf s2).natAbs < ROOM) := Lib.hid (by
    have h1 := HI3.out
    have h2 := HZR.out
    rw [← HJF.out.1, ← HJF.out.2, HZE1.out.1, HZE2.out.1, HZE1.out.2, HZE2.out.2] at h1
    rw [HZE1.out.2, HZE2.out.2] at h2
    exact ⟨h1, h2⟩)
   have HMW : Hid (mm < 18446744073709551616 ∧ MM < 18446744073709551616) := Lib.hid (by
    have h1 := HI1.out
    have h2 := HI2.out
    rw [HME.out.1, HME.out.2]
    constructor
    ·split
     ·exact h2.1
     ·exact h1.1
    ·split
     ·exact h2.2
     ·exact h1.2)
   have HCU8 := Lib.hid (HCU6.out.pushR ⟨bs, a3, l3, c3, mm, MM⟩ ⟨HRc.out, bytes_byt HI3.out HF3.out.2.1 HF3.out.1, HMW.out.1, HMW.out.2⟩ HF4.out HAP.out.1 HAP.out.2.1 HAP.out.2.2.1 HAP.out.2.2.2)
   have HW8 : Hid (∀ y ∈ ts ++ [(⟨bs, a3, l3, c3, mm, MM⟩ : Rel)], RInv (kx + ky) y) := Lib.hid (fun y hy => by
    rcases List.mem_append.1 hy with hy | hy
    ·exact HRI.out y hy
    ·rw [List.mem_singleton.1 hy]; exact RInv.joined (by have := HKK.out; omega) (by have := HKK.out; omega) HPX.out.2 HPY.out.2 HD1.out HD2.out HI1.out.1 HI1.out.2 HI2.out.1 HI2.out.2 HME.out.1 HME.out.2 HJB.out.2 HJB.out.1)
   have HB8 := Lib.hid (below_at HB7.out (p := ⟨C, 3, none⟩) HNC.out (.slice ra (ts.length + 1) rc))
   generalize v4.setCell ⟨C, 3, none⟩ (.slice ra (ts.length + 1) rc) = v5 at *
   clear zc zf
   go_wp2_with fail
   go_roundg (mn - jj - 1)
   case measure => have := HQQ.out; omega
   case rel => exact ⟨jj + 1, _, _, by go_num, by have := HQQ.out; omega, by rw [List.length_append, HTJ.out]; rfl, HCU8.out, HW8.out, HB8.out⟩

 case neg =>
 obtain rfl : mn = jj := by have := HQQ.out; omega
 clear hlt
 obtain ⟨l, rfl, rfl, hca⟩ := HCU0.out.done ⟨by omega, by omega⟩ (by have := HKK.out; unfold I64; omega)
 have u0 := HCU0.out.blk.cell 0
 have u1 := HCU0.out.blk.cell 1
 have u2 := HCU0.out.blk.cell 2
 have u3 := HCU0.out.blk.cell 3
 simp only [List.getElem?_toArray, List.getElem?_cons_zero, List.getElem?_cons_succ] at u0 u1 u2 u3
 have hk3 : Blk wr (S + 1 + 1) 47 #[.int .u64 0, .int .i64 0, .slice none 0 0, .slice none 0 0] := HK3.out.below HB.out HLT.out.2.2
 have z0 := hk3.c 0
 have z1 := hk3.c 1
 have z2 := hk3.c 2
 have z3 := hk3.c 3
 have zf : ∀ o, wr.frozen? ⟨S + 1 + 1, o, none⟩ = false := fun o => hk3.frozen o
 have HKR := Lib.hid hk3
 clear hca hk3
 go_wp2_with fail
 have hst := HCU0.out.store4 (show S + 1 + 1 < C by have := HLT.out.2.2; have := HNC.out; omega) HKR.out (.int .u64 0) (.int .i64 (kx + ky)) (.slice l.ai l.ni l.ci) (.slice l.an l.nn l.cn)
 obtain ⟨l2, q1, q2, hca2⟩ := hst.1.done ⟨by omega, by omega⟩ (by have := HKK.out; unfold I64; omega)
 refine bodyPost_ret ?_ ?_ (⟨l2, ⟨0, kx + ky, zs, ts⟩, 0, rfl, fun _ => ⟨hca2, ⟨rfl, rfl, HZI.out, HTJ.out, HWI.out, HRI.out⟩⟩, ?_⟩ : RCJoin (kx + ky) mi mn w (.returned (.tuple #[l2.val ⟨0, kx + ky, zs, ts⟩, .int .i64 0])) _)
 rotate_left 2
 ·rw [HSS.out]
  exact below_set4 (HBW.out.trans (HB.out.mono (Nat.le_of_lt HLT.out.1))) (by omega) _ _ _ _
 ·unfold CellL.val
  rw [← q1, ← q2]
  exact join_results rfl rfl hst.2
 ·rfl
end Go.Proofs.YtehmompbmnejkaaGreat
