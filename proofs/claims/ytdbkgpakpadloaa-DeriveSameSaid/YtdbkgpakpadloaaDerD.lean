/- The contract of package derive's Value. No conditions but those stated. -/
import Derived.Test.YtdbkgpakpadloaaDerC
import Derived.StillTailTactics
namespace Go.Proofs.Ytdbkgpakpadloaa
open Go.RowKit Ieee
attribute [local go_sem] run_store_float

theorem sq_bound {xs : List Int} (h : Dig 4294967296 xs) (hl : xs.length ≤ 20) : ∃ K, K ≤ 1000 ∧ (V 4294967296 xs).toNat < 2 ^ K ∧ V 4294967296 xs = ((V 4294967296 xs).toNat : Int) := by
  obtain ⟨h0, h1⟩ := V_bd (by decide) h
  refine ⟨32 * xs.length, by omega, ?_, by omega⟩
  have e : (4294967296 : Int) ^ xs.length = ((2 ^ (32 * xs.length) : Nat) : Int) := by rw [Nat.pow_mul, Int.natCast_pow]; rfl
  rw [e] at h1
  omega
def RReal (real : Bool → Int → Nat → Prop) (w : World) (e : Ending) (w' : World) : Prop := ∃ z, e = .returned (.agg #[.bool true, .int .i64 0, .float .f64 z]) ∧ real true 0 z ∧ Below w.heap.size w w'
/-- what the value of a real measure is -/
def RealCall (s : Sch) (k m : Int) (c : CellV) (real : Bool → Int → Nat → Prop) : Prop :=
  1 ≤ k → k ≤ 4 → (s.ints.length : Int) ≤ m → m - s.ints.length < (c.nums.length : Int) → ∀ w', (relAt c.nums (m - s.ints.length).toNat).at_ w' →
    Calls Try.prog 17 #[.int .i64 k, .agg #[.slice (relAt c.nums (m - s.ints.length).toNat).a (relAt c.nums (m - s.ints.length).toNat).n (relAt c.nums (m - s.ints.length).toNat).c, .float .f64 (relAt c.nums (m - s.ints.length).toNat).min, .float .f64 (relAt c.nums (m - s.ints.length).toNat).max], .int .i64 c.count] w' (RReal real w')
theorem dval_results {w : World} {s : Nat} {k : Int} {tmps : Array Value} {v0 v1 v2 : Value} (h2 : tmps[8]? = some (.pointer (some ⟨s, 0, none⟩))) (h3 : tmps[9]? = some (.int .i64 k))
    (hk : Blk w s 24 #[v0, v1, v2]) :
    (Sem.run Try.prog (results Try.f9 tmps) w) = .ok (.tuple #[.agg #[v0, v1, v2], .int .i64 k]) w := by
  have d0 := hk.cell 0
  have d1 := hk.cell 1
  have d2 := hk.cell 2
  clear hk
  simp at d0 d1 d2
  simp [results, Try.results9, go_sem, h2, h3, d0, d1, d2]
theorem col_says4 {ni nn : Nat} {k m : Int} (h : colB ni nn k m = true) (hk : k ≠ 0) (hm : (ni : Int) ≤ m) : k ≤ 4 := by
  unfold colB at h
  rw [if_neg hk] at h
  split at h
  · omega
  · split at h
    · have := of_decide_eq_true h; omega
    · cases h
theorem col_says {ni nn : Nat} {k m : Int} (h : colB ni nn k m = true) (hk : k ≠ 0) : 0 ≤ m ∧ m < (ni + nn : Nat) ∧ 1 ≤ k ∧ k ≤ 6 := by
  unfold colB at h
  rw [if_neg hk] at h
  split at h
  · have := of_decide_eq_true h; omega
  · split at h
    · have := of_decide_eq_true h; omega
    · cases h
theorem Blk.three {w : World} {s : Nat} {t : TypeId} {v0 v1 v2 : Value} (h : Blk w s t #[v0, v1, v2]) (u0 u1 u2 : Value) : Blk (((w.setCell ⟨s, 0, none⟩ u0).setCell ⟨s, 1, none⟩ u1).setCell ⟨s, 2, none⟩ u2) s t #[u0, u1, u2] :=
  (((h.set_ 0 u0).set_ 1 u1).set_ 2 u2).to rfl
theorem RVal.mk {P : Bool → Int → Nat → Nat → Prop} {w w0 wr : World} {S N : Nat} {r : Bool} {n : Int} {z k : Nat} (hP : P r n z k) (hS : w.heap.size = S) (hbw : Below S w w0) (hn : S ≤ N) (hb : Below N w0 wr) :
    RVal P w (.returned (.tuple #[.agg #[.bool r, .int .i64 n, .float .f64 z], .int .i64 (k : Int)])) (((wr.setCell ⟨S + 4, 0, none⟩ (.bool r)).setCell ⟨S + 4, 1, none⟩ (.int .i64 n)).setCell ⟨S + 4, 2, none⟩ (.float .f64 z)) := by
  subst hS
  exact ⟨r, n, z, k, rfl, hP, (((hbw.trans (hb.mono hn)).setCell (Nat.le_add_right _ 4) _).setCell (Nat.le_add_right _ 4) _).setCell (Nat.le_add_right _ 4) _⟩
set_option maxRecDepth 100000 in
set_option maxHeartbeats 4000000 in
theorem dvalue_any (w : World) (l : SchL) (s : Sch) (k m : Int) (lc la : CellL) (c a : CellV) (real : Bool → Int → Nat → Prop) (h : SchAt w l s) (hk : I64 k) (hm : I64 m) (hc : CellAt w lc c) (ha : CellAt w la a) (hsq : Hid (∀ x ∈ c.ints, x.n ≤ 20)) (hre : RealCall s k m c real) :
    Calls Try.prog 9 #[l.val, .agg #[.int .i64 k, .int .i64 m], lc.val c, la.val a] w (RVal (DVal s k m c a real) w) := by
  obtain ⟨ad, nd, cd, ai, ni, ci, an, nn, cn, av, nv, cv⟩ := l
  obtain ⟨ci1, cn1, cc1, ci2, cn2, cc2⟩ := lc
  obtain ⟨ai1, an1, ac1, ai2, an2, ac2⟩ := la
  have HLN := Lib.hid (And.intro (show s.ints.length = ni from h.2.2.1.1) (And.intro (show s.nums.length = nn from h.2.2.2.1.1) (And.intro (show c.ints.length = cn1 from hc.2.1) (And.intro (show c.nums.length = cn2 from hc.2.2.2.1) (And.intro (show a.ints.length = an1 from ha.2.1) (show a.nums.length = an2 from ha.2.2.2.1))))))
  obtain ⟨ck, hck⟩ : ∃ x, c.key = x := ⟨_, rfl⟩
  obtain ⟨cq, hcq⟩ : ∃ x, c.count = x := ⟨_, rfl⟩
  obtain ⟨ak, hak⟩ : ∃ x, a.key = x := ⟨_, rfl⟩
  obtain ⟨aq, haq⟩ : ∃ x, a.count = x := ⟨_, rfl⟩
  unfold SchL.val CellL.val
  simp only
  rw [hck, hcq, hak, haq]
  have HV := Lib.hid (And.intro hck (And.intro hcq (And.intro hak haq)))
  obtain ⟨b1, b2, b3, b4, b5, hbw, hsz⟩ := four_box w 34 46 41 41 24 #[.slice ad nd cd, .slice ai ni ci, .slice an nn cn, .slice av nv cv] #[.int .i64 k, .int .i64 m] #[.int .u64 ck, .int .i64 cq, .slice ci1 cn1 cc1, .slice ci2 cn2 cc2] #[.int .u64 ak, .int .i64 aq, .slice ai1 an1 ac1, .slice ai2 an2 ac2] #[.bool false, .int .i64 0, .float .f64 0]
  have HS := Lib.hid (h.below hbw (Nat.le_refl _))
  have HC := Lib.hid (hc.below hbw (Nat.le_refl _))
  have HA := Lib.hid (ha.below hbw (Nat.le_refl _))
  have HBW := Lib.hid hbw
  have HKM := Lib.hid (And.intro hk hm)
  have HK1 := Lib.hid b1
  have HK2 := Lib.hid b2
  have HK3 := Lib.hid b3
  have HK4 := Lib.hid b4
  have HK5 := Lib.hid b5
  have HSZ := Lib.hid hsz
  clear h hc ha hbw hk hm b1 b2 b3 b4 b5 hsz hck hcq hak haq
  go_enter Try.func9, Try.ntmps9
  go_upto_region 1 with fail
  generalize (((((w.alloc (.cells #[.slice ad nd cd, .slice ai ni ci, .slice an nn cn, .slice av nv cv] 34)).alloc (.cells #[.int .i64 k, .int .i64 m] 46)).alloc (.cells #[.int .u64 ck, .int .i64 cq, .slice ci1 cn1 cc1, .slice ci2 cn2 cc2] 41)).alloc (.cells #[.int .u64 ak, .int .i64 aq, .slice ai1 an1 ac1, .slice ai2 an2 ac2] 41)).alloc (.cells #[.bool false, .int .i64 0, .float .f64 0] 24)) = w0 at *
  generalize hS : w.heap.size = S at *
  have HSS := Lib.hid hS
  clear hS
  obtain ⟨K, hK⟩ : ∃ K, chkS s = K := ⟨_, rfl⟩
  have HK := Lib.hid hK
  clear hK
  have b1 := HK1.out
  have e0 : w0.cell? ⟨S, 0, none⟩ = some (.slice ad nd cd) := b1.cell 0
  have e1 : w0.cell? ⟨S, 1, none⟩ = some (.slice ai ni ci) := b1.cell 1
  have e2 : w0.cell? ⟨S, 2, none⟩ = some (.slice an nn cn) := b1.cell 2
  have e3 : w0.cell? ⟨S, 3, none⟩ = some (.slice av nv cv) := b1.cell 3
  clear b1
  go_wp2_with fail
  refine (schk_any _ ⟨ad, nd, cd, ai, ni, ci, an, nn, cn, av, nv, cv⟩ s HS.out).mono ?_
  rintro e w1 ⟨rfl, hb1⟩
  rw [HK.out]
  have HB1 : Hid (Below (S + 5) w0 w1) := Lib.hid (by rw [← HSZ.out]; exact hb1)
  have HS1 := Lib.hid (HS.out.below hb1 (Nat.le_refl _))
  clear hb1 e0 e1 e2 e3
  by_cases hk0 : K = 0
  case neg =>
    have hk2 : ((K : Int) != 0) = true := by simp; omega
    have hkz := HK5.out.below HB1.out (by omega)
    have z0 : w1.cell? ⟨S + 4, 0, none⟩ = some (.bool false) := hkz.cell 0
    have z1 : w1.cell? ⟨S + 4, 1, none⟩ = some (.int .i64 0) := hkz.cell 1
    have z2 : w1.cell? ⟨S + 4, 2, none⟩ = some (.float .f64 0) := hkz.cell 2
    have zf : ∀ o, w1.frozen? ⟨S + 4, o, none⟩ = false := fun o => hkz.frozen o
    have HKZ := Lib.hid (hkz.three (.bool false) (.int .i64 0) (.float .f64 0))
    have HRZ := Lib.hid (RVal.mk (P := DVal s k m c a real) (r := false) (n := 0) (z := 0) (k := 1) (.inl ⟨by rw [HK.out]; exact hk0, rfl, rfl, rfl, rfl⟩) HSS.out HBW.out (Nat.le_add_right S 5) HB1.out)
    clear hkz hk0
    go_wp2_with fail
    refine bodyPost_ret ?_ ?_ HRZ.out
    rotate_left
    · rfl
    · exact dval_results rfl rfl HKZ.out
  case pos =>
    subst hk0
    obtain ⟨d1, d2, d3, d4⟩ := chk_dims HK.out
    rw [HLN.out.1] at d3
    rw [HLN.out.2.1] at d4
    have hq1 := HK1.out.below HB1.out (by omega)
    have x10 : w1.cell? ⟨S, 0, none⟩ = some (.slice ad nd cd) := hq1.cell 0
    have x11 : w1.cell? ⟨S, 1, none⟩ = some (.slice ai ni ci) := hq1.cell 1
    have x12 : w1.cell? ⟨S, 2, none⟩ = some (.slice an nn cn) := hq1.cell 2
    have x13 : w1.cell? ⟨S, 3, none⟩ = some (.slice av nv cv) := hq1.cell 3
    clear hq1
    have hq2 := HK2.out.below HB1.out (by omega)
    have x20 : w1.cell? ⟨S + 1, 0, none⟩ = some (.int .i64 k) := hq2.cell 0
    have x21 : w1.cell? ⟨S + 1, 1, none⟩ = some (.int .i64 m) := hq2.cell 1
    clear hq2
    obtain ⟨MB, hMB⟩ : ∃ b, mayB s k m = b := ⟨_, rfl⟩
    have HMB : Hid (colB s.ints.length s.nums.length k m = MB) := Lib.hid (by rw [← hMB]; unfold mayB; rw [decide_eq_true HK.out]; rfl)
    have HCALL : Hid (∀ w', SchAt w' ⟨ad, nd, cd, ai, ni, ci, an, nn, cn, av, nv, cv⟩ s → Calls Try.prog 15 #[.agg #[.slice ad nd cd, .slice ai ni ci, .slice an nn cn, .slice av nv cv], .agg #[.int .i64 k, .int .i64 m]] w' fun e w'' => e = .returned (.bool MB) ∧ Below w'.heap.size w' w'') := Lib.hid (fun w' h1 => by
      have h := may_any w' _ s k m h1 HKM.out.1 HKM.out.2
      rw [hMB] at h
      exact h)
    clear hMB
    go_wp2_with fail
    refine (HCALL.out _ HS1.out).mono ?_; rintro e w2 ⟨rfl, hb2⟩
    have HB2 := Lib.hid (HB1.out.trans (hb2.mono (by have := HB1.out.size; rw [HSZ.out] at this; exact this)))
    clear hb2 HCALL HS1
    clear x10 x11 x12 x13 x20 x21
    rcases MB with _ | _
    · have hkz := HK5.out.below HB2.out (by omega)
      have z0 : w2.cell? ⟨S + 4, 0, none⟩ = some (.bool false) := hkz.cell 0
      have z1 : w2.cell? ⟨S + 4, 1, none⟩ = some (.int .i64 0) := hkz.cell 1
      have z2 : w2.cell? ⟨S + 4, 2, none⟩ = some (.float .f64 0) := hkz.cell 2
      have zf : ∀ o, w2.frozen? ⟨S + 4, o, none⟩ = false := fun o => hkz.frozen o
      have HKZ := Lib.hid (hkz.three (.bool false) (.int .i64 0) (.float .f64 0))
      have HRZ := Lib.hid (RVal.mk (P := DVal s k m c a real) (r := false) (n := 0) (z := 0) (k := 2) (.inr (.inl ⟨HK.out, HMB.out, rfl, rfl, rfl, rfl⟩)) HSS.out HBW.out (Nat.le_add_right S 5) HB2.out)
      clear hkz
      go_wp2_with fail
      refine bodyPost_ret ?_ ?_ HRZ.out
      rotate_left
      · rfl
      · exact dval_results rfl rfl HKZ.out
    · have hq3 := HK3.out.below HB2.out (by omega)
      have x30 : w2.cell? ⟨S + 2, 0, none⟩ = some (.int .u64 ck) := hq3.cell 0
      have x31 : w2.cell? ⟨S + 2, 1, none⟩ = some (.int .i64 cq) := hq3.cell 1
      have x32 : w2.cell? ⟨S + 2, 2, none⟩ = some (.slice ci1 cn1 cc1) := hq3.cell 2
      have x33 : w2.cell? ⟨S + 2, 3, none⟩ = some (.slice ci2 cn2 cc2) := hq3.cell 3
      clear hq3
      have hq4 := HK4.out.below HB2.out (by omega)
      have x40 : w2.cell? ⟨S + 3, 0, none⟩ = some (.int .u64 ak) := hq4.cell 0
      have x41 : w2.cell? ⟨S + 3, 1, none⟩ = some (.int .i64 aq) := hq4.cell 1
      have x42 : w2.cell? ⟨S + 3, 2, none⟩ = some (.slice ai1 an1 ac1) := hq4.cell 2
      have x43 : w2.cell? ⟨S + 3, 3, none⟩ = some (.slice ai2 an2 ac2) := hq4.cell 3
      clear hq4
      obtain ⟨hbG, hbwG, hszG⟩ := boxed w2 41 #[.int .u64 ck, .int .i64 cq, .slice ci1 cn1 cc1, .slice ci2 cn2 cc2, .int .u64 ak, .int .i64 aq, .slice ai1 an1 ac1, .slice ai2 an2 ac2]
      have g0 := hbG 0
      have g1 := hbG 1
      have g2 := hbG 2
      have g3 := hbG 3
      have g4 := hbG 4
      have g5 := hbG 5
      have g6 := hbG 6
      have g7 := hbG 7
      simp only [List.getElem?_toArray, List.getElem?_cons_zero, List.getElem?_cons_succ] at g0 g1 g2 g3 g4 g5 g6 g7
      have HG := Lib.hid (And.intro g0 (And.intro g1 (And.intro g2 (And.intro g3 (And.intro g4 (And.intro g5 (And.intro g6 (g7))))))))
      have HB3 : Hid (Below (S + 5) w0 (w2.alloc (.cells #[.int .u64 ck, .int .i64 cq, .slice ci1 cn1 cc1, .slice ci2 cn2 cc2, .int .u64 ak, .int .i64 aq, .slice ai1 an1 ac1, .slice ai2 an2 ac2] 41))) := Lib.hid (HB2.out.trans (hbwG.mono (by have := HB2.out.size; rw [HSZ.out] at this; exact this)))
      obtain ⟨N3, hN3⟩ : ∃ N, (w2.alloc (.cells #[.int .u64 ck, .int .i64 cq, .slice ci1 cn1 cc1, .slice ci2 cn2 cc2, .int .u64 ak, .int .i64 aq, .slice ai1 an1 ac1, .slice ai2 an2 ac2] 41)).heap.size = N := ⟨_, rfl⟩
      have HGN : Hid (w2.heap.size < N3 ∧ S + 5 ≤ w2.heap.size) := Lib.hid ⟨by rw [← hN3, hszG]; omega, by have := HB2.out.size; rw [HSZ.out] at this; exact this⟩
      clear hbG hbwG hszG g0 g1 g2 g3 g4 g5 g6 g7
      go_upto_region 6 with fail
      generalize (w2.alloc (.cells #[.int .u64 ck, .int .i64 cq, .slice ci1 cn1 cc1, .slice ci2 cn2 cc2, .int .u64 ak, .int .i64 aq, .slice ai1 an1 ac1, .slice ai2 an2 ac2] 41)) = w3 at *
      generalize w2.heap.size = G at *
      have HN3 := Lib.hid hN3
      clear hN3
      clear x30 x31 x32 x33 x40 x41 x42 x43
      go_loopg [26] 2 (fun q iu wr => ((iu = .int .i64 0 ∧ q = 2) ∨ (iu = .int .i64 1 ∧ q = 1 ∧ cn1 = ni ∧ cn2 = nn) ∨ (iu = .int .i64 2 ∧ q = 0 ∧ cn1 = ni ∧ cn2 = nn ∧ an1 = ni ∧ an2 = nn)) ∧ Below N3 w3 wr)
      case atStart => exact ⟨.inl ⟨rfl, rfl⟩, Below.refl _ _⟩
      case round =>
        obtain ⟨hcs, hb⟩ := hrel
        have HBR := Lib.hid hb
        have HB4 : Hid (Below (S + 5) w0 wr) := Lib.hid (HB3.out.trans (hb.mono (by have := HGN.out; omega)))
        have hsz : N3 ≤ wr.heap.size := by have := hb.size; rw [HN3.out] at this; exact this
        clear hb
        rcases hcs with ⟨rfl, rfl⟩ | ⟨rfl, rfl, hcs⟩ | ⟨rfl, rfl, h1, h2, h3, h4⟩
        · have g0 : wr.cell? ⟨G, 0, none⟩ = some (.int .u64 ck) := by rw [HBR.out.cell (p := ⟨G, 0, none⟩) HGN.out.1]; exact HG.out.1
          have g1 : wr.cell? ⟨G, 1, none⟩ = some (.int .i64 cq) := by rw [HBR.out.cell (p := ⟨G, 1, none⟩) HGN.out.1]; exact HG.out.2.1
          have g2 : wr.cell? ⟨G, 2, none⟩ = some (.slice ci1 cn1 cc1) := by rw [HBR.out.cell (p := ⟨G, 2, none⟩) HGN.out.1]; exact HG.out.2.2.1
          have g3 : wr.cell? ⟨G, 3, none⟩ = some (.slice ci2 cn2 cc2) := by rw [HBR.out.cell (p := ⟨G, 3, none⟩) HGN.out.1]; exact HG.out.2.2.2.1
          have x11 : wr.cell? ⟨S, 1, none⟩ = some (.slice ai ni ci) := (HK1.out.below HB4.out (by omega)).cell 1
          have x12 : wr.cell? ⟨S, 2, none⟩ = some (.slice an nn cn) := (HK1.out.below HB4.out (by omega)).cell 2
          have hSw : S < wr.heap.size := by have := HGN.out; omega
          obtain ⟨A, hA⟩ : ∃ A, ((cn1 : Int) != (ni : Int)) = A := ⟨_, rfl⟩
          obtain ⟨B, hB⟩ : ∃ B, ((cn2 : Int) != (nn : Int)) = B := ⟨_, rfl⟩
          have HA1 : Hid (A = decide (cn1 ≠ ni)) := Lib.hid (by rw [← hA, Bool.eq_iff_iff, bne_iff_ne, decide_eq_true_eq]; omega)
          have HB1' : Hid (B = decide (cn2 ≠ nn)) := Lib.hid (by rw [← hB, Bool.eq_iff_iff, bne_iff_ne, decide_eq_true_eq]; omega)
          rcases A with _ | _
          · rcases B with _ | _
            · have HH : Hid (cn1 = ni ∧ cn2 = nn) := Lib.hid ⟨Classical.not_not.1 (of_decide_eq_false HA1.out.symm), Classical.not_not.1 (of_decide_eq_false HB1'.out.symm)⟩
              have HBN := Lib.hid (HBR.out.alloc hsz (.cells #[.int .u64 ck, .int .i64 cq, .slice ci1 cn1 cc1, .slice ci2 cn2 cc2] 41))
              go_wp2_with fail
              go_roundg 1
              case measure => omega
              case rel =>
                have hh := HH.out
                exact ⟨.inr (.inl ⟨rfl, rfl, hh⟩), HBN.out⟩
            · have HLB : Hid (lensB s c a = false) := Lib.hid (by
                unfold lensB
                rw [HLN.out.1, HLN.out.2.1, HLN.out.2.2.1, HLN.out.2.2.2.1, HLN.out.2.2.2.2.1, HLN.out.2.2.2.2.2]
                refine decide_eq_false fun hh => ?_
                have := of_decide_eq_true HB1'.out.symm
                omega)
              have hb5 := HB4.out.alloc (show S + 5 ≤ wr.heap.size by have := HGN.out; omega) (.cells #[.int .u64 ck, .int .i64 cq, .slice ci1 cn1 cc1, .slice ci2 cn2 cc2] 41)
              have HB5 := Lib.hid hb5
              clear hb5
              have hkz := HK5.out.below HB5.out (by omega)
              have z0 : (wr.alloc (.cells #[.int .u64 ck, .int .i64 cq, .slice ci1 cn1 cc1, .slice ci2 cn2 cc2] 41)).cell? ⟨S + 4, 0, none⟩ = some (.bool false) := hkz.cell 0
              have z1 : (wr.alloc (.cells #[.int .u64 ck, .int .i64 cq, .slice ci1 cn1 cc1, .slice ci2 cn2 cc2] 41)).cell? ⟨S + 4, 1, none⟩ = some (.int .i64 0) := hkz.cell 1
              have z2 : (wr.alloc (.cells #[.int .u64 ck, .int .i64 cq, .slice ci1 cn1 cc1, .slice ci2 cn2 cc2] 41)).cell? ⟨S + 4, 2, none⟩ = some (.float .f64 0) := hkz.cell 2
              have zf : ∀ o, (wr.alloc (.cells #[.int .u64 ck, .int .i64 cq, .slice ci1 cn1 cc1, .slice ci2 cn2 cc2] 41)).frozen? ⟨S + 4, o, none⟩ = false := fun o => hkz.frozen o
              have HKZ := Lib.hid (hkz.three (.bool false) (.int .i64 0) (.float .f64 0))
              have HRZ := Lib.hid (RVal.mk (P := DVal s k m c a real) (r := false) (n := 0) (z := 0) (k := 3) (.inr (.inr (.inl ⟨HK.out, HMB.out, HLB.out, rfl, rfl, rfl, rfl⟩))) HSS.out HBW.out (Nat.le_add_right S 5) HB5.out)
              clear hkz
              go_wp2_with fail
              refine bodyPost_ret ?_ ?_ HRZ.out
              rotate_left
              · rfl
              · exact dval_results rfl rfl HKZ.out
          · have HLB : Hid (lensB s c a = false) := Lib.hid (by
              unfold lensB
              rw [HLN.out.1, HLN.out.2.1, HLN.out.2.2.1, HLN.out.2.2.2.1, HLN.out.2.2.2.2.1, HLN.out.2.2.2.2.2]
              refine decide_eq_false fun hh => ?_
              have := of_decide_eq_true HA1.out.symm
              omega)
            have hb5 := HB4.out.alloc (show S + 5 ≤ wr.heap.size by have := HGN.out; omega) (.cells #[.int .u64 ck, .int .i64 cq, .slice ci1 cn1 cc1, .slice ci2 cn2 cc2] 41)
            have HB5 := Lib.hid hb5
            clear hb5
            have hkz := HK5.out.below HB5.out (by omega)
            have z0 : (wr.alloc (.cells #[.int .u64 ck, .int .i64 cq, .slice ci1 cn1 cc1, .slice ci2 cn2 cc2] 41)).cell? ⟨S + 4, 0, none⟩ = some (.bool false) := hkz.cell 0
            have z1 : (wr.alloc (.cells #[.int .u64 ck, .int .i64 cq, .slice ci1 cn1 cc1, .slice ci2 cn2 cc2] 41)).cell? ⟨S + 4, 1, none⟩ = some (.int .i64 0) := hkz.cell 1
            have z2 : (wr.alloc (.cells #[.int .u64 ck, .int .i64 cq, .slice ci1 cn1 cc1, .slice ci2 cn2 cc2] 41)).cell? ⟨S + 4, 2, none⟩ = some (.float .f64 0) := hkz.cell 2
            have zf : ∀ o, (wr.alloc (.cells #[.int .u64 ck, .int .i64 cq, .slice ci1 cn1 cc1, .slice ci2 cn2 cc2] 41)).frozen? ⟨S + 4, o, none⟩ = false := fun o => hkz.frozen o
            have HKZ := Lib.hid (hkz.three (.bool false) (.int .i64 0) (.float .f64 0))
            have HRZ := Lib.hid (RVal.mk (P := DVal s k m c a real) (r := false) (n := 0) (z := 0) (k := 3) (.inr (.inr (.inl ⟨HK.out, HMB.out, HLB.out, rfl, rfl, rfl, rfl⟩))) HSS.out HBW.out (Nat.le_add_right S 5) HB5.out)
            clear hkz
            go_wp2_with fail
            refine bodyPost_ret ?_ ?_ HRZ.out
            rotate_left
            · rfl
            · exact dval_results rfl rfl HKZ.out
        · have g4 : wr.cell? ⟨G, 4, none⟩ = some (.int .u64 ak) := by rw [HBR.out.cell (p := ⟨G, 4, none⟩) HGN.out.1]; exact HG.out.2.2.2.2.1
          have g5 : wr.cell? ⟨G, 5, none⟩ = some (.int .i64 aq) := by rw [HBR.out.cell (p := ⟨G, 5, none⟩) HGN.out.1]; exact HG.out.2.2.2.2.2.1
          have g6 : wr.cell? ⟨G, 6, none⟩ = some (.slice ai1 an1 ac1) := by rw [HBR.out.cell (p := ⟨G, 6, none⟩) HGN.out.1]; exact HG.out.2.2.2.2.2.2.1
          have g7 : wr.cell? ⟨G, 7, none⟩ = some (.slice ai2 an2 ac2) := by rw [HBR.out.cell (p := ⟨G, 7, none⟩) HGN.out.1]; exact HG.out.2.2.2.2.2.2.2
          have x11 : wr.cell? ⟨S, 1, none⟩ = some (.slice ai ni ci) := (HK1.out.below HB4.out (by omega)).cell 1
          have x12 : wr.cell? ⟨S, 2, none⟩ = some (.slice an nn cn) := (HK1.out.below HB4.out (by omega)).cell 2
          have hSw : S < wr.heap.size := by have := HGN.out; omega
          obtain ⟨A, hA⟩ : ∃ A, ((an1 : Int) != (ni : Int)) = A := ⟨_, rfl⟩
          obtain ⟨B, hB⟩ : ∃ B, ((an2 : Int) != (nn : Int)) = B := ⟨_, rfl⟩
          have HA1 : Hid (A = decide (an1 ≠ ni)) := Lib.hid (by rw [← hA, Bool.eq_iff_iff, bne_iff_ne, decide_eq_true_eq]; omega)
          have HB1' : Hid (B = decide (an2 ≠ nn)) := Lib.hid (by rw [← hB, Bool.eq_iff_iff, bne_iff_ne, decide_eq_true_eq]; omega)
          rcases A with _ | _
          · rcases B with _ | _
            · have HH : Hid (an1 = ni ∧ an2 = nn) := Lib.hid ⟨Classical.not_not.1 (of_decide_eq_false HA1.out.symm), Classical.not_not.1 (of_decide_eq_false HB1'.out.symm)⟩
              have HBN := Lib.hid (HBR.out.alloc hsz (.cells #[.int .u64 ak, .int .i64 aq, .slice ai1 an1 ac1, .slice ai2 an2 ac2] 41))
              have HCS := Lib.hid hcs
              clear hcs
              go_wp2_with fail
              go_roundg 0
              case measure => omega
              case rel =>
                have hh := HH.out
                have hcs := HCS.out
                exact ⟨.inr (.inr ⟨rfl, rfl, hcs.1, hcs.2, hh⟩), HBN.out⟩
            · have HLB : Hid (lensB s c a = false) := Lib.hid (by
                unfold lensB
                rw [HLN.out.1, HLN.out.2.1, HLN.out.2.2.1, HLN.out.2.2.2.1, HLN.out.2.2.2.2.1, HLN.out.2.2.2.2.2]
                refine decide_eq_false fun hh => ?_
                have := of_decide_eq_true HB1'.out.symm
                omega)
              have hb5 := HB4.out.alloc (show S + 5 ≤ wr.heap.size by have := HGN.out; omega) (.cells #[.int .u64 ak, .int .i64 aq, .slice ai1 an1 ac1, .slice ai2 an2 ac2] 41)
              have HB5 := Lib.hid hb5
              clear hb5
              have hkz := HK5.out.below HB5.out (by omega)
              have z0 : (wr.alloc (.cells #[.int .u64 ak, .int .i64 aq, .slice ai1 an1 ac1, .slice ai2 an2 ac2] 41)).cell? ⟨S + 4, 0, none⟩ = some (.bool false) := hkz.cell 0
              have z1 : (wr.alloc (.cells #[.int .u64 ak, .int .i64 aq, .slice ai1 an1 ac1, .slice ai2 an2 ac2] 41)).cell? ⟨S + 4, 1, none⟩ = some (.int .i64 0) := hkz.cell 1
              have z2 : (wr.alloc (.cells #[.int .u64 ak, .int .i64 aq, .slice ai1 an1 ac1, .slice ai2 an2 ac2] 41)).cell? ⟨S + 4, 2, none⟩ = some (.float .f64 0) := hkz.cell 2
              have zf : ∀ o, (wr.alloc (.cells #[.int .u64 ak, .int .i64 aq, .slice ai1 an1 ac1, .slice ai2 an2 ac2] 41)).frozen? ⟨S + 4, o, none⟩ = false := fun o => hkz.frozen o
              have HKZ := Lib.hid (hkz.three (.bool false) (.int .i64 0) (.float .f64 0))
              have HRZ := Lib.hid (RVal.mk (P := DVal s k m c a real) (r := false) (n := 0) (z := 0) (k := 3) (.inr (.inr (.inl ⟨HK.out, HMB.out, HLB.out, rfl, rfl, rfl, rfl⟩))) HSS.out HBW.out (Nat.le_add_right S 5) HB5.out)
              clear hkz
              go_wp2_with fail
              refine bodyPost_ret ?_ ?_ HRZ.out
              rotate_left
              · rfl
              · exact dval_results rfl rfl HKZ.out
          · have HLB : Hid (lensB s c a = false) := Lib.hid (by
              unfold lensB
              rw [HLN.out.1, HLN.out.2.1, HLN.out.2.2.1, HLN.out.2.2.2.1, HLN.out.2.2.2.2.1, HLN.out.2.2.2.2.2]
              refine decide_eq_false fun hh => ?_
              have := of_decide_eq_true HA1.out.symm
              omega)
            have hb5 := HB4.out.alloc (show S + 5 ≤ wr.heap.size by have := HGN.out; omega) (.cells #[.int .u64 ak, .int .i64 aq, .slice ai1 an1 ac1, .slice ai2 an2 ac2] 41)
            have HB5 := Lib.hid hb5
            clear hb5
            have hkz := HK5.out.below HB5.out (by omega)
            have z0 : (wr.alloc (.cells #[.int .u64 ak, .int .i64 aq, .slice ai1 an1 ac1, .slice ai2 an2 ac2] 41)).cell? ⟨S + 4, 0, none⟩ = some (.bool false) := hkz.cell 0
            have z1 : (wr.alloc (.cells #[.int .u64 ak, .int .i64 aq, .slice ai1 an1 ac1, .slice ai2 an2 ac2] 41)).cell? ⟨S + 4, 1, none⟩ = some (.int .i64 0) := hkz.cell 1
            have z2 : (wr.alloc (.cells #[.int .u64 ak, .int .i64 aq, .slice ai1 an1 ac1, .slice ai2 an2 ac2] 41)).cell? ⟨S + 4, 2, none⟩ = some (.float .f64 0) := hkz.cell 2
            have zf : ∀ o, (wr.alloc (.cells #[.int .u64 ak, .int .i64 aq, .slice ai1 an1 ac1, .slice ai2 an2 ac2] 41)).frozen? ⟨S + 4, o, none⟩ = false := fun o => hkz.frozen o
            have HKZ := Lib.hid (hkz.three (.bool false) (.int .i64 0) (.float .f64 0))
            have HRZ := Lib.hid (RVal.mk (P := DVal s k m c a real) (r := false) (n := 0) (z := 0) (k := 3) (.inr (.inr (.inl ⟨HK.out, HMB.out, HLB.out, rfl, rfl, rfl, rfl⟩))) HSS.out HBW.out (Nat.le_add_right S 5) HB5.out)
            clear hkz
            go_wp2_with fail
            refine bodyPost_ret ?_ ?_ HRZ.out
            rotate_left
            · rfl
            · exact dval_results rfl rfl HKZ.out
        · clear HBR HG HB3 HGN HN3 hsz
          have HLB : Hid (lensB s c a = true) := Lib.hid (by
            unfold lensB
            rw [HLN.out.1, HLN.out.2.1, HLN.out.2.2.1, HLN.out.2.2.2.1, HLN.out.2.2.2.2.1, HLN.out.2.2.2.2.2]
            exact decide_eq_true ⟨h1, h2, h3, h4⟩)
          have HOK : Hid (OkVal s k m c a) := Lib.hid ⟨HK.out, HMB.out, HLB.out⟩
          have HLL := Lib.hid (And.intro h1 (And.intro h2 (And.intro h3 h4)))
          clear h1 h2 h3 h4
          have x20 : wr.cell? ⟨S + 1, 0, none⟩ = some (.int .i64 k) := (HK2.out.below HB4.out (by omega)).cell 0
          have x21 : wr.cell? ⟨S + 1, 1, none⟩ = some (.int .i64 m) := (HK2.out.below HB4.out (by omega)).cell 1
          have x31 : wr.cell? ⟨S + 2, 1, none⟩ = some (.int .i64 cq) := (HK3.out.below HB4.out (by omega)).cell 1
          have x32 : wr.cell? ⟨S + 2, 2, none⟩ = some (.slice ci1 cn1 cc1) := (HK3.out.below HB4.out (by omega)).cell 2
          have x11 : wr.cell? ⟨S, 1, none⟩ = some (.slice ai ni ci) := (HK1.out.below HB4.out (by omega)).cell 1
          have hSw : S + 5 ≤ wr.heap.size := by have := HB4.out.size; rw [HSZ.out] at this; exact this
          by_cases hk0 : k = 0
          · rw [hk0] at x20
            have HK0 := Lib.hid hk0
            clear hk0
            go_wp2_with fail
            refine (dwhole_any _ cq).mono ?_; rintro e w5 ⟨rfl, hb5⟩
            have HB5 := Lib.hid (HB4.out.trans (hb5.mono hSw))
            clear hb5 x20 x21 x31 x32 x11
            have hkz := HK5.out.below HB5.out (by omega)
            have z0 : w5.cell? ⟨S + 4, 0, none⟩ = some (.bool false) := hkz.cell 0
            have z1 : w5.cell? ⟨S + 4, 1, none⟩ = some (.int .i64 0) := hkz.cell 1
            have z2 : w5.cell? ⟨S + 4, 2, none⟩ = some (.float .f64 0) := hkz.cell 2
            have zf : ∀ o, w5.frozen? ⟨S + 4, o, none⟩ = false := fun o => hkz.frozen o
            have HKZ := Lib.hid (hkz.three (.bool false) (.int .i64 cq) (.float .f64 0))
            have HRZ := Lib.hid (RVal.mk (P := DVal s k m c a real) (r := false) (n := cq) (z := 0) (k := 0) (.inr (.inr (.inr (.inl ⟨HOK.out, rfl, HK0.out, rfl, HV.out.2.1.symm, rfl⟩)))) HSS.out HBW.out (Nat.le_add_right S 5) HB5.out)
            clear hkz
            go_wp2_with fail
            refine bodyPost_ret ?_ ?_ HRZ.out
            rotate_left
            · rfl
            · exact dval_results rfl rfl HKZ.out
          have t0 : (k == 0) = false := by simpa using hk0
          have HK4C : Hid ((s.ints.length : Int) ≤ m → k ≤ 4) := Lib.hid (fun h => col_says4 HMB.out hk0 h)
          obtain ⟨hm0, hmn, hk1, hk6⟩ : 0 ≤ m ∧ m < (ni + nn : Nat) ∧ 1 ≤ k ∧ k ≤ 6 := col_says (by rw [← HLN.out.1, ← HLN.out.2.1]; exact HMB.out) hk0
          obtain ⟨mk, rfl⟩ : ∃ mk : Nat, m = (mk : Int) := ⟨m.toNat, by omega⟩
          by_cases hmi : ni ≤ mk
          · as_aux_lemma =>
            obtain ⟨j, hmj⟩ : ∃ j : Nat, mk = ni + j := ⟨mk - ni, by omega⟩
            have hj : j < cn2 := by have := HLL.out.2.1; omega
            have hMJ : (mk : Int) = ni + j := by omega
            clear hmi hmj
            generalize ((mk : Nat) : Int) = M at *
            clear mk
            have HMJ := Lib.hid hMJ
            have t1 : decide ((ni : Int) ≤ M) = true := decide_eq_true (by omega)
            have hM0 : (ni : Int) ≤ M := by omega
            obtain ⟨b, off, e, hbl, hcw⟩ := (HC.out.2.2.1.below HB4.out (Nat.le_of_eq HSZ.out)).at (by show 0 < cn2; omega)
            simp only at e
            subst e
            have c0 := hcw (j * 3) (by show j * 3 < cn2 * 3; omega)
            have c1 := hcw (j * 3 + 1) (by show j * 3 + 1 < cn2 * 3; omega)
            have c2 := hcw (j * 3 + 2) (by show j * 3 + 2 < cn2 * 3; omega)
            obtain ⟨p0, p1, p2⟩ := relCells_get (ds := c.nums) (i := j) (by rw [HLN.out.2.2.2.1]; exact hj)
            have HW := Lib.hid (HC.out.2.2.2.2.2.2.2 (relAt c.nums j) (relAt_mem (by rw [HLN.out.2.2.2.1]; exact hj)))
            have HRE := Lib.hid (hre hk1 (HK4C.out (by rw [HLN.out.1]; omega)) (by rw [HLN.out.1]; omega) (by rw [HLN.out.1, HLN.out.2.2.2.1]; omega))
            rw [show M - (s.ints.length : Int) = (j : Int) from by rw [HLN.out.1]; omega, Int.toNat_natCast, HV.out.2.1] at HRE
            obtain ⟨X, hX⟩ : ∃ x, relAt c.nums j = x := ⟨_, rfl⟩
            rw [hX] at p0 p1 p2 HW HRE
            obtain ⟨xs, xqa, xqn, xqc, xmin, xmax⟩ := X
            simp only at p0 p1 p2 HRE
            rw [p0] at c0
            rw [p1, ← Nat.add_assoc] at c1
            rw [p2, ← Nat.add_assoc] at c2
            have HMI : Hid ((s.ints.length : Int) ≤ M) := Lib.hid (by rw [HLN.out.1]; omega)
            have HK0 := Lib.hid hk0
            have x33 : wr.cell? ⟨S + 2, 3, none⟩ = some (.slice (some ⟨b, off, none⟩) cn2 cc2) := (HK3.out.below HB4.out (by omega)).cell 3
            have t5 : IntKind.i64.wrap (M - (ni : Int)) = (j : Int) := by rw [show M - (ni : Int) = j from by omega]; exact IntWalk.i64_in _ ⟨by omega, by omega⟩
            clear hMJ
            clear p0 p1 p2 hcw hbl hX hk1 hk6 hk0 HK4C
            go_upto_region 14 with fail
            go_still_tail 14, (by kernel_rfl)
            change wpList _ _ _ _ _ wr.drew
            have HB9 := Lib.hid (HB4.out.drew)
            clear x20 x21 x31 x32 x33 x11 c0 c1 c2 t0 t1 t5 hSw
            generalize wr.drew = w7 at *
            go_wp2_with fail
            refine (HRE.out w7 ⟨HW.out.1.below HB9.out (Nat.le_of_eq HSZ.out), HW.out.2⟩).mono ?_; rintro e w5 ⟨z, rfl, hz, hb5⟩
            have HZ := Lib.hid hz
            have HB7 := Lib.hid (HB9.out.trans (hb5.mono (by have := HB9.out.size; rw [HSZ.out] at this; exact this)))
            clear hz hb5 HRE
            have hkz := HK5.out.below HB7.out (by omega)
            have z0 : w5.cell? ⟨S + 4, 0, none⟩ = some (.bool false) := hkz.cell 0
            have z1 : w5.cell? ⟨S + 4, 1, none⟩ = some (.int .i64 0) := hkz.cell 1
            have z2 : w5.cell? ⟨S + 4, 2, none⟩ = some (.float .f64 0) := hkz.cell 2
            have zf : ∀ o, w5.frozen? ⟨S + 4, o, none⟩ = false := fun o => hkz.frozen o
            have HKZ := Lib.hid (hkz.three (.bool true) (.int .i64 0) (.float .f64 z))
            have HRZ := Lib.hid (RVal.mk (P := DVal s k M c a real) (r := true) (n := 0) (z := z) (k := 0) (.inr (.inr (.inr (.inr (.inr ⟨HOK.out, rfl, HK0.out, HMI.out, HZ.out⟩))))) HSS.out HBW.out (Nat.le_add_right S 5) HB7.out)
            clear hkz
            go_wp2_with fail
            refine bodyPost_ret ?_ ?_ HRZ.out
            rotate_left
            · rfl
            · exact dval_results rfl rfl HKZ.out
          have t1 : decide ((ni : Int) ≤ (mk : Int)) = false := decide_eq_false (by omega)
          have t1' : decide (ni ≤ mk) = false := decide_eq_false hmi
          have hmlt : mk < cn1 := by have := HLL.out.1; omega
          obtain ⟨b, off, e, hbl, hcw⟩ := (HC.out.1.below HB4.out (Nat.le_of_eq HSZ.out)).at (by show 0 < cn1; omega)
          simp only at e
          subst e
          have c0 := hcw (mk * 5) (by show mk * 5 < cn1 * 5; omega)
          have c1 := hcw (mk * 5 + 1) (by show mk * 5 + 1 < cn1 * 5; omega)
          have c2 := hcw (mk * 5 + 2) (by show mk * 5 + 2 < cn1 * 5; omega)
          have c3 := hcw (mk * 5 + 3) (by show mk * 5 + 3 < cn1 * 5; omega)
          have c4 := hcw (mk * 5 + 4) (by show mk * 5 + 4 < cn1 * 5; omega)
          obtain ⟨p0, p1, p2, p3, p4⟩ := whlCells_get (ds := c.ints) (i := mk) (by rw [HLN.out.2.2.1]; exact hmlt)
          have HW := Lib.hid (HC.out.2.2.2.2.2.2.1 (whlAt c.ints mk) (whlAt_mem (by rw [HLN.out.2.2.1]; exact hmlt)))
          obtain ⟨X, hX⟩ : ∃ x, whlAt c.ints mk = x := ⟨_, rfl⟩
          rw [hX] at p0 p1 p2 p3 p4 HW
          obtain ⟨xs, xa, xq, xqa, xqn, xqc, xmin, xmax⟩ := X
          simp only at p0 p1 p2 p3 p4
          rw [p0] at c0
          rw [p1, ← Nat.add_assoc] at c1
          rw [p2, ← Nat.add_assoc] at c2
          rw [p3, ← Nat.add_assoc] at c3
          rw [p4, ← Nat.add_assoc] at c4
          have HQL := Lib.hid (hsq.out (whlAt c.ints mk) (whlAt_mem (by rw [HLN.out.2.2.1]; exact hmlt)))
          rw [hX] at HQL
          have HCQ : Hid (I64 cq) := Lib.hid (by rw [← HV.out.2.1]; exact HC.out.2.2.2.2.2.1)
          have HX := Lib.hid hX
          have HMI : Hid ((mk : Int) < (s.ints.length : Int)) := Lib.hid (by rw [HLN.out.1]; omega)
          clear p0 p1 p2 p3 p4 hcw hbl hX
          have hcase : k = 1 ∨ k = 2 ∨ k = 3 ∨ k = 4 ∨ k = 5 ∨ k = 6 := by omega
          obtain ⟨hbD, hbwD, hszD⟩ := boxed wr 36 #[.int .i64 xs, .int .i64 xa, .slice xqa xqn xqc, .int .i64 xmin, .int .i64 xmax]
          have g0 := hbD 0
          have g1 := hbD 1
          have g2 := hbD 2
          have g3 := hbD 3
          have g4 := hbD 4
          simp only [List.getElem?_toArray, List.getElem?_cons_zero, List.getElem?_cons_succ] at g0 g1 g2 g3 g4
          have HB6 : Hid (Below (S + 5) w0 (wr.alloc (.cells #[.int .i64 xs, .int .i64 xa, .slice xqa xqn xqc, .int .i64 xmin, .int .i64 xmax] 36))) := Lib.hid (HB4.out.trans (hbwD.mono hSw))
          clear hbD hbwD hszD g1
          go_upto_region 16 with fail
          generalize (wr.alloc (.cells #[.int .i64 xs, .int .i64 xa, .slice xqa xqn xqc, .int .i64 xmin, .int .i64 xmax] 36)) = w4 at *
          generalize wr.heap.size = D at *
          clear x20 x21 x31 x32 x11 c0 c1 c2 c3 c4 t0 t1 t1' HB4 hSw
          have hSw : S + 5 ≤ w4.heap.size := by have := HB6.out.size; rw [HSZ.out] at this; exact this
          have HG := Lib.hid (And.intro g0 (And.intro g2 (And.intro g3 g4)))
          clear g0 g2 g3 g4
          have hkx := HKM.out.1
          have HK0 := Lib.hid hk0
          clear hk0
          rcases hcase with hkn | hkn | hkn | hkn | hkn | hkn
          · as_aux_lemma =>
            have HKN := Lib.hid hkn
            have x20 : w4.cell? ⟨S + 1, 0, none⟩ = some (.int .i64 1) := by rw [← HKN.out]; exact (HK2.out.below HB6.out (by omega)).cell 0
            have x21 : w4.cell? ⟨S + 1, 1, none⟩ = some (.int .i64 (mk : Int)) := (HK2.out.below HB6.out (by omega)).cell 1
            have x31 : w4.cell? ⟨S + 2, 1, none⟩ = some (.int .i64 cq) := (HK3.out.below HB6.out (by omega)).cell 1
            obtain ⟨g0, g2, g3, g4⟩ := HG.out
            clear hkn hk1 hk6
            go_wp2_with fail
            refine (dwhole_any _ xs).mono ?_; rintro e w5 ⟨rfl, hb5⟩
            have HB7 := Lib.hid (HB6.out.trans (hb5.mono hSw))
            clear hb5 x20 x21 x31 g0 g2 g3 g4
            have hkz := HK5.out.below HB7.out (by omega)
            have z0 : w5.cell? ⟨S + 4, 0, none⟩ = some (.bool false) := hkz.cell 0
            have z1 : w5.cell? ⟨S + 4, 1, none⟩ = some (.int .i64 0) := hkz.cell 1
            have z2 : w5.cell? ⟨S + 4, 2, none⟩ = some (.float .f64 0) := hkz.cell 2
            have zf : ∀ o, w5.frozen? ⟨S + 4, o, none⟩ = false := fun o => hkz.frozen o
            have HKZ := Lib.hid (hkz.three (.bool false) (.int .i64 xs) (.float .f64 0))
            have HRZ := Lib.hid (RVal.mk (P := DVal s k (mk : Int) c a real) (r := false) (n := xs) (z := 0) (k := 0) (.inr (.inr (.inr (.inr (.inl ⟨HOK.out, rfl, HK0.out, HMI.out, by rw [Int.toNat_natCast, HX.out]; exact .inl ⟨HKN.out, rfl, rfl, rfl⟩⟩))))) HSS.out HBW.out (Nat.le_add_right S 5) HB7.out)
            clear hkz
            go_wp2_with fail
            refine bodyPost_ret ?_ ?_ HRZ.out
            rotate_left
            · rfl
            · exact dval_results rfl rfl HKZ.out
          · as_aux_lemma =>
            have HKN := Lib.hid hkn
            have x20 : w4.cell? ⟨S + 1, 0, none⟩ = some (.int .i64 2) := by rw [← HKN.out]; exact (HK2.out.below HB6.out (by omega)).cell 0
            have x21 : w4.cell? ⟨S + 1, 1, none⟩ = some (.int .i64 (mk : Int)) := (HK2.out.below HB6.out (by omega)).cell 1
            have x31 : w4.cell? ⟨S + 2, 1, none⟩ = some (.int .i64 cq) := (HK3.out.below HB6.out (by omega)).cell 1
            obtain ⟨g0, g2, g3, g4⟩ := HG.out
            clear hkn hk1 hk6
            go_wp2_with fail
            refine (dwhole_any _ xmin).mono ?_; rintro e w5 ⟨rfl, hb5⟩
            have HB7 := Lib.hid (HB6.out.trans (hb5.mono hSw))
            clear hb5 x20 x21 x31 g0 g2 g3 g4
            have hkz := HK5.out.below HB7.out (by omega)
            have z0 : w5.cell? ⟨S + 4, 0, none⟩ = some (.bool false) := hkz.cell 0
            have z1 : w5.cell? ⟨S + 4, 1, none⟩ = some (.int .i64 0) := hkz.cell 1
            have z2 : w5.cell? ⟨S + 4, 2, none⟩ = some (.float .f64 0) := hkz.cell 2
            have zf : ∀ o, w5.frozen? ⟨S + 4, o, none⟩ = false := fun o => hkz.frozen o
            have HKZ := Lib.hid (hkz.three (.bool false) (.int .i64 xmin) (.float .f64 0))
            have HRZ := Lib.hid (RVal.mk (P := DVal s k (mk : Int) c a real) (r := false) (n := xmin) (z := 0) (k := 0) (.inr (.inr (.inr (.inr (.inl ⟨HOK.out, rfl, HK0.out, HMI.out, by rw [Int.toNat_natCast, HX.out]; exact .inr (.inl ⟨HKN.out, rfl, rfl, rfl⟩)⟩))))) HSS.out HBW.out (Nat.le_add_right S 5) HB7.out)
            clear hkz
            go_wp2_with fail
            refine bodyPost_ret ?_ ?_ HRZ.out
            rotate_left
            · rfl
            · exact dval_results rfl rfl HKZ.out
          · as_aux_lemma =>
            have HKN := Lib.hid hkn
            have x20 : w4.cell? ⟨S + 1, 0, none⟩ = some (.int .i64 3) := by rw [← HKN.out]; exact (HK2.out.below HB6.out (by omega)).cell 0
            have x21 : w4.cell? ⟨S + 1, 1, none⟩ = some (.int .i64 (mk : Int)) := (HK2.out.below HB6.out (by omega)).cell 1
            have x31 : w4.cell? ⟨S + 2, 1, none⟩ = some (.int .i64 cq) := (HK3.out.below HB6.out (by omega)).cell 1
            obtain ⟨g0, g2, g3, g4⟩ := HG.out
            clear hkn hk1 hk6
            go_wp2_with fail
            refine (dwhole_any _ xmax).mono ?_; rintro e w5 ⟨rfl, hb5⟩
            have HB7 := Lib.hid (HB6.out.trans (hb5.mono hSw))
            clear hb5 x20 x21 x31 g0 g2 g3 g4
            have hkz := HK5.out.below HB7.out (by omega)
            have z0 : w5.cell? ⟨S + 4, 0, none⟩ = some (.bool false) := hkz.cell 0
            have z1 : w5.cell? ⟨S + 4, 1, none⟩ = some (.int .i64 0) := hkz.cell 1
            have z2 : w5.cell? ⟨S + 4, 2, none⟩ = some (.float .f64 0) := hkz.cell 2
            have zf : ∀ o, w5.frozen? ⟨S + 4, o, none⟩ = false := fun o => hkz.frozen o
            have HKZ := Lib.hid (hkz.three (.bool false) (.int .i64 xmax) (.float .f64 0))
            have HRZ := Lib.hid (RVal.mk (P := DVal s k (mk : Int) c a real) (r := false) (n := xmax) (z := 0) (k := 0) (.inr (.inr (.inr (.inr (.inl ⟨HOK.out, rfl, HK0.out, HMI.out, by rw [Int.toNat_natCast, HX.out]; exact .inr (.inr (.inl ⟨HKN.out, rfl, rfl, rfl⟩))⟩))))) HSS.out HBW.out (Nat.le_add_right S 5) HB7.out)
            clear hkz
            go_wp2_with fail
            refine bodyPost_ret ?_ ?_ HRZ.out
            rotate_left
            · rfl
            · exact dval_results rfl rfl HKZ.out
          · as_aux_lemma =>
            have HKN := Lib.hid hkn
            have x20 : w4.cell? ⟨S + 1, 0, none⟩ = some (.int .i64 4) := by rw [← HKN.out]; exact (HK2.out.below HB6.out (by omega)).cell 0
            have x21 : w4.cell? ⟨S + 1, 1, none⟩ = some (.int .i64 (mk : Int)) := (HK2.out.below HB6.out (by omega)).cell 1
            have x31 : w4.cell? ⟨S + 2, 1, none⟩ = some (.int .i64 cq) := (HK3.out.below HB6.out (by omega)).cell 1
            obtain ⟨g0, g2, g3, g4⟩ := HG.out
            clear hkn hk1 hk6
            have HMC := Lib.hid (fun w => fmean_any xs cq w HW.out.2.2.1.1 HW.out.2.2.1.2 HCQ.out.1 HCQ.out.2)
            go_wp2_with fail
            refine (HMC.out _).mono ?_; rintro e w5 ⟨z, rfl, hz, hb5⟩
            have HZ := Lib.hid hz
            clear hz
            have HB7 := Lib.hid (HB6.out.trans (hb5.mono hSw))
            clear hb5 x20 x21 x31 g0 g2 g3 g4
            go_wp2_with fail
            refine (dreal_any _ z).mono ?_; rintro e w6 ⟨rfl, hb6⟩
            have HB8 := Lib.hid (HB7.out.trans (hb6.mono (by have := HB7.out.size; rw [HSZ.out] at this; exact this)))
            clear hb6
            have hkz := HK5.out.below HB8.out (by omega)
            have z0 : w6.cell? ⟨S + 4, 0, none⟩ = some (.bool false) := hkz.cell 0
            have z1 : w6.cell? ⟨S + 4, 1, none⟩ = some (.int .i64 0) := hkz.cell 1
            have z2 : w6.cell? ⟨S + 4, 2, none⟩ = some (.float .f64 0) := hkz.cell 2
            have zf : ∀ o, w6.frozen? ⟨S + 4, o, none⟩ = false := fun o => hkz.frozen o
            have HKZ := Lib.hid (hkz.three (.bool true) (.int .i64 0) (.float .f64 z))
            have HRZ := Lib.hid (RVal.mk (P := DVal s k (mk : Int) c a real) (r := true) (n := 0) (z := z) (k := 0) (.inr (.inr (.inr (.inr (.inl ⟨HOK.out, rfl, HK0.out, HMI.out, by rw [Int.toNat_natCast, HX.out]; exact .inr (.inr (.inr (.inl ⟨HKN.out, rfl, rfl, (by show IsMean _ c.count z; rw [HV.out.2.1]; exact HZ.out)⟩)))⟩))))) HSS.out HBW.out (Nat.le_add_right S 5) HB8.out)
            clear hkz
            go_wp2_with fail
            refine bodyPost_ret ?_ ?_ HRZ.out
            rotate_left
            · rfl
            · exact dval_results rfl rfl HKZ.out
          · as_aux_lemma =>
            have HKN := Lib.hid hkn
            have x20 : w4.cell? ⟨S + 1, 0, none⟩ = some (.int .i64 5) := by rw [← HKN.out]; exact (HK2.out.below HB6.out (by omega)).cell 0
            have x21 : w4.cell? ⟨S + 1, 1, none⟩ = some (.int .i64 (mk : Int)) := (HK2.out.below HB6.out (by omega)).cell 1
            have x31 : w4.cell? ⟨S + 2, 1, none⟩ = some (.int .i64 cq) := (HK3.out.below HB6.out (by omega)).cell 1
            obtain ⟨g0, g2, g3, g4⟩ := HG.out
            clear hkn hk1 hk6
            obtain ⟨KQ, hKQ, hSQ, hVQ⟩ := sq_bound HW.out.2.1 (by rw [HW.out.1.1]; exact HQL.out)
            obtain ⟨SQ, hSQ'⟩ : ∃ x, (V 4294967296 xq).toNat = x := ⟨_, rfl⟩
            rw [hSQ'] at hSQ hVQ
            have HMC := Lib.hid (fdev_any cq xs xqa xqn xqc SQ KQ xq w4 (HW.out.1.below HB6.out (Nat.le_of_eq HSZ.out)) HW.out.2.1 hVQ (Nat.le_trans HQL.out (by decide)) hSQ hKQ HW.out.2.2.1.1 HW.out.2.2.1.2 HCQ.out.1 HCQ.out.2)
            have HSQ := Lib.hid hSQ'
            clear hKQ hSQ hVQ hSQ'
            go_wp2_with fail
            refine (HMC.out).mono ?_; rintro e w5 ⟨z, rfl, hz, hb5⟩
            have HZ := Lib.hid (show IsDev cq xs (V 4294967296 xq).toNat z by rw [HSQ.out]; exact hz)
            clear hz HMC
            have HB7 := Lib.hid (HB6.out.trans (hb5.mono hSw))
            clear hb5 x20 x21 x31 g0 g2 g3 g4
            go_wp2_with fail
            refine (dreal_any _ z).mono ?_; rintro e w6 ⟨rfl, hb6⟩
            have HB8 := Lib.hid (HB7.out.trans (hb6.mono (by have := HB7.out.size; rw [HSZ.out] at this; exact this)))
            clear hb6
            have hkz := HK5.out.below HB8.out (by omega)
            have z0 : w6.cell? ⟨S + 4, 0, none⟩ = some (.bool false) := hkz.cell 0
            have z1 : w6.cell? ⟨S + 4, 1, none⟩ = some (.int .i64 0) := hkz.cell 1
            have z2 : w6.cell? ⟨S + 4, 2, none⟩ = some (.float .f64 0) := hkz.cell 2
            have zf : ∀ o, w6.frozen? ⟨S + 4, o, none⟩ = false := fun o => hkz.frozen o
            have HKZ := Lib.hid (hkz.three (.bool true) (.int .i64 0) (.float .f64 z))
            have HRZ := Lib.hid (RVal.mk (P := DVal s k (mk : Int) c a real) (r := true) (n := 0) (z := z) (k := 0) (.inr (.inr (.inr (.inr (.inl ⟨HOK.out, rfl, HK0.out, HMI.out, by rw [Int.toNat_natCast, HX.out]; exact .inr (.inr (.inr (.inr (.inl ⟨HKN.out, rfl, rfl, (by show IsDev c.count _ _ z; rw [HV.out.2.1]; exact HZ.out)⟩))))⟩))))) HSS.out HBW.out (Nat.le_add_right S 5) HB8.out)
            clear hkz
            go_wp2_with fail
            refine bodyPost_ret ?_ ?_ HRZ.out
            rotate_left
            · rfl
            · exact dval_results rfl rfl HKZ.out
          · as_aux_lemma =>
            have HKN := Lib.hid hkn
            have x20 : w4.cell? ⟨S + 1, 0, none⟩ = some (.int .i64 6) := by rw [← HKN.out]; exact (HK2.out.below HB6.out (by omega)).cell 0
            have x21 : w4.cell? ⟨S + 1, 1, none⟩ = some (.int .i64 (mk : Int)) := (HK2.out.below HB6.out (by omega)).cell 1
            have x31 : w4.cell? ⟨S + 2, 1, none⟩ = some (.int .i64 cq) := (HK3.out.below HB6.out (by omega)).cell 1
            obtain ⟨g0, g2, g3, g4⟩ := HG.out
            clear hkn hk1 hk6
            obtain ⟨b', off', e', hbl', hcw'⟩ := (HA.out.1.below HB6.out (Nat.le_of_eq HSZ.out)).at (by show 0 < an1; have := HLL.out; omega)
            simp only at e'
            subst e'
            have hml2 : mk < an1 := by have := HLL.out; omega
            have c0 := hcw' (mk * 5) (by show mk * 5 < an1 * 5; omega)
            obtain ⟨p0, -⟩ := whlCells_get (ds := a.ints) (i := mk) (by rw [HLN.out.2.2.2.2.1]; exact hml2)
            have HW2 := Lib.hid (HA.out.2.2.2.2.2.2.1 (whlAt a.ints mk) (whlAt_mem (by rw [HLN.out.2.2.2.2.1]; exact hml2)))
            obtain ⟨Y, hY⟩ : ∃ x, whlAt a.ints mk = x := ⟨_, rfl⟩
            rw [hY] at p0 HW2
            obtain ⟨ys, ya, yq, yqa, yqn, yqc, ymin, ymax⟩ := Y
            simp only at p0
            rw [p0] at c0
            have HY := Lib.hid hY
            clear p0 hY hcw' hbl'
            have x42 : w4.cell? ⟨S + 3, 2, none⟩ = some (.slice (some ⟨b', off', none⟩) an1 ac1) := (HK4.out.below HB6.out (by omega)).cell 2
            have HMC := Lib.hid (fun w => fmean_any xs ys w HW.out.2.2.1.1 HW.out.2.2.1.2 HW2.out.2.2.1.1 HW2.out.2.2.1.2)
            go_upto_region 27 with fail
            go_still_tail 9, (by kernel_rfl)
            change wpList _ _ _ _ _ w4.drew
            have HB9 := Lib.hid (HB6.out.drew)
            clear x20 x21 x31 x42 c0 g0 g2 g3 g4 hSw
            generalize w4.drew = w7 at *
            go_wp2_with fail
            refine (HMC.out _).mono ?_; rintro e w5 ⟨z, rfl, hz, hb5⟩
            have HZ := Lib.hid hz
            have HB7 := Lib.hid (HB9.out.trans (hb5.mono (by have := HB9.out.size; rw [HSZ.out] at this; exact this)))
            clear hz hb5 HMC
            go_wp2_with fail
            refine (dreal_any _ z).mono ?_; rintro e w6 ⟨rfl, hb6⟩
            have HB8 := Lib.hid (HB7.out.trans (hb6.mono (by have := HB7.out.size; rw [HSZ.out] at this; exact this)))
            clear hb6
            have hkz := HK5.out.below HB8.out (by omega)
            have z0 : w6.cell? ⟨S + 4, 0, none⟩ = some (.bool false) := hkz.cell 0
            have z1 : w6.cell? ⟨S + 4, 1, none⟩ = some (.int .i64 0) := hkz.cell 1
            have z2 : w6.cell? ⟨S + 4, 2, none⟩ = some (.float .f64 0) := hkz.cell 2
            have zf : ∀ o, w6.frozen? ⟨S + 4, o, none⟩ = false := fun o => hkz.frozen o
            have HKZ := Lib.hid (hkz.three (.bool true) (.int .i64 0) (.float .f64 z))
            have HRZ := Lib.hid (RVal.mk (P := DVal s k (mk : Int) c a real) (r := true) (n := 0) (z := z) (k := 0) (.inr (.inr (.inr (.inr (.inl ⟨HOK.out, rfl, HK0.out, HMI.out, by rw [Int.toNat_natCast, HX.out, HY.out]; exact .inr (.inr (.inr (.inr (.inr ⟨HKN.out, rfl, rfl, HZ.out⟩))))⟩))))) HSS.out HBW.out (Nat.le_add_right S 5) HB8.out)
            clear hkz
            go_wp2_with fail
            refine bodyPost_ret ?_ ?_ HRZ.out
            rotate_left
            · rfl
            · exact dval_results rfl rfl HKZ.out
end Go.Proofs.Ytdbkgpakpadloaa
