/- Filters in memory, and the contracts of package schema's Full and package filter's Check. No conditions but those stated. -/
import Derived.Test.YtdbkgpakpadloaaSchB
namespace Go.Proofs.Ytdbkgpakpadloaa
open Go.RowKit

structure Flt where
  dim : Int
  codes : List Int
  a : Option Addr
  n : Nat
  c : Nat
def fltCells : List Flt → List Value
  | [] => []
  | f :: fs => .int .i64 f.dim :: .slice f.a f.n f.c :: fltCells fs
def fltAt (fs : List Flt) (i : Nat) : Flt := fs.getD i ⟨0, [], none, 0, 0⟩
theorem fltCells_get : ∀ {fs : List Flt} {i : Nat}, i < fs.length → (fltCells fs).getD (i * 2) undef = .int .i64 (fltAt fs i).dim ∧ (fltCells fs).getD (i * 2 + 1) undef = .slice (fltAt fs i).a (fltAt fs i).n (fltAt fs i).c
  | [], _, h => by simp at h
  | d :: ds, 0, _ => ⟨rfl, rfl⟩
  | d :: ds, i + 1, h => by
    have h2 := fltCells_get (fs := ds) (i := i) (by simpa using h)
    rw [show (i + 1) * 2 = i * 2 + 1 + 1 from by omega]
    simpa [fltCells, fltAt] using h2
theorem fltAt_mem {fs : List Flt} {i : Nat} (h : i < fs.length) : fltAt fs i ∈ fs := by
  unfold fltAt; rw [List.getD_eq_getElem?_getD, List.getElem?_eq_getElem h]; exact List.getElem_mem h
def FltsAt (w : World) (a : Option Addr) (n c : Nat) (fs : List Flt) : Prop :=
  RowG 2 w a n c (fltCells fs) ∧ fs.length = n ∧ ∀ f ∈ fs, RowK .i64 w f.a f.n f.c f.codes ∧ -9223372036854775808 ≤ f.dim ∧ f.dim ≤ 9223372036854775807 ∧ ∀ x ∈ f.codes, -9223372036854775808 ≤ x ∧ x ≤ 9223372036854775807
theorem FltsAt.below {w w' : World} {a : Option Addr} {n c : Nat} {fs : List Flt} {B : Nat} (h : FltsAt w a n c fs) (hb : Below B w w') (hB : w.heap.size ≤ B) : FltsAt w' a n c fs :=
  ⟨h.1.below hb hB, h.2.1, fun f hf => ⟨(h.2.2 f hf).1.below hb hB, (h.2.2 f hf).2⟩⟩
def codesOk (z : Int) (cs : List Int) : Nat → Nat → Bool
  | 0, _ => true
  | g + 1, i => if cs.getD i 0 < 0 ∨ z ≤ cs.getD i 0 then false else codesOk z cs g (i + 1)
theorem codesOk_succ (z : Int) (cs : List Int) (g i : Nat) : codesOk z cs (g + 1) i = if cs.getD i 0 < 0 ∨ z ≤ cs.getD i 0 then false else codesOk z cs g (i + 1) := rfl
def fltsN (ds : List (ByteArray × Int)) (fs : List Flt) : Nat → Nat → Nat
  | 0, _ => 0
  | g + 1, i => if (fltAt fs i).dim < 0 ∨ (ds.length : Int) ≤ (fltAt fs i).dim then 11 else if 4096 < (fltAt fs i).codes.length then 3
    else if codesOk (dimAt ds (fltAt fs i).dim.toNat).2 (fltAt fs i).codes (fltAt fs i).codes.length 0 = false then 2 else fltsN ds fs g (i + 1)
theorem fltsN_succ (ds : List (ByteArray × Int)) (fs : List Flt) (g i : Nat) : fltsN ds fs (g + 1) i = if (fltAt fs i).dim < 0 ∨ (ds.length : Int) ≤ (fltAt fs i).dim then 11 else if 4096 < (fltAt fs i).codes.length then 3
    else if codesOk (dimAt ds (fltAt fs i).dim.toNat).2 (fltAt fs i).codes (fltAt fs i).codes.length 0 = false then 2 else fltsN ds fs g (i + 1) := rfl
noncomputable def fchk (s : Sch) (fs : List Flt) : Nat := if chkS s ≠ 0 then 1 else if 20 < fs.length then 3 else fltsN s.dims fs fs.length 0
def RErr (k : Nat) (w : World) (e : Ending) (w' : World) : Prop := e = .returned (.int .i64 (k : Int)) ∧ Below w.heap.size w w'
theorem RErr.mk {w w' : World} {k k' S N : Nat} {w0 : World} (hc : k = k') (hS : w.heap.size = S) (hbw : Below S w w0) (hn : S < N) (hb : Below N w0 w') : RErr k w (.returned (.int .i64 (k' : Int))) w' := by
  subst hS
  exact ⟨by rw [hc], hbw.trans (hb.mono (Nat.le_of_lt hn))⟩
noncomputable def fullS (s : Sch) : Int := if chkS s = 0 then 2 ^ s.dims.length - 1 else 0
theorem chk_dims {s : Sch} (h : chkS s = 0) : s.dims.length ≤ 6 ∧ 0 < s.dims.length ∧ s.ints.length ≤ 3 ∧ s.nums.length ≤ 2 := by
  have hc : cntB s = false := by
    rcases hq : cntB s with _ | _
    · rfl
    · rw [chk_cnt hq] at h; omega
  unfold cntB at hc
  simp only [Bool.or_eq_false_iff, decide_eq_false_iff_not] at hc
  omega

set_option maxHeartbeats 2000000 in
theorem full_any (w : World) (l : SchL) (s : Sch) (h : SchAt w l s) :
    Calls Try.prog 38 #[l.val] w fun e w' => e = .returned (.int .u32 (fullS s)) ∧ Below w.heap.size w w' := by
  obtain ⟨ad, nd, cd, ai, ni, ci, an, nn, cn, av, nv, cv⟩ := l
  have HND := Lib.hid (show s.dims.length = nd from h.2.1)
  obtain ⟨hbx, hbw, hsz⟩ := boxed w 34 #[.slice ad nd cd, .slice ai ni ci, .slice an nn cn, .slice av nv cv]
  have HS := Lib.hid (h.below hbw (Nat.le_refl _))
  have HBW := Lib.hid hbw
  obtain ⟨N, hN⟩ : ∃ N, (w.alloc (.cells #[.slice ad nd cd, .slice ai ni ci, .slice an nn cn, .slice av nv cv] 34)).heap.size = N := ⟨_, rfl⟩
  have HN1 : Hid (w.heap.size < N) := Lib.hid (by rw [← hN, hsz]; omega)
  have e0 := hbx 0
  have e1 := hbx 1
  have e2 := hbx 2
  have e3 := hbx 3
  simp only [List.getElem?_toArray, List.getElem?_cons_zero, List.getElem?_cons_succ] at e0 e1 e2 e3
  have HE0 := Lib.hid e0
  obtain ⟨K, hK⟩ : ∃ K, chkS s = K := ⟨_, rfl⟩
  have HK := Lib.hid hK
  clear h hbw hbx hsz hK
  unfold SchL.val
  go_enter Try.func38, Try.ntmps38
  go_upto_region 1 with fail
  generalize (w.alloc (.cells #[.slice ad nd cd, .slice ai ni ci, .slice an nn cn, .slice av nv cv] 34)) = w0 at *
  generalize hS : w.heap.size = S at *
  have HSS := Lib.hid hS
  have HN := Lib.hid hN
  clear hS hN
  go_wp2_with fail
  refine (schk_any _ ⟨ad, nd, cd, ai, ni, ci, an, nn, cn, av, nv, cv⟩ s HS.out).mono ?_
  rintro e w1 ⟨rfl, hb1⟩
  rw [HK.out]
  have HB1 : Hid (Below N w0 w1) := Lib.hid (by rw [← HN.out]; exact hb1)
  clear hb1 e0 e1 e2 e3
  by_cases hk0 : K = 0
  · subst hk0
    obtain ⟨b1, b2, -, -⟩ := chk_dims HK.out
    rw [HND.out] at b1 b2
    have e0 : w1.cell? ⟨S, 0, none⟩ = some (.slice ad nd cd) := by rw [HB1.out.cell (p := ⟨S, 0, none⟩) HN1.out]; exact HE0.out
    go_wp2_with fail
    go_ret
    refine ⟨?_, by rw [HSS.out]; exact HBW.out.trans (HB1.out.mono (Nat.le_of_lt HN1.out))⟩
    unfold fullS
    rw [if_pos HK.out, HND.out, ← (full_is b1).1]
    rfl
  · have hk1 : ((K : Int) == 0) = false := by simp; omega
    have hk2 : ((K : Int) != 0) = true := by simp; omega
    have HF : Hid (fullS s = 0) := Lib.hid (by unfold fullS; rw [if_neg (by rw [HK.out]; exact hk0)])
    clear hk0
    go_wp2_with fail
    go_ret
    exact ⟨by rw [HF.out]; rfl, by rw [HSS.out]; exact HBW.out.trans (HB1.out.mono (Nat.le_of_lt HN1.out))⟩

set_option maxRecDepth 100000 in
set_option maxHeartbeats 4000000 in
theorem fchk_any (w : World) (l : SchL) (s : Sch) (fa : Option Addr) (fn fc : Nat) (fs : List Flt) (h : SchAt w l s) (hf : FltsAt w fa fn fc fs) :
    Calls Try.prog 39 #[l.val, .slice fa fn fc] w (RErr (fchk s fs) w) := by
  obtain ⟨ad, nd, cd, ai, ni, ci, an, nn, cn, av, nv, cv⟩ := l
  have HND := Lib.hid (show s.dims.length = nd from h.2.1)
  have HFN := Lib.hid hf.2.1
  have m5 : fn ≤ 9223372036854775807 := by have h1 := hf.1.2.1; have h2 := hf.1.2.2.1; unfold maxLen at h2; omega
  obtain ⟨hbx, hbw, hsz⟩ := boxed w 34 #[.slice ad nd cd, .slice ai ni ci, .slice an nn cn, .slice av nv cv]
  have HS := Lib.hid (h.below hbw (Nat.le_refl _))
  have HF := Lib.hid (hf.below hbw (Nat.le_refl _))
  have HBW := Lib.hid hbw
  obtain ⟨N, hN⟩ : ∃ N, (w.alloc (.cells #[.slice ad nd cd, .slice ai ni ci, .slice an nn cn, .slice av nv cv] 34)).heap.size = N := ⟨_, rfl⟩
  have HN1 : Hid (w.heap.size < N) := Lib.hid (by rw [← hN, hsz]; omega)
  have e0 := hbx 0
  have e1 := hbx 1
  have e2 := hbx 2
  have e3 := hbx 3
  simp only [List.getElem?_toArray, List.getElem?_cons_zero, List.getElem?_cons_succ] at e0 e1 e2 e3
  have HE0 := Lib.hid e0
  obtain ⟨K, hK⟩ : ∃ K, chkS s = K := ⟨_, rfl⟩
  have HK := Lib.hid hK
  clear h hf hbw hbx hsz hK
  unfold SchL.val
  go_enter Try.func39, Try.ntmps39
  go_upto_region 1 with fail
  generalize (w.alloc (.cells #[.slice ad nd cd, .slice ai ni ci, .slice an nn cn, .slice av nv cv] 34)) = w0 at *
  generalize hS : w.heap.size = S at *
  have HSS := Lib.hid hS
  have HN := Lib.hid hN
  clear hS hN
  go_wp2_with fail
  refine (schk_any _ ⟨ad, nd, cd, ai, ni, ci, an, nn, cn, av, nv, cv⟩ s HS.out).mono ?_
  rintro e w1 ⟨rfl, hb1⟩
  rw [HK.out]
  have HB1 : Hid (Below N w0 w1) := Lib.hid (by rw [← HN.out]; exact hb1)
  clear hb1 e0 e1 e2 e3
  by_cases hk0 : K = 0
  case neg =>
    have hk2 : ((K : Int) != 0) = true := by simp; omega
    have HC : Hid (fchk s fs = 1) := Lib.hid (by unfold fchk; rw [if_pos (by rw [HK.out]; exact hk0)])
    clear hk0
    go_wp2_with fail
    go_ret
    exact RErr.mk HC.out HSS.out HBW.out HN1.out HB1.out
  case pos =>
    subst hk0
    obtain ⟨b1, b2, -, -⟩ := chk_dims HK.out
    rw [HND.out] at b1 b2
    by_cases hl : 20 < fn
    · have t1 : decide ((20 : Int) < (fn : Int)) = true := decide_eq_true (by omega)
      have HC : Hid (fchk s fs = 3) := Lib.hid (by unfold fchk; rw [if_neg (by rw [HK.out]; decide), if_pos (by rw [HFN.out]; exact hl)])
      clear hl
      go_wp2_with fail
      go_ret
      exact RErr.mk HC.out HSS.out HBW.out HN1.out HB1.out
    · have t1 : decide ((20 : Int) < (fn : Int)) = false := decide_eq_false (by omega)
      have HC : Hid (fchk s fs = fltsN s.dims fs fn 0) := Lib.hid (by unfold fchk; rw [if_neg (by rw [HK.out]; decide), if_neg (by rw [HFN.out]; exact hl), HFN.out])
      obtain ⟨bD, oD, e, hbl, hcD⟩ := (HS.out.1).at (by show 0 < nd; omega)
      simp only at e
      subst e
      have HCD := Lib.hid hcD
      have HBD : Hid (bD < N) := Lib.hid (by rw [← HN.out]; exact hbl)
      clear hcD hbl
      go_wp2_with fail
      clear t1 hl
      go_loopg [17] fn (fun q iu wr => ∃ (i : Nat), iu = .int .i64 i ∧ i + q = fn ∧ fltsN s.dims fs q i = fltsN s.dims fs fn 0 ∧ Below N w0 wr)
      case atStart => exact ⟨0, rfl, by omega, rfl, HB1.out⟩
      case round =>
        obtain ⟨i, rfl, hq, hfo, hb⟩ := hrel
        have HQ := Lib.hid hq
        have HFO := Lib.hid hfo
        have HB := Lib.hid hb
        have hsz : N ≤ wr.heap.size := by have := hb.size; rw [HN.out] at this; exact this
        clear hq hfo hb
        by_cases hlt : i < fn
        · obtain ⟨gk2, hgk⟩ : ∃ g, gk = g + 1 := ⟨gk - 1, by have := HQ.out; omega⟩
          have HG2 := Lib.hid hgk
          obtain ⟨b, off, rfl, hbl, hc⟩ := (HF.out.1.below HB.out (Nat.le_of_eq HN.out)).at (by omega)
          have c0 := hc (i * 2) (by omega)
          have c1 := hc (i * 2 + 1) (by omega)
          obtain ⟨g0, g1⟩ := fltCells_get (fs := fs) (i := i) (by rw [HFN.out]; exact hlt)
          rw [g0] at c0
          rw [g1, ← Nat.add_assoc] at c1
          have HM := Lib.hid (HF.out.2.2 (fltAt fs i) (fltAt_mem (by rw [HFN.out]; exact hlt)))
          have HX := Lib.hid (fltsN_succ s.dims fs gk2 i)
          obtain ⟨⟨d, cs, ka, kn, kc⟩, hfl⟩ : ∃ f, fltAt fs i = f := ⟨_, rfl⟩
          rw [hfl] at c0 c1 HM HX
          obtain ⟨hrk, d0, d1, hcb⟩ := HM.out
          simp only at c0 c1 hrk d0 d1 hcb
          have HRK := Lib.hid (hrk.below HB.out (Nat.le_of_eq HN.out))
          have HCB := Lib.hid hcb
          have HKL := Lib.hid hrk.1
          have mk : kn ≤ 9223372036854775807 := by have h1 := hrk.2.1; have h2 := hrk.2.2.1; unfold maxLen at h2; omega
          have HV : Hid (fltsN s.dims fs fn 0 = if d < 0 ∨ (nd : Int) ≤ d then 11 else if 4096 < kn then 3 else if codesOk (dimAt s.dims d.toNat).2 cs kn 0 = false then 2 else fltsN s.dims fs gk2 (i + 1)) := Lib.hid (by
            rw [← HFO.out, hgk, HX.out, HND.out, HKL.out])
          have e0 : wr.cell? ⟨S, 0, none⟩ = some (.slice (some ⟨bD, oD, none⟩) nd cd) := by rw [HB.out.cell (p := ⟨S, 0, none⟩) HN1.out]; exact HE0.out
          have hSw : S < wr.heap.size := Nat.lt_of_lt_of_le HN1.out hsz
          clear hgk hc g0 g1 hfl hrk hcb HM HX
          by_cases hd0 : d < 0
          · have HCC : Hid (fchk s fs = 11) := Lib.hid (by rw [HC.out, HV.out, if_pos (.inl hd0)])
            have t1 : decide (d < 0) = true := decide_eq_true hd0
            go_wp2_with fail
            go_ret
            exact RErr.mk HCC.out HSS.out HBW.out HN1.out (HB.out.alloc hsz _)
          have t1 : decide (d < 0) = false := decide_eq_false hd0
          by_cases hd1 : (nd : Int) ≤ d
          · have HCC : Hid (fchk s fs = 11) := Lib.hid (by rw [HC.out, HV.out, if_pos (.inr hd1)])
            have t2 : decide ((nd : Int) ≤ d) = true := decide_eq_true hd1
            go_wp2_with fail
            go_ret
            exact RErr.mk HCC.out HSS.out HBW.out HN1.out (HB.out.alloc hsz _)
          obtain ⟨dk, rfl⟩ : ∃ dk : Nat, d = (dk : Int) := ⟨d.toNat, by omega⟩
          have t2 : decide ((nd : Int) ≤ (dk : Int)) = false := decide_eq_false hd1
          have t2' : decide (nd ≤ dk) = false := decide_eq_false (by omega)
          have hdn : dk < nd := by omega
          have HNB : Hid (¬ ((dk : Int) < 0 ∨ (nd : Int) ≤ (dk : Int))) := Lib.hid (by omega)
          clear hd0 hd1
          by_cases hkn : 4096 < kn
          · have HCC : Hid (fchk s fs = 3) := Lib.hid (by rw [HC.out, HV.out, if_neg HNB.out, if_pos hkn])
            have t3 : decide ((4096 : Int) < (kn : Int)) = true := decide_eq_true (by omega)
            go_wp2_with fail
            go_ret
            exact RErr.mk HCC.out HSS.out HBW.out HN1.out (HB.out.alloc hsz _)
          have t3 : decide ((4096 : Int) < (kn : Int)) = false := decide_eq_false (by omega)
          have HNC : Hid (¬ 4096 < kn) := Lib.hid hkn
          clear hkn
          obtain ⟨hby, hbv, hbz⟩ := boxed wr 106 #[.int .i64 (dk : Int), .slice ka kn kc]
          have HB2 := Lib.hid (HB.out.alloc hsz (.cells #[.int .i64 (dk : Int), .slice ka kn kc] 106))
          have HRK2 := Lib.hid (HRK.out.below hbv (Nat.le_refl _))
          have y0 := hby 0
          have y1 := hby 1
          simp only [List.getElem?_toArray, List.getElem?_cons_zero, List.getElem?_cons_succ] at y0 y1
          have HY0 := Lib.hid y0
          have HY1 := Lib.hid y1
          have HGS : Hid (N ≤ wr.heap.size) := Lib.hid hsz
          clear hbv hbz hby y0 y1
          go_upto_region 12 with fail
          have y0 := HY0.out
          have y1 := HY1.out
          clear c0 c1 e0 HB HRK hSw hbl HY1
          generalize (wr.alloc (.cells #[.int .i64 (dk : Int), .slice ka kn kc] 106)) = w2 at *
          generalize wr.heap.size = G at *
          go_wp2_with fail
          clear y0 y1
          have e0 : w2.cell? ⟨S, 0, none⟩ = some (.slice (some ⟨bD, oD, none⟩) nd cd) := by rw [HB2.out.cell (p := ⟨S, 0, none⟩) HN1.out]; exact HE0.out
          have cz : w2.cell? ⟨bD, oD + dk * 2 + 1, none⟩ = some (.int .i64 (dimAt s.dims dk).2) := by
            rw [HB2.out.cell (p := ⟨bD, oD + dk * 2 + 1, none⟩) HBD.out, Nat.add_assoc, HCD.out (dk * 2 + 1) (by show dk * 2 + 1 < nd * 2; omega), (dimCells_get (ds := s.dims) (i := dk) (by rw [HND.out]; exact hdn)).2]
          have HE2 := Lib.hid e0
          obtain ⟨z, hz⟩ : ∃ z, (dimAt s.dims dk).2 = z := ⟨_, rfl⟩
          rw [Int.toNat_natCast, hz] at HV
          rw [hz] at cz
          have HCZ := Lib.hid cz
          clear hz e0 cz
          go_loopg [39] kn (fun q iu wx => ∃ (m : Nat), iu = .int .i64 m ∧ m + q = kn ∧ codesOk z cs q m = codesOk z cs kn 0 ∧ w2 = wx)
          case atStart => exact ⟨0, rfl, by omega, rfl, rfl⟩
          case round =>
            obtain ⟨m, rfl, hq, hco, rfl⟩ := hrel
            have HQ6 := Lib.hid hq
            have HCO := Lib.hid hco
            clear hq hco
            have e0 := HE2.out
            have cz := HCZ.out
            have y0 := HY0.out
            by_cases hlt : m < kn
            · obtain ⟨gk3, hgk⟩ : ∃ g, gk = g + 1 := ⟨gk - 1, by have := HQ6.out; omega⟩
              have HG3 := Lib.hid hgk
              obtain ⟨b2, off2, rfl, hbl, hc⟩ := rowk_at HRK2.out (by omega)
              have c0 := hc m hlt
              have HX2 := Lib.hid (codesOk_succ z cs gk3 m)
              have hxb := HCB.out (cs.getD m 0) (geti_mem (by rw [HKL.out]; exact hlt))
              obtain ⟨x, hx⟩ : ∃ x, cs.getD m 0 = x := ⟨_, rfl⟩
              rw [hx] at c0 HX2 hxb
              obtain ⟨x0, x1⟩ := hxb
              have HBC : Hid (codesOk z cs (gk3 + 1) m = false → fchk s fs = 2) := Lib.hid (fun h => by
                rw [hgk, h] at HCO
                rw [HC.out, HV.out, if_neg HNB.out, if_neg HNC.out, if_pos HCO.out.symm])
              clear hgk hx hc hbl
              by_cases hx0 : x < 0
              · have HCC := Lib.hid (HBC.out (by rw [HX2.out, if_pos (.inl hx0)]))
                have t4 : decide (x < 0) = true := decide_eq_true hx0
                go_wp2_with fail
                go_ret
                exact RErr.mk HCC.out HSS.out HBW.out HN1.out HB2.out
              have t4 : decide (x < 0) = false := decide_eq_false hx0
              by_cases hx1 : z ≤ x
              · have HCC := Lib.hid (HBC.out (by rw [HX2.out, if_pos (.inr hx1)]))
                have t5 : decide (z ≤ x) = true := decide_eq_true hx1
                go_wp2_with fail
                go_ret
                exact RErr.mk HCC.out HSS.out HBW.out HN1.out HB2.out
              have t5 : decide (z ≤ x) = false := decide_eq_false hx1
              have HCN : Hid (codesOk z cs gk3 (m + 1) = codesOk z cs kn 0) := Lib.hid (by rw [← HCO.out, HG3.out, HX2.out, if_neg (by omega)])
              clear hx0 hx1
              go_wp2_with fail
              go_roundg gk3
              case measure => have := HG3.out; omega
              case rel => exact ⟨m + 1, by go_num, by have := HQ6.out; have := HG3.out; omega, HCN.out, rfl⟩
            · obtain rfl : m = kn := by have := HQ6.out; omega
              have HFN2 : Hid (fltsN s.dims fs gk2 (i + 1) = fltsN s.dims fs fn 0) := Lib.hid (by
                have h1 : gk = 0 := by have := HQ6.out; omega
                have h2 : codesOk z cs m 0 = true := by rw [← HCO.out, h1]; rfl
                rw [HV.out, if_neg HNB.out, if_neg HNC.out, if_neg (by rw [h2]; decide)])
              go_wp2_with fail
              go_roundg gk2
              case measure => have := HG2.out; omega
              case rel => exact ⟨i + 1, by go_num, by have := HQ.out; have := HG2.out; omega, HFN2.out, HB2.out⟩
        · obtain rfl : i = fn := by have := HQ.out; omega
          have HCC : Hid (fchk s fs = 0) := Lib.hid (by
            have h1 : gk = 0 := by have := HQ.out; omega
            rw [HC.out, ← HFO.out, h1]; rfl)
          go_wp2_with fail
          go_ret
          exact RErr.mk HCC.out HSS.out HBW.out HN1.out HB.out
end Go.Proofs.Ytdbkgpakpadloaa
