/- Filters in memory, and the contracts of package schema's Full and package filter's Check. No conditions but those stated. -/
import Derived.Test.YtehmompbmnejkaaGreatSchB
namespace Go.Proofs.YtehmompbmnejkaaGreat
open Go.RowKit

structure Flt where
 dim : Int
 codes : List Int
 a : Option Addr
 n : Nat
 c : Nat
def fltCells : List Flt → List Value
 | [] => []
 | f :: fs => .int .i64 f.dim :: .slice f.a f.n f.c :: fltCells fs
def fltAt (fs : List Flt) (i : Nat) : Flt := fs.getD i ⟨0, [], none, 0, 0⟩
theorem fltCells_get : ∀ {fs : List Flt} {i : Nat}, i < fs.length → (fltCells fs).getD (i * 2) undef = .int .i64 (fltAt fs i).dim ∧ (fltCells fs).getD (i * 2 + 1) undef = .slice (fltAt fs i).a (fltAt fs i).n (fltAt fs i).c
 | [], _, h => by simp at h
 | d :: ds, 0, _ => ⟨rfl, rfl⟩
 | d :: ds, i + 1, h => by
  have h2 := fltCells_get (fs := ds) (i := i) (by simpa using h)
  rw [show (i + 1) * 2 = i * 2 + 1 + 1 from by omega]
  simpa [fltCells, fltAt] using h2
theorem fltAt_mem {fs : List Flt} {i : Nat} (h : i < fs.length) : fltAt fs i ∈ fs := by
 unfold fltAt; rw [List.getD_eq_getElem?_getD, List.getElem?_eq_getElem h]; exact List.getElem_mem h
def FltsAt (w : World) (a : Option Addr) (n c : Nat) (fs : List Flt) : Prop :=
 RowG 2 w a n c (fltCells fs) ∧ fs.length = n ∧ ∀ f ∈ fs, RowK .i64 w f.a f.n f.c f.codes ∧ -9223372036854775808 ≤ f.dim ∧ f.dim ≤ 9223372036854775807 ∧ ∀ x ∈ f.codes, -9223372036854775808 ≤ x ∧ x ≤ 9223372036854775807
theorem FltsAt.below {w w' : World} {a : Option Addr} {n c : Nat} {fs : List Flt} {B : Nat} (h : FltsAt w a n c fs) (hb : Below B w w') (hB : w.heap.size ≤ B) : FltsAt w' a n c fs :=
 ⟨h.1.below hb hB, h.2.1, fun f hf => ⟨(h.2.2 f hf).1.below hb hB, (h.2.2 f hf).2⟩⟩
def codesOk (z : Int) (cs : List Int) : Nat → Nat → Bool
 | 0, _ => true
 | g + 1, i => if cs.getD i 0 < 0 ∨ z ≤ cs.getD i 0 then false else codesOk z cs g (i + 1)
theorem codesOk_succ (z : Int) (cs : List Int) (g i : Nat) : codesOk z cs (g + 1) i = if cs.getD i 0 < 0 ∨ z ≤ cs.getD i 0 then false else codesOk z cs g (i + 1) := rfl
def fltsN (ds : List (ByteArray × Int)) (fs : List Flt) : Nat → Nat → Nat
 | 0, _ => 0
 | g + 1, i => if (fltAt fs i).dim < 0 ∨ (ds.length : Int) ≤ (fltAt fs i).dim then 11 else if 4096 < (fltAt fs i).codes.length then 3
  else if codesOk (dimAt ds (fltAt fs i).dim.toNat).2 (fltAt fs i).codes (fltAt fs i).codes.length 0 = false then 2 else fltsN ds fs g (i + 1)
theorem fltsN_succ (ds : List (ByteArray × Int)) (fs : List Flt) (g i : Nat) : fltsN ds fs (g + 1) i = if (fltAt fs i).dim < 0 ∨ (ds.length : Int) ≤ (fltAt fs i).dim then 11 else if 4096 < (fltAt fs i).codes.length then 3
  else if codesOk (dimAt ds (fltAt fs i).dim.toNat).2 (fltAt fs i).codes (fltAt fs i).codes.length 0 = false then 2 else fltsN ds fs g (i + 1) := rfl
noncomputable def fchk (s : Sch) (fs : List Flt) : Nat := if chkS s ≠ 0 then 1 else if 20 < fs.length then 3 else fltsN s.dims fs fs.length 0
def RErr (k : Nat) (w : World) (e : Ending) (w' : World) : Prop := e = .returned (.int .i64 (k : Int)) ∧ Below w.heap.size w w'
theorem RErr.mk {w w' : World} {k k' S N : Nat} {w0 : World} (hc : k = k') (hS : w.heap.size = S) (hbw : Below S w w0) (hn : S < N) (hb : Below N w0 w') : RErr k w (.returned (.int .i64 (k' : Int))) w' := by
 subst hS
 exact ⟨by rw [hc], hbw.trans (hb.mono (Nat.le_of_lt hn))⟩
noncomputable def fullS (s : Sch) : Int := if chkS s = 0 then 2 ^ s.dims.length - 1 else 0
theorem chk_dims {s : Sch} (h : chkS s = 0) : s.dims.length ≤ 6 ∧ 0 < s.dims.length ∧ s.ints.length ≤ 3 ∧ s.nums.length ≤ 2 := by
 have hc : cntB s = false := by
  rcases hq : cntB s with _ | _
  ·rfl
  ·rw [chk_cnt hq] at h; omega
 unfold cntB at hc
 simp only [Bool.or_eq_false_iff, decide_eq_false_iff_not] at hc
 omega

set_option maxHeartbeats 2000000 in
theorem full_any (w : World) (l : SchL) (s : Sch) (h : SchAt w l s) :
  Calls Tryz.prog 65 #[l.val] w fun e w' => e = .returned (.int .u32 (fullS s)) ∧ Below w.heap.size w w' := by
 obtain ⟨ad, nd, cd, ai, ni, ci, an, nn, cn, av, nv, cv⟩ := l
 have HND := Lib.hid (show s.dims.length = nd from h.2.1)
 obtain ⟨hbx, hbw, hsz⟩ := boxed w 26 #[.slice ad nd cd, .slice ai ni ci, .slice an nn cn, .slice av nv cv]
 have HS := Lib.hid (h.below hbw (Nat.le_refl _))
 have HBW := Lib.hid hbw
 obtain ⟨N, hN⟩ : ∃ N, (w.alloc (.cells #[.slice ad nd cd, .slice ai ni ci, .slice an nn cn, .slice av nv cv] 26)).heap.size = N := ⟨_, rfl⟩
 have HN1 : Hid (w.heap.size < N) := Lib.hid (by rw [← hN, hsz]; omega)
 have e0 := hbx 0
 have e1 := hbx 1
 have e2 := hbx 2
 have e3 := hbx 3
 simp only [List.getElem?_toArray, List.getElem?_cons_zero, List.getElem?_cons_succ] at e0 e1 e2 e3
 have HE0 := Lib.hid e0
 obtain ⟨K, hK⟩ : ∃ K, chkS s = K := ⟨_, rfl⟩
 have HK := Lib.hid hK
 clear h hbw hbx hsz hK
 unfold SchL.val
 go_enter Tryz.func65, Tryz.ntmps65
 go_upto_region 1 with fail
 generalize (w.alloc (.cells #[.slice ad nd cd, .slice ai ni ci, .slice an nn cn, .slice av nv cv] 26)) = w0 at *
 generalize hS : w.heap.size = S at *
 have HSS := Lib.hid hS
 have HN := Lib.hid hN
 clear hS hN
 go_wp2_with fail
 refine (schk_any _ ⟨ad, nd, cd, ai, ni, ci, an, nn, cn, av, nv, cv⟩ s HS.out).mono ?_
 rintro e w1 ⟨rfl, hb1⟩
 rw [HK.out]
 have HB1 : Hid (Below N w0 w1) := Lib.hid (by rw [← HN.out]; exact hb1)
 clear hb1 e0 e1 e2 e3
 by_cases hk0 : K = 0
 ·subst hk0
  obtain ⟨b1, b2, -, -⟩ := chk_dims HK.out
  rw [HND.out] at b1 b2
  have e0 : w1.cell? ⟨S, 0, none⟩ = some (.slice ad nd cd) := by rw [HB1.out.cell (p := ⟨S, 0, none⟩) HN1.out]; exact HE0.out
  go_wp2_with fail
  go_ret
  refine ⟨?_, by rw [HSS.out]; exact HBW.out.trans (HB1.out.mono (Nat.le_of_lt HN1.out))⟩
  unfold fullS
  rw [if_pos HK.out, HND.out, ← (full_is b1).1]
  rfl
 ·have hk1 : ((K : Int) == 0) = false := by simp; omega
  have hk2 : ((K : Int) != 0) = true := by simp; omega
  have HF : Hid (fullS s = 0) := Lib.hid (by unfold fullS; rw [if_neg (by rw [HK.out]; exact hk0)])
  clear hk0
  go_wp2_with fail
  go_ret
  exact ⟨by rw [HF.out]; rfl, by rw [HSS.out]; exact HBW.out.trans (HB1.out.mono (Nat.le_of_lt HN1.out))⟩

set_option maxRecDepth 100000 in
set_option maxHeartbeats 4000000 in
theorem fchk_any (w : World) (l : SchL) (s : Sch) (fa : Option Addr) (fn fc : Nat) (fs : List Flt) (h : SchAt w l s) (hf : FltsAt w fa fn fc fs) :
  Calls Tryz.prog 66 #[l.val, .slice fa fn fc] w (RErr (fchk s fs) w) := by
 obtain ⟨ad, nd, cd, ai, ni, ci, an, nn, cn, av, nv, cv⟩ := l
 have HND := Lib.hid (show s.dims.length = nd from h.2.1)
 have HFN := Lib.hid hf.2.1
 have m5 : fn ≤ 9223372036854775807 := by have h1 := hf.1.2.1; have h2 := hf.1.2.2.1; unfold maxLen at h2; omega
 obtain ⟨hbx, hbw, hsz⟩ := boxed w 26 #[.slice ad nd cd, .slice ai ni ci, .slice an nn cn, .slice av nv cv]
 have HS := Lib.hid (h.below hbw (Nat.le_refl _))
 have HF := Lib.hid (hf.below hbw (Nat.le_refl _))
 have HBW := Lib.hid hbw
 obtain ⟨N, hN⟩ : ∃ N, (w.alloc (.cells #[.slice ad nd cd, .slice ai ni ci, .slice an nn cn, .slice av nv cv] 26)).heap.size = N := ⟨_, rfl⟩
 have HN1 : Hid (w.heap.size < N) := Lib.hid (by rw [← hN, hsz]; omega)
 have e0 := hbx 0
 have e1 := hbx 1
 have e2 := hbx 2
 have e3 := hbx 3
 simp only [List.getElem?_toArray, List.getElem?_cons_zero, List.getElem?_cons_succ] at e0 e1 e2 e3
 have HE0 := Lib.hid e0
 obtain ⟨K, hK⟩ : ∃ K, chkS s = K := ⟨_, rfl⟩
 have HK := Lib.hid hK
 clear h hf hbw hbx hsz hK
 unfold SchL.val
 go_enter Tryz.func66, Tryz.ntmps66
 go_upto_region 1 with fail
 generalize (w.alloc (.cells #[.slice ad nd cd, .slice ai ni ci, .slice an nn cn, .slice av nv cv] 26)) = w0 at *
 generalize hS : w.heap.size = S at *
 have HSS := Lib.hid hS
 have HN := Lib.hid hN
 clear hS hN
 go_wp2_with fail
 refine (schk_any _ ⟨ad, nd, cd, ai, ni, ci, an, nn, cn, av, nv, cv⟩ s HS.out).mono ?_
 rintro e w1 ⟨rfl, hb1⟩
 rw [HK.out]
 have HB1 : Hid (Below N w0 w1) := Lib.hid (by rw [← HN.out]; exact hb1)
 clear hb1 e0 e1 e2 e3
 by_cases hk0 : K = 0
 case neg =>
  have hk2 : ((K : Int) != 0) = true := by simp; omega
  have HC : Hid (fchk s fs = 1) := Lib.hid (by unfold fchk; rw [if_pos (by rw [HK.out]; exact hk0)])
  clear hk0
  go_wp2_with fail
  go_ret
  exact RErr.mk HC.out HSS.out HBW.out HN1.out HB1.out
 case pos =>
  subst hk0
  obtain ⟨b1, b2, -, -⟩ := chk_dims HK.out
  rw [HND.out] at b1 b2
  by_cases hl : 20 < fn
  ·have t1 : decide ((20 : Int) < (fn : Int)) = true := decide_eq_true (by omega)
   have HC : Hid (fchk s fs = 3) := Lib.hid (by unfold fchk; rw [if_neg (by rw [HK.out]; decide), if_pos (by rw [HFN.out]; exact hl)])
   clear hl
   go_wp2_with fail
   go_ret
   exact RErr.mk HC.out HSS.out HBW.out HN1.out HB1.out
  ·have t1 : decide ((20 : Int) < (fn : Int)) = false := decide_eq_false (by omega)
   have HC : Hid (fchk s fs = fltsN s.dims fs fn 0) := Lib.hid (by unfold fchk; rw [if_neg (by rw [HK.out]; decide), if_neg (by rw [HFN.out]; exact hl), HFN.out])
   obtain ⟨bD, oD, e, hbl, hcD⟩ := (HS.out.1).at (by show 0 < nd; omega)
   simp only at e
   subst e
   have HCD := Lib.hid hcD
   have HBD : Hid (bD < N) := Lib.hid (by rw [← HN.out]; exact hbl)
   clear hcD hbl
   go_wp2_with fail
   clear t1 hl
   go_loopg [17] fn (fun q iu wr => ∃ (i : Nat), iu = .int .i64 i ∧ i + q = fn ∧ fltsN s.dims fs q i = fltsN s.dims fs fn 0 ∧ Below N w0 wr)
   case atStart => exact ⟨0, rfl, by omega, rfl, HB1.out⟩
   case round =>
    obtain ⟨i, rfl, hq, hfo, hb⟩ := hrel
    have HQ := Lib.hid hq
    have HFO := Lib.hid hfo
    have HB := Lib.hid hb
    have hsz : N ≤ wr.heap.size := by have := hb.size; rw [HN.out] at this; exact this
    clear hq hfo hb
    by_cases hlt : i < fn
    ·obtain ⟨gk2, hgk⟩ : ∃ g, gk = g + 1 := ⟨gk - 1, by have := HQ.out; omega⟩
     have HG2 := Lib.hid hgk
     obtain ⟨b, off, rfl, hbl, hc⟩ := (HF.out.1.below HB.out (Nat.le_of_eq HN.out)).at (by omega)
     have c0 := hc (i * 2) (by omega)
     have c1 := hc (i * 2 + 1) (by omega)
     obtain ⟨g0, g1⟩ := fltCells_get (fs := fs) (i := i) (by rw [HFN.out]; exact hlt)
     rw [g0] at c0
     rw [g1, ← Nat.add_assoc] at c1
     have HM := Lib.hid (HF.out.2.2 (fltAt fs i) (fltAt_mem (by rw [HFN.out]; exact hlt)))
     have HX := Lib.hid (fltsN_succ s.dims fs gk2 i)
     obtain ⟨⟨d, cs, ka, kn, kc⟩, hfl⟩ : ∃ f, fltAt fs i = f := ⟨_, rfl⟩
     rw [hfl] at c0 c1 HM HX
     obtain ⟨hrk, d0, d1, hcb⟩ := HM.out
     simp only at c0 c1 hrk d0 d1 hcb
     have HRK := Lib.hid (hrk.below HB.out (Nat.le_of_eq HN.out))
     have HCB := Lib.hid hcb
     have HKL := Lib.hid hrk.1
     have mk : kn ≤ 9223372036854775807 := by have h1 := hrk.2.1; have h2 := hrk.2.2.1; unfold maxLen at h2; omega
     have HV : Hid (fltsN s.dims fs fn 0 = if d < 0 ∨ (nd : Int) ≤ d then 11 else if 4096 < kn then 3 else if codesOk (dimAt s.dims d.toNat).2 cs kn 0 = false then 2 else fltsN s.dims fs gk2 (i + 1)) := Lib.hid (by
      rw [← HFO.out, hgk, HX.out, HND.out, HKL.out])
     have e0 : wr.cell? ⟨S, 0, none⟩ = some (.slice (some ⟨bD, oD, none⟩) nd cd) := by rw [HB.out.cell (p := ⟨S, 0, none⟩) HN1.out]; exact HE0.out
     have hSw : S < wr.heap.size := Nat.lt_of_lt_of_le HN1.out hsz
     clear hgk hc g0 g1 hfl hrk hcb HM HX
     by_cases hd0 : d < 0
     ·have HCC : Hid (fchk s fs = 11) := Lib.hid (by rw [HC.out, HV.out, if_pos (.inl hd0)])
      have t1 : decide (d < 0) = true := decide_eq_true hd0
      go_wp2_with fail
      go_ret
      exact RErr.mk HCC.out HSS.out HBW.out HN1.out (HB.out.alloc hsz _)
     have t1 : decide (d < 0) = false := decide_eq_false hd0
     by_cases hd1 : (nd : Int) ≤ d
     ·have HCC : Hid (fchk s fs = 11) := Lib.hid (by rw [HC.out, HV.out, if_pos (.inr hd1)])
      have t2 : decide ((nd : Int) ≤ d) = true := decide_eq_true hd1
      go_wp2_with fail
      go_ret
      exact RErr.mk HCC.out HSS.out HBW.out HN1.out (HB.out.alloc hsz _)
     obtain ⟨dk, rfl⟩ : ∃ dk : Nat, d = (dk : Int) := ⟨d.toNat, by omega⟩
     have t2 : decide ((nd : Int) ≤ (dk : Int)) = false := decide_eq_false hd1
     have t2' : decide (nd ≤ dk) = false := decide_eq_false (by omega)
     have hdn : dk < nd := by omega
     have HNB : Hid (¬ ((dk : Int) < 0 ∨ (nd : Int) ≤ (dk : Int))) := Lib.hid (by omega)
     clear hd0 hd1
     by_cases hkn : 4096 < kn
     ·have HCC : Hid (fchk s fs = 3) := Lib.hid (by rw [HC.out, HV.out, if_neg HNB.out, if_pos hkn])
      have t3 : decide ((4096 : Int) < (kn : Int)) = true := decide_eq_true (by omega)
      go_wp2_with fail
      go_ret
      exact RErr.mk HCC.out HSS.out HBW.out HN1.out (HB.out.alloc hsz _)
     have t3 : decide ((4096 : Int) < (kn : Int)) = false := decide_eq_false (by omega)
     have HNC : Hid (¬ 4096 < kn) := Lib.hid hkn
     clear hkn
     obtain ⟨hby, hbv, hbz⟩ := boxed wr 154 #[.int .i64 (dk : Int), .slice ka kn kc]
     have HB2 := Lib.hid (HB.out.alloc hsz (.cells #[.int .i64 (dk : Int), .slice ka kn kc] 154))
     have HRK2 := Lib.hid (HRK.out.below hbv (Nat.le_refl _))
     have y0 := hby 0
     have y1 := hby 1
     simp only [List.getElem?_toArray, List.getElem?_cons_zero, List.getElem?_cons_succ] at y0 y1
     have HY0 := Lib.hid y0
     have HY1 := Lib.hid y1
     have HGS : Hid (N ≤ wr.heap.size) := Lib.hid hsz
     clear hbv hbz hby y0 y1
     go_upto_region 12 with fail
     have y0 := HY0.out
     have y1 := HY1.out
     clear c0 c1 e0 HB HRK hSw hbl HY1
     generalize (wr.alloc (.cells #[.int .i64 (dk : Int), .slice ka kn kc] 154)) = w2 at *
     generalize wr.heap.size = G at *
     go_wp2_with fail
     clear y0 y1
     have e0 : w2.cell? ⟨S, 0, none⟩ = some (.slice (some ⟨bD, oD, none⟩) nd cd) := by rw [HB2.out.cell (p := ⟨S, 0, none⟩) HN1.out]; exact HE0.out
     have cz : w2.cell? ⟨bD, oD + dk * 2 + 1, none⟩ = some (.int .i64 (dimAt s.dims dk).2) := by
      rw [HB2.out.cell (p := ⟨bD, oD + dk * 2 + 1, none⟩) HBD.out, Nat.add_assoc, HCD.out (dk * 2 + 1) (by show dk * 2 + 1 < nd * 2; omega), (dimCells_get (ds := s.dims) (i := dk) (by rw [HND.out]; exact hdn)).2]
     have HE2 := Lib.hid e0
     obtain ⟨z, hz⟩ : ∃ z, (dimAt s.dims dk).2 = z := ⟨_, rfl⟩
     rw [Int.toNat_natCast, hz] at HV
     rw [hz] at cz
     have HCZ := Lib.hid cz
     clear hz e0 cz
     go_loopg [39] kn (fun q iu wx => ∃ (m : Nat), iu = .int .i64 m ∧ m + q = kn ∧ codesOk z cs q m = codesOk z cs kn 0 ∧ w2 = wx)
     case atStart => exact ⟨0, rfl, by omega, rfl, rfl⟩
     case round =>
      obtain ⟨m, rfl, hq, hco, rfl⟩ := hrel
      have HQ6 := Lib.hid hq
      have HCO := Lib.hid hco
      clear hq hco
      have e0 := HE2.out
      have cz := HCZ.out
      have y0 := HY0.out
      by_cases hlt : m < kn
      ·obtain ⟨gk3, hgk⟩ : ∃ g, gk = g + 1 := ⟨gk - 1, by have := HQ6.out; omega⟩
       have HG3 := Lib.hid hgk
       obtain ⟨b2, off2, rfl, hbl, hc⟩ := rowk_at HRK2.out (by omega)
       have c0 := hc m hlt
       have HX2 := Lib.hid (codesOk_succ z cs gk3 m)
       have hxb := HCB.out (cs.getD m 0) (geti_mem (by rw [HKL.out]; exact hlt))
       obtain ⟨x, hx⟩ : ∃ x, cs.getD m 0 = x := ⟨_, rfl⟩
       rw [hx] at c0 HX2 hxb
       obtain ⟨x0, x1⟩ := hxb
       have HBC : Hid (codesOk z cs (gk3 + 1) m = false → fchk s fs = 2) := Lib.hid (fun h => by
        rw [hgk, h] at HCO
        rw [HC.out, HV.out, if_neg HNB.out, if_neg HNC.out, if_pos HCO.out.symm])
       clear hgk hx hc hbl
       by_cases hx0 : x < 0
       ·have HCC := Lib.hid (HBC.out (by rw [HX2.out, if_pos (.inl hx0)]))
        have t4 : decide (x < 0) = true := decide_eq_true hx0
        go_wp2_with fail
        go_ret
        exact RErr.mk HCC.out HSS.out HBW.out HN1.out HB2.out
       have t4 : decide (x < 0) = false := decide_eq_false hx0
       by_cases hx1 : z ≤ x
       ·have HCC := Lib.hid (HBC.out (by rw [HX2.out, if_pos (.inr hx1)]))
        have t5 : decide (z ≤ x) = true := decide_eq_true hx1
        go_wp2_with fail
        go_ret
        exact RErr.mk HCC.out HSS.out HBW.out HN1.out HB2.out
       have t5 : decide (z ≤ x) = false := decide_eq_false hx1
       have HCN : Hid (codesOk z cs gk3 (m + 1) = codesOk z cs kn 0) := Lib.hid (by rw [← HCO.out, HG3.out, HX2.out, if_neg (by omega)])
       clear hx0 hx1
       go_wp2_with fail
       go_roundg gk3
       case measure => have := HG3.out; omega
       case rel => exact ⟨m + 1, by go_num, by have := HQ6.out; have := HG3.out; omega, HCN.out, rfl⟩
      ·obtain rfl : m = kn := by have := HQ6.out; omega
       have HFN2 : Hid (fltsN s.dims fs gk2 (i + 1) = fltsN s.dims fs fn 0) := Lib.hid (by
        have h1 : gk = 0 := by have := HQ6.out; omega
        have h2 : codesOk z cs m 0 = true := by rw [← HCO.out, h1]; rfl
        rw [HV.out, if_neg HNB.out, if_neg HNC.out, if_neg (by rw [h2]; decide)])
       go_wp2_with fail
       go_roundg gk2
       case measure => have := HG2.out; omega
       case rel => exact ⟨i + 1, by go_num, by have := HQ.out; have := HG2.out; omega, HFN2.out, HB2.out⟩
    ·obtain rfl : i = fn := by have := HQ.out; omega
     have HCC : Hid (fchk s fs = 0) := Lib.hid (by
      have h1 : gk = 0 := by have := HQ.out; omega
      rw [HC.out, ← HFO.out, h1]; rfl)
     go_wp2_with fail
     go_ret
     exact RErr.mk HCC.out HSS.out HBW.out HN1.out HB.out
end Go.Proofs.YtehmompbmnejkaaGreat
/- Which column may be: the contract of package query's column. No conditions but those stated. -/
namespace Go.Proofs.YtehmompbmnejkaaGreat
open Go.RowKit

def colB (ni nn : Nat) (k m : Int) : Bool :=
 if k = 0 then decide (m = 0) else if 1 ≤ k ∧ k ≤ 4 then decide (0 ≤ m ∧ m < (ni + nn : Nat)) else if k = 5 ∨ k = 6 then decide (0 ≤ m ∧ m < (ni : Nat)) else false
theorem two_pbox (w : World) (t t2 : TypeId) (cs ds : Array Value) : (∀ i, ((w.alloc (.cells cs t)).alloc (.cells ds t2)).cell? ⟨w.heap.size, i, none⟩ = cs[i]?) ∧ (∀ i, ((w.alloc (.cells cs t)).alloc (.cells ds t2)).cell? ⟨w.heap.size + 1, i, none⟩ = ds[i]?) ∧
  Below w.heap.size w ((w.alloc (.cells cs t)).alloc (.cells ds t2)) ∧ ((w.alloc (.cells cs t)).alloc (.cells ds t2)).heap.size = w.heap.size + 1 + 1 := by
 refine ⟨fun i => ?_, fun i => ?_, ((Below.refl _ _).alloc (Nat.le_refl _) _).alloc (by simp) _, by simp⟩
 ·exact cell_of_row _ w.heap.size i cs t (0, 0) ((Below.heap_alloc (w.alloc (.cells cs t)) _ _ (by simp)).trans (heap_alloc_new w _))
 ·simp
theorem ret_b {a b : Bool} (h : a = b) : Ending.returned (.bool b) = .returned (.bool a) := by rw [h]

set_option maxHeartbeats 4000000 in
theorem column_any (w : World) (l : SchL) (k m : Int) (hi : l.ni ≤ 1000) (hn : l.nn ≤ 1000) (hk : -9223372036854775808 ≤ k ∧ k ≤ 9223372036854775807) (hm : -9223372036854775808 ≤ m ∧ m ≤ 9223372036854775807) :
  Calls Tryz.prog 67 #[l.val, .agg #[.int .i64 k, .int .i64 m]] w fun e w' => e = .returned (.bool (colB l.ni l.nn k m)) ∧ Below w.heap.size w w' := by
 obtain ⟨ad, nd, cd, ai, ni, ci, an, nn, cn, av, nv, cv⟩ := l
 simp only at hi hn ⊢
 obtain ⟨hbx, hby, hbw, -⟩ := two_pbox w 26 42 #[.slice ad nd cd, .slice ai ni ci, .slice an nn cn, .slice av nv cv] #[.int .i64 k, .int .i64 m]
 have HBW := Lib.hid hbw
 have e1 := hbx 1
 have e2 := hbx 2
 have y0 := hby 0
 have y1 := hby 1
 simp only [List.getElem?_toArray, List.getElem?_cons_zero, List.getElem?_cons_succ] at e1 e2 y0 y1
 obtain ⟨k0, k1⟩ := hk
 obtain ⟨m0, m1⟩ := hm
 clear hbw hbx hby
 obtain ⟨r, hr⟩ : ∃ r, colB ni nn k m = r := ⟨_, rfl⟩
 have HR := Lib.hid hr
 clear hr
 unfold SchL.val
 rw [HR.out]
 go_enter Tryz.func67, Tryz.ntmps67
 go_upto_region 1 with fail
 generalize ((w.alloc (.cells #[.slice ad nd cd, .slice ai ni ci, .slice an nn cn, .slice av nv cv] 26)).alloc (.cells #[.int .i64 k, .int .i64 m] 42)) = w0 at *
 by_cases h0 : k = 0
 ·subst h0
  have HE : Hid ((m == 0) = r) := Lib.hid (by rw [← HR.out]; unfold colB; rw [if_pos rfl, Bool.eq_iff_iff, beq_iff_eq, decide_eq_true_eq])
  go_wp2_with fail
  go_ret
  exact ⟨ret_b HE.out.symm, HBW.out⟩
 have t0 : (k == 0) = false := by simpa using h0
 by_cases h14 : 1 ≤ k ∧ k ≤ 4
 ·obtain ⟨p, hp⟩ : ∃ p, ni + nn = p := ⟨_, rfl⟩
  have hpi : (ni : Int) + (nn : Int) = (p : Int) := by omega
  have hpb : p ≤ 2000 := by omega
  have HE : Hid (r = (decide (0 ≤ m) && decide (m < (p : Int)))) := Lib.hid (by rw [← HR.out]; unfold colB; rw [if_neg h0, if_pos h14, hp, Bool.eq_iff_iff]; simp)
  have hcase : k = 1 ∨ k = 2 ∨ k = 3 ∨ k = 4 := by omega
  clear h0 h14 hp
  obtain ⟨M, hM⟩ : ∃ M, decide (0 ≤ m) = M := ⟨_, rfl⟩
  rw [hM] at HE
  rcases hcase with rfl | rfl | rfl | rfl <;> cases M
  all_goals
   go_wp2_with fail
   go_ret
   exact ⟨ret_b HE.out, HBW.out⟩
 by_cases h56 : k = 5 ∨ k = 6
 ·have HE : Hid (r = (decide (0 ≤ m) && decide (m < (ni : Int)))) := Lib.hid (by rw [← HR.out]; unfold colB; rw [if_neg h0, if_neg h14, if_pos h56, Bool.eq_iff_iff]; simp)
  clear h0 h14
  obtain ⟨M, hM⟩ : ∃ M, decide (0 ≤ m) = M := ⟨_, rfl⟩
  rw [hM] at HE
  rcases h56 with rfl | rfl <;> cases M
  all_goals
   go_wp2_with fail
   go_ret
   exact ⟨ret_b HE.out, HBW.out⟩
 ·have HE : Hid (r = false) := Lib.hid (by rw [← HR.out]; unfold colB; rw [if_neg h0, if_neg h14, if_neg h56])
  have t1 : (k == 1) = false := by simp; omega
  have t2 : (k == 2) = false := by simp; omega
  have t3 : (k == 3) = false := by simp; omega
  have t4 : (k == 4) = false := by simp; omega
  have t5 : (k == 5) = false := by simp; omega
  have t6 : (k == 6) = false := by simp; omega
  clear h0 h14 h56
  go_wp2_with fail
  go_ret
  exact ⟨ret_b HE.out, HBW.out⟩
end Go.Proofs.YtehmompbmnejkaaGreat
/- Queries in memory, and the contract of package query's Check. No conditions but those stated. -/
namespace Go.Proofs.YtehmompbmnejkaaGreat
open Go.RowKit

theorem and_high {k n : Nat} (hk : k < 2 ^ 32) (hn : n ≤ 32) : k &&& ((2 ^ (32 - n) - 1) * 2 ^ n) = k / 2 ^ n * 2 ^ n := by
 apply Nat.eq_of_testBit_eq
 intro i
 rw [Nat.testBit_and, Nat.testBit_mul_two_pow, Nat.testBit_mul_two_pow, Nat.testBit_two_pow_sub_one, Nat.testBit_div_two_pow]
 by_cases h : n ≤ i
 ·rw [show i - n + n = i from by omega]
  by_cases h2 : i < 32
  ·rw [decide_eq_true h, decide_eq_true (show i - n < 32 - n by omega)]; simp
  ·rw [Nat.testBit_lt_two_pow (Nat.lt_of_lt_of_le hk (Nat.pow_le_pow_right (by decide) (by omega)))]; simp
 ·rw [decide_eq_false h]; simp
theorem group_fits {g : Int} {n : Nat} (h0 : 0 ≤ g) (h1 : g ≤ 4294967295) (hn : n ≤ 6) : (bits .andNot .u32 g (2 ^ n - 1) != 0) = decide ((2 : Int) ^ n ≤ g) := by
 obtain ⟨k, rfl⟩ : ∃ k : Nat, g = k := ⟨g.toNat, by omega⟩
 have hk : k < 2 ^ 32 := by show k < 4294967296; omega
 have e : ∀ m : Nat, ∀ M : Int, (BitVec.ofInt 32 M).toNat = 2 ^ n - 1 → bits .andNot .u32 (k : Int) M = ((k / 2 ^ n * 2 ^ n : Nat) : Int) := by
  intro _ M hM
  show IntKind.u32.wrap (((BitVec.ofInt 32 (k : Int) &&& ~~~BitVec.ofInt 32 M).toNat : Nat) : Int) = _
  rw [BitVec.toNat_and, BitVec.toNat_not, hM, BitVec.toNat_ofInt, show ((k : Int) % ((2 ^ 32 : Nat) : Int)).toNat = k from by omega,
   show 2 ^ 32 - 1 - (2 ^ n - 1) = (2 ^ (32 - n) - 1) * 2 ^ n from by
    have : n = 0 ∨ n = 1 ∨ n = 2 ∨ n = 3 ∨ n = 4 ∨ n = 5 ∨ n = 6 := by omega
    rcases this with rfl | rfl | rfl | rfl | rfl | rfl | rfl <;> decide,
   and_high hk (by omega)]
  refine IntWalk.u32_in _ ⟨by omega, ?_⟩
  have := Nat.div_mul_le_self k (2 ^ n)
  omega
 have hM : (BitVec.ofInt 32 ((2 : Int) ^ n - 1)).toNat = 2 ^ n - 1 := by
  have : n = 0 ∨ n = 1 ∨ n = 2 ∨ n = 3 ∨ n = 4 ∨ n = 5 ∨ n = 6 := by omega
  rcases this with rfl | rfl | rfl | rfl | rfl | rfl | rfl <;> decide
 rw [e 0 _ hM, Bool.eq_iff_iff, bne_iff_ne, decide_eq_true_eq]
 have : n = 0 ∨ n = 1 ∨ n = 2 ∨ n = 3 ∨ n = 4 ∨ n = 5 ∨ n = 6 := by omega
 rcases this with rfl | rfl | rfl | rfl | rfl | rfl | rfl <;> omega
structure Qry where
 group : Int
 flts : List Flt
 cols : List (Int × Int)
 ord : List (Int × Bool)
 limit : Int
structure QryL where
 af : Option Addr
 nf : Nat
 cf : Nat
 ac : Option Addr
 nc : Nat
 cc : Nat
 ao : Option Addr
 no : Nat
 co : Nat
def QryL.val (l : QryL) (q : Qry) : Value := .agg #[.int .u32 q.group, .slice l.af l.nf l.cf, .slice l.ac l.nc l.cc, .slice l.ao l.no l.co, .int .i64 q.limit]
def colCells : List (Int × Int) → List Value
 | [] => []
 | d :: ds => .int .i64 d.1 :: .int .i64 d.2 :: colCells ds
def colAt (ds : List (Int × Int)) (i : Nat) : Int × Int := ds.getD i (0, 0)
theorem colCells_get : ∀ {ds : List (Int × Int)} {i : Nat}, i < ds.length → (colCells ds).getD (i * 2) undef = .int .i64 (colAt ds i).1 ∧ (colCells ds).getD (i * 2 + 1) undef = .int .i64 (colAt ds i).2
 | [], _, h => by simp at h
 | d :: ds, 0, _ => ⟨rfl, rfl⟩
 | d :: ds, i + 1, h => by
  have h2 := colCells_get (ds := ds) (i := i) (by simpa using h)
  rw [show (i + 1) * 2 = i * 2 + 1 + 1 from by omega]
  simpa [colCells, colAt] using h2
theorem colAt_mem {ds : List (Int × Int)} {i : Nat} (h : i < ds.length) : colAt ds i ∈ ds := by
 unfold colAt; rw [List.getD_eq_getElem?_getD, List.getElem?_eq_getElem h]; exact List.getElem_mem h
def ordCells : List (Int × Bool) → List Value
 | [] => []
 | d :: ds => .int .i64 d.1 :: .bool d.2 :: ordCells ds
def ordAt (ds : List (Int × Bool)) (i : Nat) : Int × Bool := ds.getD i (0, false)
theorem ordCells_get : ∀ {ds : List (Int × Bool)} {i : Nat}, i < ds.length → (ordCells ds).getD (i * 2) undef = .int .i64 (ordAt ds i).1 ∧ (ordCells ds).getD (i * 2 + 1) undef = .bool (ordAt ds i).2
 | [], _, h => by simp at h
 | d :: ds, 0, _ => ⟨rfl, rfl⟩
 | d :: ds, i + 1, h => by
  have h2 := ordCells_get (ds := ds) (i := i) (by simpa using h)
  rw [show (i + 1) * 2 = i * 2 + 1 + 1 from by omega]
  simpa [ordCells, ordAt] using h2
theorem ordAt_mem {ds : List (Int × Bool)} {i : Nat} (h : i < ds.length) : ordAt ds i ∈ ds := by
 unfold ordAt; rw [List.getD_eq_getElem?_getD, List.getElem?_eq_getElem h]; exact List.getElem_mem h
def I64 (x : Int) : Prop := -9223372036854775808 ≤ x ∧ x ≤ 9223372036854775807
def QryAt (w : World) (l : QryL) (q : Qry) : Prop :=
 FltsAt w l.af l.nf l.cf q.flts ∧ RowG 2 w l.ac l.nc l.cc (colCells q.cols) ∧ q.cols.length = l.nc ∧ RowG 2 w l.ao l.no l.co (ordCells q.ord) ∧ q.ord.length = l.no ∧
 (0 ≤ q.group ∧ q.group ≤ 4294967295) ∧ I64 q.limit ∧ (∀ c ∈ q.cols, I64 c.1 ∧ I64 c.2) ∧ (∀ o ∈ q.ord, I64 o.1)
theorem QryAt.below {w w' : World} {l : QryL} {q : Qry} {B : Nat} (h : QryAt w l q) (hb : Below B w w') (hB : w.heap.size ≤ B) : QryAt w' l q :=
 ⟨h.1.below hb hB, h.2.1.below hb hB, h.2.2.1, h.2.2.2.1.below hb hB, h.2.2.2.2⟩
def colsOk (ni nn : Nat) (cs : List (Int × Int)) : Nat → Nat → Bool
 | 0, _ => true
 | g + 1, i => if colB ni nn (colAt cs i).1 (colAt cs i).2 = false then false else colsOk ni nn cs g (i + 1)
theorem colsOk_succ (ni nn : Nat) (cs : List (Int × Int)) (g i : Nat) : colsOk ni nn cs (g + 1) i = if colB ni nn (colAt cs i).1 (colAt cs i).2 = false then false else colsOk ni nn cs g (i + 1) := rfl
def ordOk (nc : Nat) (os : List (Int × Bool)) : Nat → Nat → Bool
 | 0, _ => true
 | g + 1, i => if (ordAt os i).1 < 0 ∨ (nc : Int) ≤ (ordAt os i).1 then false else ordOk nc os g (i + 1)
theorem ordOk_succ (nc : Nat) (os : List (Int × Bool)) (g i : Nat) : ordOk nc os (g + 1) i = if (ordAt os i).1 < 0 ∨ (nc : Int) ≤ (ordAt os i).1 then false else ordOk nc os g (i + 1) := rfl
noncomputable def qchk (s : Sch) (q : Qry) : Nat :=
 if chkS s ≠ 0 then 1 else if (2 : Int) ^ s.dims.length ≤ q.group then 11 else if fchk s q.flts ≠ 0 then fchk s q.flts
 else if q.cols.length = 0 ∨ 16 < q.cols.length ∨ 8 < q.ord.length then 3 else if colsOk s.ints.length s.nums.length q.cols q.cols.length 0 = false then 2
 else if ordOk q.cols.length q.ord q.ord.length 0 = false then 2 else if q.limit < 0 then 2 else 0

set_option maxRecDepth 100000 in
set_option maxHeartbeats 4000000 in
theorem qchk_any (w : World) (l : SchL) (s : Sch) (m : QryL) (q : Qry) (h : SchAt w l s) (hq : QryAt w m q) :
  Calls Tryz.prog 38 #[l.val, m.val q] w (RErr (qchk s q) w) := by
 obtain ⟨ad, nd, cd, ai, ni, ci, an, nn, cn, av, nv, cv⟩ := l
 obtain ⟨af, nf, cf, ac, nc, cc, ao, no, co⟩ := m
 have HLN := Lib.hid (And.intro (show s.dims.length = nd from h.2.1) (And.intro (show s.ints.length = ni from h.2.2.1.1) (And.intro (show s.nums.length = nn from h.2.2.2.1.1) (And.intro (show q.cols.length = nc from hq.2.2.1) (show q.ord.length = no from hq.2.2.2.2.1)))))
 obtain ⟨gr, hgr⟩ : ∃ g, q.group = g := ⟨_, rfl⟩
 obtain ⟨lm, hlm⟩ : ∃ g, q.limit = g := ⟨_, rfl⟩
 obtain ⟨gr0, gr1⟩ : 0 ≤ gr ∧ gr ≤ 4294967295 := hgr ▸ hq.2.2.2.2.2.1
 obtain ⟨lm0, lm1⟩ : I64 lm := hlm ▸ hq.2.2.2.2.2.2.1
 have mc : nc ≤ 9223372036854775807 := by have h1 := hq.2.1.2.1; have h2 := hq.2.1.2.2.1; simp only at h1 h2; unfold maxLen at h2; omega
 have mo : no ≤ 9223372036854775807 := by have h1 := hq.2.2.2.1.2.1; have h2 := hq.2.2.2.1.2.2.1; simp only at h1 h2; unfold maxLen at h2; omega
 unfold SchL.val QryL.val
 simp only
 rw [hgr, hlm]
 obtain ⟨hbx, hby, hbw, hsz⟩ := two_pbox w 26 96 #[.slice ad nd cd, .slice ai ni ci, .slice an nn cn, .slice av nv cv] #[.int .u32 gr, .slice af nf cf, .slice ac nc cc, .slice ao no co, .int .i64 lm]
 have HS := Lib.hid (h.below hbw (Nat.le_refl _))
 have HQ := Lib.hid (hq.below hbw (Nat.le_refl _))
 have HBW := Lib.hid hbw
 have HGR := Lib.hid (And.intro hgr hlm)
 obtain ⟨N, hN⟩ : ∃ N, ((w.alloc (.cells #[.slice ad nd cd, .slice ai ni ci, .slice an nn cn, .slice av nv cv] 26)).alloc (.cells #[.int .u32 gr, .slice af nf cf, .slice ac nc cc, .slice ao no co, .int .i64 lm] 96)).heap.size = N := ⟨_, rfl⟩
 have HN1 : Hid (w.heap.size < N ∧ w.heap.size + 1 < N) := Lib.hid (by rw [← hN, hsz]; omega)
 have e0 := hbx 0
 have e1 := hbx 1
 have e2 := hbx 2
 have e3 := hbx 3
 have y0 := hby 0
 have y1 := hby 1
 have y2 := hby 2
 have y3 := hby 3
 have y4 := hby 4
 simp only [List.getElem?_toArray, List.getElem?_cons_zero, List.getElem?_cons_succ] at e0 e1 e2 e3 y0 y1 y2 y3 y4
 have HE := Lib.hid (And.intro e0 (And.intro e1 (And.intro e2 e3)))
 have HY := Lib.hid (And.intro y0 (And.intro y1 (And.intro y2 (And.intro y3 y4))))
 obtain ⟨K, hK⟩ : ∃ K, chkS s = K := ⟨_, rfl⟩
 have HK := Lib.hid hK
 obtain ⟨FU, hFU⟩ : ∃ K, fullS s = K := ⟨_, rfl⟩
 have HFU := Lib.hid hFU
 clear h hq hbw hbx hby hsz hK hFU y0 y1 y2 y3 y4 hgr hlm
 go_enter Tryz.func38, Tryz.ntmps38
 go_upto_region 1 with fail
 generalize ((w.alloc (.cells #[.slice ad nd cd, .slice ai ni ci, .slice an nn cn, .slice av nv cv] 26)).alloc (.cells #[.int .u32 gr, .slice af nf cf, .slice ac nc cc, .slice ao no co, .int .i64 lm] 96)) = w0 at *
 generalize hS : w.heap.size = S at *
 have HSS := Lib.hid hS
 have HN := Lib.hid hN
 clear hS hN
 go_wp2_with fail
 refine (full_any _ ⟨ad, nd, cd, ai, ni, ci, an, nn, cn, av, nv, cv⟩ s HS.out).mono ?_
 rintro e w1 ⟨rfl, hb1⟩
 rw [HFU.out]
 have HB1 : Hid (Below N w0 w1) := Lib.hid (by rw [← HN.out]; exact hb1)
 clear hb1 e0 e1 e2 e3
 by_cases hk0 : K = 0
 case neg =>
  obtain rfl : FU = 0 := by rw [← HFU.out]; unfold fullS; rw [if_neg (by rw [HK.out]; exact hk0)]
  have HC : Hid (qchk s q = 1) := Lib.hid (by unfold qchk; rw [if_pos (by rw [HK.out]; exact hk0)])
  clear hk0
  go_wp2_with fail
  go_ret
  exact RErr.mk HC.out HSS.out HBW.out HN1.out.1 HB1.out
 case pos =>
  subst hk0
  obtain ⟨b1, b2, b3, b4⟩ := chk_dims HK.out
  rw [HLN.out.1] at b1 b2
  rw [HLN.out.2.1] at b3
  rw [HLN.out.2.2.1] at b4
  have hfu : FU = 2 ^ nd - 1 := by rw [← HFU.out]; unfold fullS; rw [if_pos HK.out, HLN.out.1]
  have hfu0 : (FU == 0) = false := by
   have : nd = 1 ∨ nd = 2 ∨ nd = 3 ∨ nd = 4 ∨ nd = 5 ∨ nd = 6 := by omega
   rw [hfu]
   rcases this with rfl | rfl | rfl | rfl | rfl | rfl <;> decide
  have y0 : w1.cell? ⟨S + 1, 0, none⟩ = some (.int .u32 gr) := by rw [HB1.out.cell (p := ⟨S + 1, 0, none⟩) HN1.out.2]; exact HY.out.1
  have y1 : w1.cell? ⟨S + 1, 1, none⟩ = some (.slice af nf cf) := by rw [HB1.out.cell (p := ⟨S + 1, 1, none⟩) HN1.out.2]; exact HY.out.2.1
  have e0 : w1.cell? ⟨S, 0, none⟩ = some (.slice ad nd cd) := by rw [HB1.out.cell (p := ⟨S, 0, none⟩) HN1.out.1]; exact HE.out.1
  have e1 : w1.cell? ⟨S, 1, none⟩ = some (.slice ai ni ci) := by rw [HB1.out.cell (p := ⟨S, 1, none⟩) HN1.out.1]; exact HE.out.2.1
  have e2 : w1.cell? ⟨S, 2, none⟩ = some (.slice an nn cn) := by rw [HB1.out.cell (p := ⟨S, 2, none⟩) HN1.out.1]; exact HE.out.2.2.1
  have e3 : w1.cell? ⟨S, 3, none⟩ = some (.slice av nv cv) := by rw [HB1.out.cell (p := ⟨S, 3, none⟩) HN1.out.1]; exact HE.out.2.2.2
  have HFB := Lib.hid (group_fits (n := nd) gr0 gr1 b1)
  rw [← hfu] at HFB
  clear hfu
  by_cases hg : (2 : Int) ^ nd ≤ gr
  ·have t4 : (bits BinOp.andNot IntKind.u32 gr FU != 0) = true := by rw [HFB.out]; exact decide_eq_true hg
   have HC : Hid (qchk s q = 11) := Lib.hid (by unfold qchk; rw [if_neg (by rw [HK.out]; decide), HLN.out.1, HGR.out.1, if_pos hg])
   clear hg
   go_wp2_with fail
   go_ret
   exact RErr.mk HC.out HSS.out HBW.out HN1.out.1 HB1.out
  have t4 : (bits BinOp.andNot IntKind.u32 gr FU != 0) = false := by rw [HFB.out]; exact decide_eq_false hg
  have HNG := Lib.hid (Int.not_le.1 hg)
  obtain ⟨FK, hFK⟩ : ∃ k, fchk s q.flts = k := ⟨_, rfl⟩
  have HFK := Lib.hid hFK
  have HS1 := Lib.hid (HS.out.below HB1.out (Nat.le_of_eq HN.out))
  have HQ1 := Lib.hid (HQ.out.1.below HB1.out (Nat.le_of_eq HN.out))
  clear hg hFK
  go_wp2_with fail
  refine (fchk_any _ ⟨ad, nd, cd, ai, ni, ci, an, nn, cn, av, nv, cv⟩ s af nf cf q.flts HS1.out HQ1.out).mono ?_
  rintro e w2 ⟨rfl, hb2⟩
  rw [HFK.out]
  have HB2 := Lib.hid (HB1.out.trans (hb2.mono (by have := HB1.out.size; rw [HN.out] at this; exact this)))
  clear hb2 e0 e1 e2 e3 y0 y1 t4 HS1 HQ1
  by_cases hfk : FK = 0
  case neg =>
   have t5 : ((FK : Int) != 0) = true := by simp; omega
   have HC : Hid (qchk s q = FK) := Lib.hid (by unfold qchk; rw [if_neg (by rw [HK.out]; decide), HLN.out.1, HGR.out.1, if_neg (Int.not_le.2 HNG.out), if_pos (by rw [HFK.out]; exact hfk), HFK.out])
   clear hfk
   go_wp2_with fail
   go_ret
   exact RErr.mk HC.out HSS.out HBW.out HN1.out.1 HB2.out
  case pos =>
  subst hfk
  have y2 : w2.cell? ⟨S + 1, 2, none⟩ = some (.slice ac nc cc) := by rw [HB2.out.cell (p := ⟨S + 1, 2, none⟩) HN1.out.2]; exact HY.out.2.2.1
  have y3 : w2.cell? ⟨S + 1, 3, none⟩ = some (.slice ao no co) := by rw [HB2.out.cell (p := ⟨S + 1, 3, none⟩) HN1.out.2]; exact HY.out.2.2.2.1
  have HC2 : Hid (qchk s q = if nc = 0 ∨ 16 < nc ∨ 8 < no then 3 else if colsOk ni nn q.cols nc 0 = false then 2 else if ordOk nc q.ord no 0 = false then 2 else if lm < 0 then 2 else 0) := Lib.hid (by
   unfold qchk
   rw [if_neg (by rw [HK.out]; decide), HLN.out.1, HGR.out.1, if_neg (Int.not_le.2 HNG.out), if_neg (by rw [HFK.out]; decide), HLN.out.2.1, HLN.out.2.2.1, HLN.out.2.2.2.1, HLN.out.2.2.2.2, HGR.out.2])
  by_cases hc0 : nc = 0
  ·have t6 : ((nc : Int) == 0) = true := by simp; omega
   have HC : Hid (qchk s q = 3) := Lib.hid (by rw [HC2.out, if_pos (.inl hc0)])
   clear hc0
   go_wp2_with fail
   go_ret
   exact RErr.mk HC.out HSS.out HBW.out HN1.out.1 HB2.out
  have t6 : ((nc : Int) == 0) = false := by simp; omega
  by_cases hc1 : 16 < nc
  ·have t7 : decide ((16 : Int) < (nc : Int)) = true := decide_eq_true (by omega)
   have HC : Hid (qchk s q = 3) := Lib.hid (by rw [HC2.out, if_pos (.inr (.inl hc1))])
   clear hc0 hc1
   go_wp2_with fail
   go_ret
   exact RErr.mk HC.out HSS.out HBW.out HN1.out.1 HB2.out
  have t7 : decide ((16 : Int) < (nc : Int)) = false := decide_eq_false (by omega)
  by_cases hc2 : 8 < no
  ·have t8 : decide ((8 : Int) < (no : Int)) = true := decide_eq_true (by omega)
   have HC : Hid (qchk s q = 3) := Lib.hid (by rw [HC2.out, if_pos (.inr (.inr hc2))])
   clear hc0 hc1 hc2
   go_wp2_with fail
   go_ret
   exact RErr.mk HC.out HSS.out HBW.out HN1.out.1 HB2.out
  have t8 : decide ((8 : Int) < (no : Int)) = false := decide_eq_false (by omega)
  replace HC2 : Hid (qchk s q = if colsOk ni nn q.cols nc 0 = false then 2 else if ordOk nc q.ord no 0 = false then 2 else if lm < 0 then 2 else 0) := Lib.hid (by rw [HC2.out, if_neg (by omega)])
  have hc16 : nc ≤ 16 := by omega
  have hnc : 0 < nc := by omega
  have hno : no ≤ 8 := by omega
  clear hc0 hc1 hc2
  go_wp2_with fail
  clear y2 y3 t6 t7 t8
  go_loopg [46] nc (fun q5 iu wr => ∃ (i : Nat), iu = .int .i64 i ∧ i + q5 = nc ∧ colsOk ni nn q.cols q5 i = colsOk ni nn q.cols nc 0 ∧ Below N w0 wr)
  case atStart => exact ⟨0, rfl, by omega, rfl, HB2.out⟩
  case round =>
   obtain ⟨i, rfl, hq5, hco, hb⟩ := hrel
   have HQ5 := Lib.hid hq5
   have HCO := Lib.hid hco
   have HB := Lib.hid hb
   have hsz : N ≤ wr.heap.size := by have := hb.size; rw [HN.out] at this; exact this
   clear hq5 hco hb
   by_cases hlt : i < nc
   ·obtain ⟨gk2, hgk⟩ : ∃ g, gk = g + 1 := ⟨gk - 1, by have := HQ5.out; omega⟩
    have HG2 := Lib.hid hgk
    obtain ⟨b, off, e, hbl, hc⟩ := (HQ.out.2.1.below HB.out (Nat.le_of_eq HN.out)).at (by show 0 < nc; omega)
    simp only at e
    subst e
    have c0 := hc (i * 2) (by show i * 2 < nc * 2; omega)
    have c1 := hc (i * 2 + 1) (by show i * 2 + 1 < nc * 2; omega)
    obtain ⟨g0, g1⟩ := colCells_get (ds := q.cols) (i := i) (by rw [HLN.out.2.2.2.1]; exact hlt)
    rw [g0] at c0
    rw [g1, ← Nat.add_assoc] at c1
    have HI := Lib.hid (HQ.out.2.2.2.2.2.2.2.1 (colAt q.cols i) (colAt_mem (by rw [HLN.out.2.2.2.1]; exact hlt)))
    have HX := Lib.hid (colsOk_succ ni nn q.cols gk2 i)
    obtain ⟨⟨ck, cm⟩, hcl⟩ : ∃ f, colAt q.cols i = f := ⟨_, rfl⟩
    rw [hcl] at c0 c1 HI HX
    simp only at c0 c1
    obtain ⟨r, hr⟩ : ∃ r, colB ni nn ck cm = r := ⟨_, rfl⟩
    have HCALL : Hid (∀ w', Calls Tryz.prog 67 #[.agg #[.slice ad nd cd, .slice ai ni ci, .slice an nn cn, .slice av nv cv], .agg #[.int .i64 ck, .int .i64 cm]] w' fun e w'' => e = .returned (.bool r) ∧ Below w'.heap.size w' w'') := Lib.hid (fun w' => by
     have h := column_any w' ⟨ad, nd, cd, ai, ni, ci, an, nn, cn, av, nv, cv⟩ ck cm (by show ni ≤ 1000; omega) (by show nn ≤ 1000; omega) HI.out.1 HI.out.2
     simp only at h
     rw [hr] at h
     exact h)
    have HXR : Hid (colsOk ni nn q.cols (gk2 + 1) i = if r = false then false else colsOk ni nn q.cols gk2 (i + 1)) := Lib.hid (by rw [HX.out]; simp only; rw [hr])
    have HBC := Lib.hid (HB.out.alloc hsz (.cells #[.int .i64 ck, .int .i64 cm] 42))
    have e0 : wr.cell? ⟨S, 0, none⟩ = some (.slice ad nd cd) := by rw [HB.out.cell (p := ⟨S, 0, none⟩) HN1.out.1]; exact HE.out.1
    have e1 : wr.cell? ⟨S, 1, none⟩ = some (.slice ai ni ci) := by rw [HB.out.cell (p := ⟨S, 1, none⟩) HN1.out.1]; exact HE.out.2.1
    have e2 : wr.cell? ⟨S, 2, none⟩ = some (.slice an nn cn) := by rw [HB.out.cell (p := ⟨S, 2, none⟩) HN1.out.1]; exact HE.out.2.2.1
    have e3 : wr.cell? ⟨S, 3, none⟩ = some (.slice av nv cv) := by rw [HB.out.cell (p := ⟨S, 3, none⟩) HN1.out.1]; exact HE.out.2.2.2
    clear hgk hc g0 g1 hcl hr HX HI
    have hSw : S < wr.heap.size := Nat.lt_of_lt_of_le HN1.out.1 hsz
    go_wp2_with fail
    refine (HCALL.out _).mono ?_; rintro e w3 ⟨rfl, hb3⟩
    have HB3 := Lib.hid (HBC.out.trans (hb3.mono (by have := HBC.out.size; rw [HN.out] at this; exact this)))
    clear hb3 HBC HCALL c0 c1 e0 e1 e2 e3
    rcases r with _ | _
    ·have HC : Hid (qchk s q = 2) := Lib.hid (by
      have h1 : colsOk ni nn q.cols nc 0 = false := by rw [← HCO.out, HG2.out, HXR.out]; rfl
      rw [HC2.out, if_pos h1])
     go_wp2_with fail
     go_ret
     exact RErr.mk HC.out HSS.out HBW.out HN1.out.1 HB3.out
    ·have HXN : Hid (colsOk ni nn q.cols gk2 (i + 1) = colsOk ni nn q.cols nc 0) := Lib.hid (by rw [← HCO.out, HG2.out, HXR.out]; rfl)
     go_wp2_with fail
     go_roundg gk2
     case measure => have := HG2.out; omega
     case rel => exact ⟨i + 1, by go_num, by have := HQ5.out; have := HG2.out; omega, HXN.out, HB3.out⟩
   ·obtain rfl : i = nc := by have := HQ5.out; omega
    have HC3 : Hid (qchk s q = if ordOk i q.ord no 0 = false then 2 else if lm < 0 then 2 else 0) := Lib.hid (by
     have h1 : gk = 0 := by have := HQ5.out; omega
     have h2 : colsOk ni nn q.cols i 0 = true := by rw [← HCO.out, h1]; rfl
     rw [HC2.out, if_neg (by rw [h2]; decide)])
    have y3 : wr.cell? ⟨S + 1, 3, none⟩ = some (.slice ao no co) := by rw [HB.out.cell (p := ⟨S + 1, 3, none⟩) HN1.out.2]; exact HY.out.2.2.2.1
    have HB7 := HB
    clear HCO HQ5 HC2
    go_wp2_with fail
    clear y3
    go_loopg [58] no (fun q5 iu wx => ∃ (j : Nat), iu = .int .i64 j ∧ j + q5 = no ∧ ordOk i q.ord q5 j = ordOk i q.ord no 0 ∧ Below N w0 wx)
    case atStart => exact ⟨0, rfl, by omega, rfl, HB7.out⟩
    case round =>
     obtain ⟨j, rfl, hq5, hco, hb⟩ := hrel
     have HQ5 := Lib.hid hq5
     have HCO := Lib.hid hco
     have HB8 := Lib.hid hb
     have hsz8 : N ≤ wr.heap.size := by have := hb.size; rw [HN.out] at this; exact this
     clear hq5 hco hb
     by_cases hlt : j < no
     ·obtain ⟨gk2, hgk⟩ : ∃ g, gk = g + 1 := ⟨gk - 1, by have := HQ5.out; omega⟩
      have HG2 := Lib.hid hgk
      obtain ⟨b, off, e, hbl, hc⟩ := (HQ.out.2.2.2.1.below HB8.out (Nat.le_of_eq HN.out)).at (by show 0 < no; omega)
      simp only at e
      subst e
      have c0 := hc (j * 2) (by show j * 2 < no * 2; omega)
      have c1 := hc (j * 2 + 1) (by show j * 2 + 1 < no * 2; omega)
      obtain ⟨g0, g1⟩ := ordCells_get (ds := q.ord) (i := j) (by rw [HLN.out.2.2.2.2]; exact hlt)
      rw [g0] at c0
      rw [g1, ← Nat.add_assoc] at c1
      have HI := Lib.hid (HQ.out.2.2.2.2.2.2.2.2 (ordAt q.ord j) (ordAt_mem (by rw [HLN.out.2.2.2.2]; exact hlt)))
      have HX := Lib.hid (ordOk_succ i q.ord gk2 j)
      obtain ⟨⟨oc, od⟩, hcl⟩ : ∃ f, ordAt q.ord j = f := ⟨_, rfl⟩
      rw [hcl] at c0 c1 HI HX
      simp only at c0 c1
      have HXR : Hid (ordOk i q.ord no 0 = if oc < 0 ∨ (i : Int) ≤ oc then false else ordOk i q.ord gk2 (j + 1)) := Lib.hid (by rw [← HCO.out, HG2.out, HX.out])
      obtain ⟨oc0, oc1⟩ : I64 oc := HI.out
      have y2 : wr.cell? ⟨S + 1, 2, none⟩ = some (.slice ac i cc) := by rw [HB8.out.cell (p := ⟨S + 1, 2, none⟩) HN1.out.2]; exact HY.out.2.2.1
      have hSw : S + 1 < wr.heap.size := Nat.lt_of_lt_of_le HN1.out.2 hsz8
      clear hgk hc g0 g1 hcl HX HI
      by_cases ho0 : oc < 0
      ·have t1 : decide (oc < 0) = true := decide_eq_true ho0
       have HC : Hid (qchk s q = 2) := Lib.hid (by rw [HC3.out, if_pos (by rw [HXR.out, if_pos (.inl ho0)])])
       go_wp2_with fail
       go_ret
       exact RErr.mk HC.out HSS.out HBW.out HN1.out.1 (HB8.out.alloc hsz8 _)
      have t1 : decide (oc < 0) = false := decide_eq_false ho0
      by_cases ho1 : (i : Int) ≤ oc
      ·have t2 : decide ((i : Int) ≤ oc) = true := decide_eq_true ho1
       have HC : Hid (qchk s q = 2) := Lib.hid (by rw [HC3.out, if_pos (by rw [HXR.out, if_pos (.inr ho1)])])
       go_wp2_with fail
       go_ret
       exact RErr.mk HC.out HSS.out HBW.out HN1.out.1 (HB8.out.alloc hsz8 _)
      have t2 : decide ((i : Int) ≤ oc) = false := decide_eq_false ho1
      have HXN : Hid (ordOk i q.ord gk2 (j + 1) = ordOk i q.ord no 0) := Lib.hid (by rw [HXR.out, if_neg (by omega)])
      clear ho0 ho1
      go_wp2_with fail
      go_roundg gk2
      case measure => have := HG2.out; omega
      case rel => exact ⟨j + 1, by go_num, by have := HQ5.out; have := HG2.out; omega, HXN.out, HB8.out.alloc hsz8 _⟩
     ·obtain rfl : j = no := by have := HQ5.out; omega
      have HC4 : Hid (qchk s q = if lm < 0 then 2 else 0) := Lib.hid (by
       have h1 : gk = 0 := by have := HQ5.out; omega
       have h2 : ordOk i q.ord j 0 = true := by rw [← HCO.out, h1]; rfl
       rw [HC3.out, if_neg (by rw [h2]; decide)])
      have y4 : wr.cell? ⟨S + 1, 4, none⟩ = some (.int .i64 lm) := by rw [HB8.out.cell (p := ⟨S + 1, 4, none⟩) HN1.out.2]; exact HY.out.2.2.2.2
      by_cases hl0 : lm < 0
      ·have t1 : decide (lm < 0) = true := decide_eq_true hl0
       have HC : Hid (qchk s q = 2) := Lib.hid (by rw [HC4.out, if_pos hl0])
       go_wp2_with fail
       go_ret
       exact RErr.mk HC.out HSS.out HBW.out HN1.out.1 HB8.out
      ·have t1 : decide (lm < 0) = false := decide_eq_false hl0
       have HC : Hid (qchk s q = 0) := Lib.hid (by rw [HC4.out, if_neg hl0])
       go_wp2_with fail
       go_ret
       exact RErr.mk HC.out HSS.out HBW.out HN1.out.1 HB8.out
end Go.Proofs.YtehmompbmnejkaaGreat
/- Whether a column may be: the contract of package derive's may. No conditions but those stated. -/
namespace Go.Proofs.YtehmompbmnejkaaGreat
open Go.RowKit

def mayQ (k m : Int) : Qry := ⟨0, [], [(k, m)], [], 0⟩
noncomputable def mayB (s : Sch) (k m : Int) : Bool := decide (chkS s = 0) && colB s.ints.length s.nums.length k m
theorem may_chk (s : Sch) (k m : Int) : decide (qchk s (mayQ k m) = 0) = mayB s k m := by
 have hp : (0 : Int) < 2 ^ s.dims.length := Int.pow_pos (by decide)
 unfold qchk mayB
 by_cases h : chkS s = 0
 ·have hf : fchk s (mayQ k m).flts = 0 := by unfold fchk; rw [if_neg (by rw [h]; decide)]; rfl
  rw [if_neg (by rw [h]; decide), if_neg (by show ¬ (2 : Int) ^ s.dims.length ≤ 0; omega), if_neg (by rw [hf]; decide)]
  rcases hc : colB s.ints.length s.nums.length k m with _ | _
  ·simp [mayQ, colsOk, colAt, hc, h]
  ·simp [mayQ, colsOk, colAt, ordOk, hc, h]
 ·rw [if_pos h, decide_eq_false h]; rfl

set_option maxHeartbeats 2000000 in
theorem may_any (w : World) (l : SchL) (s : Sch) (k m : Int) (h : SchAt w l s) (hk : I64 k) (hm : I64 m) :
    Calls Tryz.prog 18 #[l.val, .agg #[.int .i64 k, .int .i64 m]] w fun e w' => e = .returned (.bool (mayB s k m)) ∧ Below w.heap.size w w' := by
  obtain ⟨ad, nd, cd, ai, ni, ci, an, nn, cn, av, nv, cv⟩ := l
  obtain ⟨hbx, hby, hbw, hsz⟩ := two_pbox w 26 42 #[.slice ad nd cd, .slice ai ni ci, .slice an nn cn, .slice av nv cv] #[.int .i64 k, .int .i64 m]
  have HS := Lib.hid (h.below hbw (Nat.le_refl _))
  have HBW := Lib.hid hbw
  have HKM := Lib.hid (And.intro hk hm)
  have e0 := hbx 0
  have e1 := hbx 1
  have e2 := hbx 2
  have e3 := hbx 3
  have y0 := hby 0
  have y1 := hby 1
  simp only [List.getElem?_toArray, List.getElem?_cons_zero, List.getElem?_cons_succ] at e0 e1 e2 e3 y0 y1
  have HSZ := Lib.hid hsz
  clear h hbw hbx hby hsz hk hm
  unfold SchL.val
  go_enter Tryz.func18, Tryz.ntmps18
  go_upto_region 1 with fail
  generalize ((w.alloc (.cells #[.slice ad nd cd, .slice ai ni ci, .slice an nn cn, .slice av nv cv] 26)).alloc (.cells #[.int .i64 k, .int .i64 m] 42)) = w0 at *
  generalize hS : w.heap.size = S at *
  have HSS := Lib.hid hS
  clear hS
  have hSw : S < w0.heap.size := by have := HSZ.out; omega
  have hSw1 : S + 1 < w0.heap.size := by have := HSZ.out; omega
  obtain ⟨hbz, hbv, hbs⟩ := boxed w0 42 #[.int .i64 k, .int .i64 m]
  have HQ : Hid (QryAt (w0.alloc (.cells #[.int .i64 k, .int .i64 m] 42)) ⟨none, 0, 0, some ⟨w0.heap.size, 0, none⟩, 1, 1, none, 0, 0⟩ (mayQ k m)) := Lib.hid
    ⟨⟨⟨rfl, Nat.le_refl _, Nat.zero_le _, .inl rfl⟩, rfl, fun f hf => by cases hf⟩,
     ⟨rfl, Nat.le_refl _, by show 1 ≤ maxLen; unfold maxLen; omega, .inr ⟨w0.heap.size, 0, rfl, by simp, fun i hi => by
        rw [Nat.zero_add, hbz i]
        have : i = 0 ∨ i = 1 := by simp only at hi; omega
        rcases this with rfl | rfl <;> rfl⟩⟩, rfl,
     ⟨rfl, Nat.le_refl _, Nat.zero_le _, .inl rfl⟩, rfl, (show (0 : Int) ≤ 0 ∧ (0 : Int) ≤ 4294967295 by decide), (show -9223372036854775808 ≤ (0 : Int) ∧ (0 : Int) ≤ 9223372036854775807 by decide),
     fun c hc => by
       have : c = (k, m) := by simpa [mayQ] using hc
       subst this; exact HKM.out,
     fun o ho => by cases ho⟩
  have HS2 := Lib.hid (HS.out.below hbv (Nat.le_refl _))
  have HBV : Hid (Below S w (w0.alloc (.cells #[.int .i64 k, .int .i64 m] 42))) := Lib.hid (HBW.out.trans (hbv.mono (Nat.le_of_lt hSw)))
  obtain ⟨K, hK⟩ : ∃ K, qchk s (mayQ k m) = K := ⟨_, rfl⟩
  have HR : Hid (mayB s k m = decide (K = 0)) := Lib.hid (by rw [← may_chk, hK])
  have HCALL : Hid (∀ w', SchAt w' ⟨ad, nd, cd, ai, ni, ci, an, nn, cn, av, nv, cv⟩ s → QryAt w' ⟨none, 0, 0, some ⟨w0.heap.size, 0, none⟩, 1, 1, none, 0, 0⟩ (mayQ k m) → Calls Tryz.prog 38 #[.agg #[.slice ad nd cd, .slice ai ni ci, .slice an nn cn, .slice av nv cv], .agg #[.int .u32 0, .slice none 0 0, .slice (some ⟨w0.heap.size, 0, none⟩) 1 1, .slice none 0 0, .int .i64 0]] w' fun e w'' => e = .returned (.int .i64 (K : Int)) ∧ Below w'.heap.size w' w'') := Lib.hid (fun w' h1 h2 => by
    have h := qchk_any w' _ s _ _ h1 h2
    unfold RErr at h
    rw [hK] at h
    exact h)
  clear hbz hbv hbs hK
  go_wp2_with fail
  refine (HCALL.out _ HS2.out HQ.out).mono ?_; rintro e w1 ⟨rfl, hb1⟩
  have HB1 := Lib.hid (HBV.out.trans (hb1.mono (by simp; omega)))
  clear hb1
  go_wp2_with fail
  go_ret
  refine ⟨?_, by rw [HSS.out]; exact HB1.out⟩
  rw [HR.out]
  refine ret_b ?_
  rw [Bool.eq_iff_iff, decide_eq_true_eq]
  simp
end Go.Proofs.YtehmompbmnejkaaGreat
