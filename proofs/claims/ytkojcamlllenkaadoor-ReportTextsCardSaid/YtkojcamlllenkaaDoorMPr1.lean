/- Filters and queries under the reference: the contracts of package bushelref11's Full and of package bushelref28's Check. No conditions but those stated. -/
import Derived.Test.YtkojcamlllenkaaDoorMSch
import Derived.Test.YtkojcamlllenkaaDoorMRs1
import Derived.Test.YtkojcamlllenkaaDoorRsDc
import Derived.Test.YtkojcamlllenkaaDoorLexG
import Derived.Test.YtkojcamlllenkaaDoorMReg
import Derived.BigQuiet
namespace Go.Proofs.YtkojcamlllenkaaDoor
open Go.RowKit

set_option maxRecDepth 100000 in
set_option maxHeartbeats 4000000 in
theorem rfchk_any (w : World) (l : SchL) (s : Sch) (fa : Option Addr) (fn fc : Nat) (fs : List Flt) (h : SchAt w l s) (hf : FltsAt w fa fn fc fs) :
  Calls Tryd.prog 44 #[l.val, .slice fa fn fc] w (RErr (fchk s fs) w) := by
 obtain ⟨ad, nd, cd, ai, ni, ci, an, nn, cn, av, nv, cv⟩ := l
 have HND := Lib.hid (show s.dims.length = nd from h.2.1)
 have HFN := Lib.hid hf.2.1
 have m5 : fn ≤ 9223372036854775807 := by have h1 := hf.1.2.1; have h2 := hf.1.2.2.1; unfold maxLen at h2; omega
 obtain ⟨hbx, hbw, hsz⟩ := boxed w 26 #[.slice ad nd cd, .slice ai ni ci, .slice an nn cn, .slice av nv cv]
 have HS := Lib.hid (h.below hbw (Nat.le_refl _))
 have HF := Lib.hid (hf.below hbw (Nat.le_refl _))
 have HBW := Lib.hid hbw
 obtain ⟨N, hN⟩ : ∃ N, (w.alloc (.cells #[.slice ad nd cd, .slice ai ni ci, .slice an nn cn, .slice av nv cv] 26)).heap.size = N := ⟨_, rfl⟩
 have HN1 : Hid (w.heap.size < N) := Lib.hid (by rw [← hN, hsz]; omega)
 have e0 := hbx 0
 have e1 := hbx 1
 have e2 := hbx 2
 have e3 := hbx 3
 simp only [List.getElem?_toArray, List.getElem?_cons_zero, List.getElem?_cons_succ] at e0 e1 e2 e3
 have HE0 := Lib.hid e0
 obtain ⟨K, hK⟩ : ∃ K, chkS s = K := ⟨_, rfl⟩
 have HK := Lib.hid hK
 clear h hf hbw hbx hsz hK
 unfold SchL.val
 go_enter Tryd.func44, Tryd.ntmps44
 go_upto_region 1 with fail
 generalize (w.alloc (.cells #[.slice ad nd cd, .slice ai ni ci, .slice an nn cn, .slice av nv cv] 26)) = w0 at *
 generalize hS : w.heap.size = S at *
 have HSS := Lib.hid hS
 have HN := Lib.hid hN
 clear hS hN
 go_wp2_with fail
 refine (rchk_any _ ⟨ad, nd, cd, ai, ni, ci, an, nn, cn, av, nv, cv⟩ s HS.out).mono ?_
 rintro e w1 ⟨rfl, hb1⟩
 rw [HK.out]
 have HB1 : Hid (Below N w0 w1) := Lib.hid (by rw [← HN.out]; exact hb1)
 clear hb1 e0 e1 e2 e3
 by_cases hk0 : K = 0
 case neg =>
  have hk2 : ((K : Int) != 0) = true := by simp; omega
  have HC : Hid (fchk s fs = 1) := Lib.hid (by unfold fchk; rw [if_pos (by rw [HK.out]; exact hk0)])
  clear hk0
  go_wp2_with fail
  go_ret
  exact RErr.mk HC.out HSS.out HBW.out HN1.out HB1.out
 case pos =>
  subst hk0
  obtain ⟨b1, b2, -, -⟩ := chk_dims HK.out
  rw [HND.out] at b1 b2
  by_cases hl : 20 < fn
  ·have t1 : decide ((20 : Int) < (fn : Int)) = true := decide_eq_true (by omega)
   have HC : Hid (fchk s fs = 3) := Lib.hid (by unfold fchk; rw [if_neg (by rw [HK.out]; decide), if_pos (by rw [HFN.out]; exact hl)])
   clear hl
   go_wp2_with fail
   go_ret
   exact RErr.mk HC.out HSS.out HBW.out HN1.out HB1.out
  ·have t1 : decide ((20 : Int) < (fn : Int)) = false := decide_eq_false (by omega)
   have HC : Hid (fchk s fs = fltsN s.dims fs fn 0) := Lib.hid (by unfold fchk; rw [if_neg (by rw [HK.out]; decide), if_neg (by rw [HFN.out]; exact hl), HFN.out])
   obtain ⟨bD, oD, e, hbl, hcD⟩ := (HS.out.1).at (by show 0 < nd; omega)
   simp only at e
   subst e
   have HCD := Lib.hid hcD
   have HBD : Hid (bD < N) := Lib.hid (by rw [← HN.out]; exact hbl)
   clear hcD hbl
   go_wp2_with fail
   clear t1 hl
   go_loopg [5] fn (fun q iu wr => ∃ (i : Nat), iu = .int .i64 i ∧ i + q = fn ∧ fltsN s.dims fs q i = fltsN s.dims fs fn 0 ∧ Below N w0 wr)
   case atStart => exact ⟨0, rfl, by omega, rfl, HB1.out⟩
   case round =>
    obtain ⟨i, rfl, hq, hfo, hb⟩ := hrel
    have HQ := Lib.hid hq
    have HFO := Lib.hid hfo
    have HB := Lib.hid hb
    have hsz : N ≤ wr.heap.size := by have := hb.size; rw [HN.out] at this; exact this
    clear hq hfo hb
    by_cases hlt : i < fn
    ·obtain ⟨gk2, hgk⟩ : ∃ g, gk = g + 1 := ⟨gk - 1, by have := HQ.out; omega⟩
     have HG2 := Lib.hid hgk
     obtain ⟨b, off, rfl, hbl, hc⟩ := (HF.out.1.below HB.out (Nat.le_of_eq HN.out)).at (by omega)
     have c0 := hc (i * 2) (by omega)
     have c1 := hc (i * 2 + 1) (by omega)
     obtain ⟨g0, g1⟩ := fltCells_get (fs := fs) (i := i) (by rw [HFN.out]; exact hlt)
     rw [g0] at c0
     rw [g1, ← Nat.add_assoc] at c1
     have HM := Lib.hid (HF.out.2.2 (fltAt fs i) (fltAt_mem (by rw [HFN.out]; exact hlt)))
     have HX := Lib.hid (fltsN_succ s.dims fs gk2 i)
     obtain ⟨⟨d, cs, ka, kn, kc⟩, hfl⟩ : ∃ f, fltAt fs i = f := ⟨_, rfl⟩
     rw [hfl] at c0 c1 HM HX
     obtain ⟨hrk, d0, d1, hcb⟩ := HM.out
     simp only at c0 c1 hrk d0 d1 hcb
     have HRK := Lib.hid (hrk.below HB.out (Nat.le_of_eq HN.out))
     have HCB := Lib.hid hcb
     have HKL := Lib.hid hrk.1
     have mk : kn ≤ 9223372036854775807 := by have h1 := hrk.2.1; have h2 := hrk.2.2.1; unfold maxLen at h2; omega
     have HV : Hid (fltsN s.dims fs fn 0 = if d < 0 ∨ (nd : Int) ≤ d then 11 else if 4096 < kn then 3 else if codesOk (dimAt s.dims d.toNat).2 cs kn 0 = false then 2 else fltsN s.dims fs gk2 (i + 1)) := Lib.hid (by
      rw [← HFO.out, hgk, HX.out, HND.out, HKL.out])
     have e0 : wr.cell? ⟨S, 0, none⟩ = some (.slice (some ⟨bD, oD, none⟩) nd cd) := by rw [HB.out.cell (p := ⟨S, 0, none⟩) HN1.out]; exact HE0.out
     have hSw : S < wr.heap.size := Nat.lt_of_lt_of_le HN1.out hsz
     clear hgk hc g0 g1 hfl hrk hcb HM HX
     by_cases hd0 : d < 0
     ·have HCC : Hid (fchk s fs = 11) := Lib.hid (by rw [HC.out, HV.out, if_pos (.inl hd0)])
      have t1 : decide (d < 0) = true := decide_eq_true hd0
      go_wp2_with fail
      go_ret
      exact RErr.mk HCC.out HSS.out HBW.out HN1.out (HB.out.alloc hsz _)
     have t1 : decide (d < 0) = false := decide_eq_false hd0
     by_cases hd1 : (nd : Int) ≤ d
     ·have HCC : Hid (fchk s fs = 11) := Lib.hid (by rw [HC.out, HV.out, if_pos (.inr hd1)])
      have t2 : decide ((nd : Int) ≤ d) = true := decide_eq_true hd1
      go_wp2_with fail
      go_ret
      exact RErr.mk HCC.out HSS.out HBW.out HN1.out (HB.out.alloc hsz _)
     obtain ⟨dk, rfl⟩ : ∃ dk : Nat, d = (dk : Int) := ⟨d.toNat, by omega⟩
     have t2 : decide ((nd : Int) ≤ (dk : Int)) = false := decide_eq_false hd1
     have t2' : decide (nd ≤ dk) = false := decide_eq_false (by omega)
     have hdn : dk < nd := by omega
     have HNB : Hid (¬ ((dk : Int) < 0 ∨ (nd : Int) ≤ (dk : Int))) := Lib.hid (by omega)
     clear hd0 hd1
     by_cases hkn : 4096 < kn
     ·have HCC : Hid (fchk s fs = 3) := Lib.hid (by rw [HC.out, HV.out, if_neg HNB.out, if_pos hkn])
      have t3 : decide ((4096 : Int) < (kn : Int)) = true := decide_eq_true (by omega)
      go_wp2_with fail
      go_ret
      exact RErr.mk HCC.out HSS.out HBW.out HN1.out (HB.out.alloc hsz _)
     have t3 : decide ((4096 : Int) < (kn : Int)) = false := decide_eq_false (by omega)
     have HNC : Hid (¬ 4096 < kn) := Lib.hid hkn
     clear hkn
     obtain ⟨hby, hbv, hbz⟩ := boxed wr 79 #[.int .i64 (dk : Int), .slice ka kn kc]
     have HB2 := Lib.hid (HB.out.alloc hsz (.cells #[.int .i64 (dk : Int), .slice ka kn kc] 79))
     have HRK2 := Lib.hid (HRK.out.below hbv (Nat.le_refl _))
     have y0 := hby 0
     have y1 := hby 1
     simp only [List.getElem?_toArray, List.getElem?_cons_zero, List.getElem?_cons_succ] at y0 y1
     have HZ2 : Hid (wr.heap.size < (wr.alloc (.cells #[.int .i64 (dk : Int), .slice ka kn kc] 79)).heap.size ∧ N ≤ (wr.alloc (.cells #[.int .i64 (dk : Int), .slice ka kn kc] 79)).heap.size) := Lib.hid (by rw [World.size_alloc]; omega)
     have HY0 := Lib.hid y0
     have HY1 := Lib.hid y1
     have HGS : Hid (N ≤ wr.heap.size) := Lib.hid hsz
     clear hbv hbz hby y0 y1
     go_upto_region 13 with fail
     have y0 := HY0.out
     have y1 := HY1.out
     clear c0 c1 e0 HB HRK hSw hbl
     generalize (wr.alloc (.cells #[.int .i64 (dk : Int), .slice ka kn kc] 79)) = w2 at *
     generalize wr.heap.size = G at *
     go_wp2_with fail
     clear y0 y1
     have e0 : w2.cell? ⟨S, 0, none⟩ = some (.slice (some ⟨bD, oD, none⟩) nd cd) := by rw [HB2.out.cell (p := ⟨S, 0, none⟩) HN1.out]; exact HE0.out
     have cz : w2.cell? ⟨bD, oD + dk * 2 + 1, none⟩ = some (.int .i64 (dimAt s.dims dk).2) := by
      rw [HB2.out.cell (p := ⟨bD, oD + dk * 2 + 1, none⟩) HBD.out, Nat.add_assoc, HCD.out (dk * 2 + 1) (by show dk * 2 + 1 < nd * 2; omega), (dimCells_get (ds := s.dims) (i := dk) (by rw [HND.out]; exact hdn)).2]
     have HE2 := Lib.hid e0
     obtain ⟨z, hz⟩ : ∃ z, (dimAt s.dims dk).2 = z := ⟨_, rfl⟩
     rw [Int.toNat_natCast, hz] at HV
     rw [hz] at cz
     have HCZ := Lib.hid cz
     clear hz e0 cz
     go_loopg [7] kn (fun q iu wx => ∃ (m : Nat), iu = .int .i64 m ∧ m + q = kn ∧ codesOk z cs q m = codesOk z cs kn 0 ∧ Below w2.heap.size w2 wx)
     case atStart => exact ⟨0, rfl, by omega, rfl, Below.refl _ _⟩
     case round =>
      obtain ⟨m, rfl, hq, hco, hbw⟩ := hrel
      have HQ6 := Lib.hid hq
      have HCO := Lib.hid hco
      have HBX := Lib.hid hbw
      have HB3 : Hid (Below N w0 wr) := Lib.hid (HB2.out.trans (hbw.mono HZ2.out.2))
      have e0 : wr.cell? ⟨S, 0, none⟩ = some (.slice (some ⟨bD, oD, none⟩) nd cd) := by rw [hbw.cell (p := ⟨S, 0, none⟩) (Nat.lt_of_lt_of_le HN1.out HZ2.out.2)]; exact HE2.out
      have cz : wr.cell? ⟨bD, oD + dk * 2 + 1, none⟩ = some (.int .i64 z) := by rw [hbw.cell (p := ⟨bD, oD + dk * 2 + 1, none⟩) (Nat.lt_of_lt_of_le HBD.out HZ2.out.2)]; exact HCZ.out
      have y0 : wr.cell? ⟨G, 0, none⟩ = some (.int .i64 (dk : Int)) := by rw [hbw.cell (p := ⟨G, 0, none⟩) HZ2.out.1]; exact HY0.out
      have y1 : wr.cell? ⟨G, 1, none⟩ = some (.slice ka kn kc) := by rw [hbw.cell (p := ⟨G, 1, none⟩) HZ2.out.1]; exact HY1.out
      clear hq hco hbw
      by_cases hlt : m < kn
      ·obtain ⟨gk3, hgk⟩ : ∃ g, gk = g + 1 := ⟨gk - 1, by have := HQ6.out; omega⟩
       have HG3 := Lib.hid hgk
       obtain ⟨b2, off2, rfl, hbl, hc⟩ := rowk_at (HRK2.out.below HBX.out (Nat.le_refl _)) (by omega)
       have c0 := hc m hlt
       have HX2 := Lib.hid (codesOk_succ z cs gk3 m)
       have hxb := HCB.out (cs.getD m 0) (geti_mem (by rw [HKL.out]; exact hlt))
       obtain ⟨x, hx⟩ : ∃ x, cs.getD m 0 = x := ⟨_, rfl⟩
       rw [hx] at c0 HX2 hxb
       obtain ⟨x0, x1⟩ := hxb
       have HBC : Hid (codesOk z cs (gk3 + 1) m = false → fchk s fs = 2) := Lib.hid (fun h => by
        rw [hgk, h] at HCO
        rw [HC.out, HV.out, if_neg HNB.out, if_neg HNC.out, if_pos HCO.out.symm])
       clear hgk hx hc hbl
       by_cases hx0 : x < 0
       ·have HCC := Lib.hid (HBC.out (by rw [HX2.out, if_pos (.inl hx0)]))
        have t4 : decide (x < 0) = true := decide_eq_true hx0
        go_upto_region 16 with fail
        go_quiet (fail)
        go_wp2_with fail
        go_ret
        exact RErr.mk HCC.out HSS.out HBW.out HN1.out (blk_dn HB3.out nq)
       have t4 : decide (x < 0) = false := decide_eq_false hx0
       by_cases hx1 : z ≤ x
       ·have HCC := Lib.hid (HBC.out (by rw [HX2.out, if_pos (.inr hx1)]))
        have t5 : decide (z ≤ x) = true := decide_eq_true hx1
        go_upto_region 16 with fail
        go_quiet (fail)
        go_wp2_with fail
        go_ret
        exact RErr.mk HCC.out HSS.out HBW.out HN1.out (blk_dn HB3.out nq)
       have t5 : decide (z ≤ x) = false := decide_eq_false hx1
       have HCN : Hid (codesOk z cs gk3 (m + 1) = codesOk z cs kn 0) := Lib.hid (by rw [← HCO.out, HG3.out, HX2.out, if_neg (by omega)])
       clear hx0 hx1
       go_upto_region 16 with fail
       go_quiet (fail)
       go_wp2_with fail
       go_roundg gk3
       case measure => have := HG3.out; omega
       case rel => exact ⟨m + 1, by go_num, by have := HQ6.out; have := HG3.out; omega, HCN.out, blk_dn HBX.out nq⟩
      ·obtain rfl : m = kn := by have := HQ6.out; omega
       have HFN2 : Hid (fltsN s.dims fs gk2 (i + 1) = fltsN s.dims fs fn 0) := Lib.hid (by
        have h1 : gk = 0 := by have := HQ6.out; omega
        have h2 : codesOk z cs m 0 = true := by rw [← HCO.out, h1]; rfl
        rw [HV.out, if_neg HNB.out, if_neg HNC.out, if_neg (by rw [h2]; decide)])
       go_wp2_with fail
       go_roundg gk2
       case measure => have := HG2.out; omega
       case rel => exact ⟨i + 1, by go_num, by have := HQ.out; have := HG2.out; omega, HFN2.out, HB3.out⟩
    ·obtain rfl : i = fn := by have := HQ.out; omega
     have HCC : Hid (fchk s fs = 0) := Lib.hid (by
      have h1 : gk = 0 := by have := HQ.out; omega
      rw [HC.out, ← HFO.out, h1]; rfl)
     go_wp2_with fail
     go_ret
     exact RErr.mk HCC.out HSS.out HBW.out HN1.out HB.out
end Go.Proofs.YtkojcamlllenkaaDoor
/- Filters and queries under the reference: the contract of package bushelref29's Check. No conditions but those stated. -/
namespace Go.Proofs.YtkojcamlllenkaaDoor
open Go.RowKit

set_option maxHeartbeats 1000000 in
theorem rfull_any (w : World) (l : SchL) (s : Sch) (h : SchAt w l s) (hn : s.dims.length ≤ 6) :
  Calls Tryd.prog 43 #[l.val] w fun e w' => e = .returned (.int .u32 (2 ^ s.dims.length - 1)) ∧ Below w.heap.size w w' := by
 obtain ⟨ad, nd, cd, ai, ni, ci, an, nn, cn, av, nv, cv⟩ := l
 have hnd : s.dims.length = nd := h.2.1
 rw [hnd] at hn ⊢
 obtain ⟨hbx, hbw, hsz⟩ := boxed w 26 #[.slice ad nd cd, .slice ai ni ci, .slice an nn cn, .slice av nv cv]
 have HBW := Lib.hid hbw
 have e0 := hbx 0
 simp only [List.getElem?_toArray, List.getElem?_cons_zero] at e0
 have HT := Lib.hid (fun w' => rtwo_any nd w' (by omega))
 obtain ⟨T1, T2⟩ := two_small (n := nd) (by omega)
 obtain ⟨T, hT⟩ : ∃ T : Int, (2 : Int) ^ nd = T := ⟨_, rfl⟩
 rw [hT] at HT T1 T2 ⊢
 clear h hnd hbx hbw hsz hT
 unfold SchL.val
 go_enter Tryd.func43, Tryd.ntmps43
 go_upto_region 1 with fail
 generalize (w.alloc (.cells #[.slice ad nd cd, .slice ai ni ci, .slice an nn cn, .slice av nv cv] 26)) = w0 at *
 go_wp2_with fail
 refine (HT.out _).mono ?_; rintro e w1 ⟨rfl, rfl⟩
 go_wp2_with fail
 go_ret
 exact ⟨rfl, HBW.out⟩

set_option maxRecDepth 100000 in
set_option maxHeartbeats 4000000 in
theorem rqchk_any (w : World) (l : SchL) (s : Sch) (m : QryL) (q : Qry) (h : SchAt w l s) (hq : QryAt w m q) :
  Calls Tryd.prog 21 #[l.val, m.val q] w (RErr (qchk s q) w) := by
 obtain ⟨ad, nd, cd, ai, ni, ci, an, nn, cn, av, nv, cv⟩ := l
 obtain ⟨af, nf, cf, ac, nc, cc, ao, no, co⟩ := m
 have HLN := Lib.hid (And.intro (show s.dims.length = nd from h.2.1) (And.intro (show s.ints.length = ni from h.2.2.1.1) (And.intro (show s.nums.length = nn from h.2.2.2.1.1) (And.intro (show q.cols.length = nc from hq.2.2.1) (show q.ord.length = no from hq.2.2.2.2.1)))))
 obtain ⟨gr, hgr⟩ : ∃ g, q.group = g := ⟨_, rfl⟩
 obtain ⟨lm, hlm⟩ : ∃ g, q.limit = g := ⟨_, rfl⟩
 obtain ⟨gr0, gr1⟩ : 0 ≤ gr ∧ gr ≤ 4294967295 := hgr ▸ hq.2.2.2.2.2.1
 obtain ⟨lm0, lm1⟩ : I64 lm := hlm ▸ hq.2.2.2.2.2.2.1
 have mc : nc ≤ 9223372036854775807 := by have h1 := hq.2.1.2.1; have h2 := hq.2.1.2.2.1; simp only at h1 h2; unfold maxLen at h2; omega
 have mo : no ≤ 9223372036854775807 := by have h1 := hq.2.2.2.1.2.1; have h2 := hq.2.2.2.1.2.2.1; simp only at h1 h2; unfold maxLen at h2; omega
 unfold SchL.val QryL.val
 simp only
 rw [hgr, hlm]
 obtain ⟨hbx, hby, hbw, hsz⟩ := two_pbox w 26 32 #[.slice ad nd cd, .slice ai ni ci, .slice an nn cn, .slice av nv cv] #[.int .u32 gr, .slice af nf cf, .slice ac nc cc, .slice ao no co, .int .i64 lm]
 have HS := Lib.hid (h.below hbw (Nat.le_refl _))
 have HQ := Lib.hid (hq.below hbw (Nat.le_refl _))
 have HBW := Lib.hid hbw
 have HGR := Lib.hid (And.intro hgr hlm)
 obtain ⟨N, hN⟩ : ∃ N, ((w.alloc (.cells #[.slice ad nd cd, .slice ai ni ci, .slice an nn cn, .slice av nv cv] 26)).alloc (.cells #[.int .u32 gr, .slice af nf cf, .slice ac nc cc, .slice ao no co, .int .i64 lm] 32)).heap.size = N := ⟨_, rfl⟩
 have HN1 : Hid (w.heap.size < N ∧ w.heap.size + 1 < N) := Lib.hid (by rw [← hN, hsz]; omega)
 have e0 := hbx 0
 have e1 := hbx 1
 have e2 := hbx 2
 have e3 := hbx 3
 have y0 := hby 0
 have y1 := hby 1
 have y2 := hby 2
 have y3 := hby 3
 have y4 := hby 4
 simp only [List.getElem?_toArray, List.getElem?_cons_zero, List.getElem?_cons_succ] at e0 e1 e2 e3 y0 y1 y2 y3 y4
 have HE := Lib.hid (And.intro e0 (And.intro e1 (And.intro e2 e3)))
 have HY := Lib.hid (And.intro y0 (And.intro y1 (And.intro y2 (And.intro y3 y4))))
 obtain ⟨K, hK⟩ : ∃ K, chkS s = K := ⟨_, rfl⟩
 have HK := Lib.hid hK
 clear h hq hbw hbx hby hsz hK y0 y1 y2 y3 y4 hgr hlm
 go_enter Tryd.func21, Tryd.ntmps21
 go_upto_region 1 with fail
 generalize ((w.alloc (.cells #[.slice ad nd cd, .slice ai ni ci, .slice an nn cn, .slice av nv cv] 26)).alloc (.cells #[.int .u32 gr, .slice af nf cf, .slice ac nc cc, .slice ao no co, .int .i64 lm] 32)) = w0 at *
 generalize hS : w.heap.size = S at *
 have HSS := Lib.hid hS
 have HN := Lib.hid hN
 clear hS hN
 go_wp2_with fail
 refine (rchk_any _ ⟨ad, nd, cd, ai, ni, ci, an, nn, cn, av, nv, cv⟩ s HS.out).mono ?_
 rintro e w1 ⟨rfl, hb1⟩
 rw [HK.out]
 have HB1 : Hid (Below N w0 w1) := Lib.hid (by rw [← HN.out]; exact hb1)
 clear hb1 e0 e1 e2 e3
 by_cases hk0 : K = 0
 case neg =>
  have t1 : ((K : Int) != 0) = true := by simp; omega
  have HC : Hid (qchk s q = 1) := Lib.hid (by unfold qchk; rw [if_pos (by rw [HK.out]; exact hk0)])
  clear hk0
  go_wp2_with fail
  go_ret
  exact RErr.mk HC.out HSS.out HBW.out HN1.out.1 HB1.out
 case pos =>
  subst hk0
  obtain ⟨b1, b2, b3, b4⟩ := chk_dims HK.out
  rw [HLN.out.1] at b1 b2
  rw [HLN.out.2.1] at b3
  rw [HLN.out.2.2.1] at b4
  have y0 : w1.cell? ⟨S + 1, 0, none⟩ = some (.int .u32 gr) := by rw [HB1.out.cell (p := ⟨S + 1, 0, none⟩) HN1.out.2]; exact HY.out.1
  have y1 : w1.cell? ⟨S + 1, 1, none⟩ = some (.slice af nf cf) := by rw [HB1.out.cell (p := ⟨S + 1, 1, none⟩) HN1.out.2]; exact HY.out.2.1
  have e0 : w1.cell? ⟨S, 0, none⟩ = some (.slice ad nd cd) := by rw [HB1.out.cell (p := ⟨S, 0, none⟩) HN1.out.1]; exact HE.out.1
  have e1 : w1.cell? ⟨S, 1, none⟩ = some (.slice ai ni ci) := by rw [HB1.out.cell (p := ⟨S, 1, none⟩) HN1.out.1]; exact HE.out.2.1
  have e2 : w1.cell? ⟨S, 2, none⟩ = some (.slice an nn cn) := by rw [HB1.out.cell (p := ⟨S, 2, none⟩) HN1.out.1]; exact HE.out.2.2.1
  have e3 : w1.cell? ⟨S, 3, none⟩ = some (.slice av nv cv) := by rw [HB1.out.cell (p := ⟨S, 3, none⟩) HN1.out.1]; exact HE.out.2.2.2
  have HFL : Hid (∀ w', Below N w0 w' → Calls Tryd.prog 43 #[.agg #[.slice ad nd cd, .slice ai ni ci, .slice an nn cn, .slice av nv cv]] w' (fun e w'' => e = .returned (.int .u32 (2 ^ nd - 1)) ∧ Below w'.heap.size w' w'')) := Lib.hid (fun w' hb => by
   have h0 := rfull_any w' ⟨ad, nd, cd, ai, ni, ci, an, nn, cn, av, nv, cv⟩ s (HS.out.below hb (Nat.le_of_eq HN.out)) (by rw [HLN.out.1]; exact b1)
   rw [HLN.out.1] at h0
   exact h0)
  have HSU : Hid (∀ w', Calls Tryd.prog 42 #[.int .u32 gr, .int .u32 (2 ^ nd - 1)] w' (fun e w'' => e = .returned (.bool (decide (gr < 2 ^ nd))) ∧ w' = w'')) := Lib.hid (fun w' => by
   have h1 := two_small (n := nd) (by omega)
   have h0 := rsub_any gr (2 ^ nd - 1) w' gr0 gr1 (by omega) (by omega)
   rw [sub_full gr0 gr1 (by omega)] at h0
   exact h0)
  obtain ⟨FU, hFU⟩ : ∃ x : Int, (2 : Int) ^ nd - 1 = x := ⟨_, rfl⟩
  rw [hFU] at HFL HSU
  obtain ⟨gb, hgb⟩ : ∃ x, decide (gr < (2 : Int) ^ nd) = x := ⟨_, rfl⟩
  rw [hgb] at HSU
  have HGB := Lib.hid hgb
  clear hFU hgb
  go_upto_region 3 with fail
  have HSF := Lib.hid (And.intro e0 (And.intro e1 (And.intro e2 (And.intro e3 y0))))
  clear y0 y1 e0 e1 e2 e3
  have HLT : Hid (S < w1.heap.size ∧ S + 1 < w1.heap.size) := Lib.hid (by have h := HB1.out.size; rw [HN.out] at h; have := HN1.out; omega)
  refine wp_regionN (fun w' => w'.cell? ⟨S, 0, none⟩ = some (.slice ad nd cd) ∧ w'.cell? ⟨S, 1, none⟩ = some (.slice ai ni ci) ∧ w'.cell? ⟨S, 2, none⟩ = some (.slice an nn cn) ∧ w'.cell? ⟨S, 3, none⟩ = some (.slice av nv cv) ∧ w'.cell? ⟨S + 1, 0, none⟩ = some (.int .u32 gr)) [] (by kernel_rfl) (by exact HSF.out) (fun hHeld => ?_)
  refine wpAnyN_t 0 ⟨some 11, _, _, _, _, _⟩ ?_ rfl ?_ ?_
  rotate_left 1
  ·(intro w hSw; (try dsimp only at hSw); go_simp; try with_reducible rfl)
  try simp only [Act.put, putA, putB, putC]
  refine wpAnyN_t 1 ⟨some 12, _, _, _, _, _⟩ ?_ rfl ?_ ?_
  rotate_left 1
  ·(intro w hSw; (try dsimp only at hSw); go_simp; try with_reducible rfl)
  try simp only [Act.put, putA, putB, putC]
  refine wpAnyN_t 2 ⟨some 13, _, _, _, _, _⟩ ?_ rfl ?_ ?_
  rotate_left 1
  ·(intro w hSw; (try dsimp only at hSw); go_simp; try with_reducible rfl)
  try simp only [Act.put, putA, putB, putC]
  refine wpAnyN_one (i := 3) (o := ⟨some 14, _, _, _, _, _⟩) (by kernel_rfl) rfl (fun K hK => ?_)
  go_simp
  refine (HFL.out _ HB1.out.drew).mono ?_; rintro e w1b ⟨rfl, hb1x⟩
  have HB1x : Hid (Below w1.heap.size w1 w1b) := Lib.hid (((Below.refl _ _).drew).trans hb1x)
  clear hb1x
  refine hK.out _ _ (by exact ⟨by rw [HB1x.out.cell (p := ⟨S, 0, none⟩) HLT.out.1]; exact HSF.out.1, by rw [HB1x.out.cell (p := ⟨S, 1, none⟩) HLT.out.1]; exact HSF.out.2.1, by rw [HB1x.out.cell (p := ⟨S, 2, none⟩) HLT.out.1]; exact HSF.out.2.2.1, by rw [HB1x.out.cell (p := ⟨S, 3, none⟩) HLT.out.1]; exact HSF.out.2.2.2.1, by rw [HB1x.out.cell (p := ⟨S + 1, 0, none⟩) HLT.out.2]; exact HSF.out.2.2.2.2⟩) ?_
  clear hK K hHeld
  intro hHeld
  try simp only [Act.put, putA, putB, putC]
  refine wpAnyN_one (i := 4) (o := ⟨some 15, _, _, _, _, _⟩) (by kernel_rfl) rfl (fun K hK => ?_)
  go_simp
  refine (HSU.out _).mono ?_; rintro e w1c ⟨rfl, rfl⟩
  refine hK.out _ _ (by exact ⟨by rw [HB1x.out.cell (p := ⟨S, 0, none⟩) HLT.out.1]; exact HSF.out.1, by rw [HB1x.out.cell (p := ⟨S, 1, none⟩) HLT.out.1]; exact HSF.out.2.1, by rw [HB1x.out.cell (p := ⟨S, 2, none⟩) HLT.out.1]; exact HSF.out.2.2.1, by rw [HB1x.out.cell (p := ⟨S, 3, none⟩) HLT.out.1]; exact HSF.out.2.2.2.1, by rw [HB1x.out.cell (p := ⟨S + 1, 0, none⟩) HLT.out.2]; exact HSF.out.2.2.2.2⟩) ?_
  clear hK K hHeld
  intro hHeld
  try simp only [Act.put, putA, putB, putC]
  refine wpAnyN_t 5 ⟨some 16, _, _, _, _, _⟩ ?_ rfl ?_ ?_
  rotate_left 1
  ·(intro w hSw; (try dsimp only at hSw); go_simp; try with_reducible rfl)
  try simp only [Act.put, putA, putB, putC]
  refine wpAnyN_end (by kernel_rfl) ?_
  have HB1b : Hid (Below N w0 w1b) := Lib.hid (HB1.out.trans (HB1x.out.mono (by have := HB1.out.size; rw [HN.out] at this; exact this)))
  clear HB1
  have HB1 := Lib.hid HB1b.out
  have y0 : w1b.cell? ⟨S + 1, 0, none⟩ = some (.int .u32 gr) := by rw [HB1.out.cell (p := ⟨S + 1, 0, none⟩) HN1.out.2]; exact HY.out.1
  have y1 : w1b.cell? ⟨S + 1, 1, none⟩ = some (.slice af nf cf) := by rw [HB1.out.cell (p := ⟨S + 1, 1, none⟩) HN1.out.2]; exact HY.out.2.1
  have e0 : w1b.cell? ⟨S, 0, none⟩ = some (.slice ad nd cd) := by rw [HB1.out.cell (p := ⟨S, 0, none⟩) HN1.out.1]; exact HE.out.1
  have e1 : w1b.cell? ⟨S, 1, none⟩ = some (.slice ai ni ci) := by rw [HB1.out.cell (p := ⟨S, 1, none⟩) HN1.out.1]; exact HE.out.2.1
  have e2 : w1b.cell? ⟨S, 2, none⟩ = some (.slice an nn cn) := by rw [HB1.out.cell (p := ⟨S, 2, none⟩) HN1.out.1]; exact HE.out.2.2.1
  have e3 : w1b.cell? ⟨S, 3, none⟩ = some (.slice av nv cv) := by rw [HB1.out.cell (p := ⟨S, 3, none⟩) HN1.out.1]; exact HE.out.2.2.2
  by_cases hg : (2 : Int) ^ nd ≤ gr
  ·obtain rfl : gb = false := by rw [← HGB.out]; exact decide_eq_false (by omega)
   have HC : Hid (qchk s q = 11) := Lib.hid (by unfold qchk; rw [if_neg (by rw [HK.out]; decide), HLN.out.1, HGR.out.1, if_pos hg])
   clear hg
   go_wp2_with fail
   go_ret
   exact RErr.mk HC.out HSS.out HBW.out HN1.out.1 HB1.out
  obtain rfl : gb = true := by rw [← HGB.out]; exact decide_eq_true (by omega)
  have HNG := Lib.hid (Int.not_le.1 hg)
  obtain ⟨FK, hFK⟩ : ∃ k, fchk s q.flts = k := ⟨_, rfl⟩
  have HFK := Lib.hid hFK
  have HS1 := Lib.hid (HS.out.below HB1.out (Nat.le_of_eq HN.out))
  have HQ1 := Lib.hid (HQ.out.1.below HB1.out (Nat.le_of_eq HN.out))
  clear hg hFK
  go_wp2_with fail
  refine (rfchk_any _ ⟨ad, nd, cd, ai, ni, ci, an, nn, cn, av, nv, cv⟩ s af nf cf q.flts HS1.out HQ1.out).mono ?_
  rintro e w2 ⟨rfl, hb2⟩
  rw [HFK.out]
  have HB2 := Lib.hid (HB1.out.trans (hb2.mono (by have := HB1.out.size; rw [HN.out] at this; exact this)))
  clear hb2 e0 e1 e2 e3 y0 y1 HS1 HQ1
  by_cases hfk : FK = 0
  case neg =>
   have t5 : ((FK : Int) != 0) = true := by simp; omega
   have HC : Hid (qchk s q = FK) := Lib.hid (by unfold qchk; rw [if_neg (by rw [HK.out]; decide), HLN.out.1, HGR.out.1, if_neg (Int.not_le.2 HNG.out), if_pos (by rw [HFK.out]; exact hfk), HFK.out])
   clear hfk
   go_wp2_with fail
   go_ret
   exact RErr.mk HC.out HSS.out HBW.out HN1.out.1 HB2.out
  case pos =>
  subst hfk
  have y2 : w2.cell? ⟨S + 1, 2, none⟩ = some (.slice ac nc cc) := by rw [HB2.out.cell (p := ⟨S + 1, 2, none⟩) HN1.out.2]; exact HY.out.2.2.1
  have y3 : w2.cell? ⟨S + 1, 3, none⟩ = some (.slice ao no co) := by rw [HB2.out.cell (p := ⟨S + 1, 3, none⟩) HN1.out.2]; exact HY.out.2.2.2.1
  have HC2 : Hid (qchk s q = if nc = 0 ∨ 16 < nc ∨ 8 < no then 3 else if colsOk ni nn q.cols nc 0 = false then 2 else if ordOk nc q.ord no 0 = false then 2 else if lm < 0 then 2 else 0) := Lib.hid (by
   unfold qchk
   rw [if_neg (by rw [HK.out]; decide), HLN.out.1, HGR.out.1, if_neg (Int.not_le.2 HNG.out), if_neg (by rw [HFK.out]; decide), HLN.out.2.1, HLN.out.2.2.1, HLN.out.2.2.2.1, HLN.out.2.2.2.2, HGR.out.2])
  by_cases hc0 : nc = 0
  ·have t6 : decide ((nc : Int) < 1) = true := decide_eq_true (by omega)
   have HC : Hid (qchk s q = 3) := Lib.hid (by rw [HC2.out, if_pos (.inl hc0)])
   clear hc0
   go_wp2_with fail
   go_ret
   exact RErr.mk HC.out HSS.out HBW.out HN1.out.1 HB2.out
  have t6 : decide ((nc : Int) < 1) = false := decide_eq_false (by omega)
  by_cases hc1 : 16 < nc
  ·have t7 : decide ((16 : Int) < (nc : Int)) = true := decide_eq_true (by omega)
   have HC : Hid (qchk s q = 3) := Lib.hid (by rw [HC2.out, if_pos (.inr (.inl hc1))])
   clear hc0 hc1
   go_wp2_with fail
   go_ret
   exact RErr.mk HC.out HSS.out HBW.out HN1.out.1 HB2.out
  have t7 : decide ((16 : Int) < (nc : Int)) = false := decide_eq_false (by omega)
  by_cases hc2 : 8 < no
  ·have t8 : decide ((8 : Int) < (no : Int)) = true := decide_eq_true (by omega)
   have HC : Hid (qchk s q = 3) := Lib.hid (by rw [HC2.out, if_pos (.inr (.inr hc2))])
   clear hc0 hc1 hc2
   go_wp2_with fail
   go_ret
   exact RErr.mk HC.out HSS.out HBW.out HN1.out.1 HB2.out
  have t8 : decide ((8 : Int) < (no : Int)) = false := decide_eq_false (by omega)
  replace HC2 : Hid (qchk s q = if colsOk ni nn q.cols nc 0 = false then 2 else if ordOk nc q.ord no 0 = false then 2 else if lm < 0 then 2 else 0) := Lib.hid (by rw [HC2.out, if_neg (by omega)])
  have hc16 : nc ≤ 16 := by omega
  have hnc : 0 < nc := by omega
  have hno : no ≤ 8 := by omega
  clear hc0 hc1 hc2
  go_wp2_with fail
  clear y2 y3 t6 t7 t8
  go_loopg [6] nc (fun q5 iu wr => ∃ (i : Nat), iu = .int .i64 i ∧ i + q5 = nc ∧ colsOk ni nn q.cols q5 i = colsOk ni nn q.cols nc 0 ∧ Below N w0 wr)
  case atStart => exact ⟨0, rfl, by omega, rfl, HB2.out⟩
  case round =>
   obtain ⟨i, rfl, hq5, hco, hb⟩ := hrel
   have HQ5 := Lib.hid hq5
   have HCO := Lib.hid hco
   have HB := Lib.hid hb
   have hsz : N ≤ wr.heap.size := by have := hb.size; rw [HN.out] at this; exact this
   clear hq5 hco hb
   have y2 : wr.cell? ⟨S + 1, 2, none⟩ = some (.slice ac nc cc) := by rw [HB.out.cell (p := ⟨S + 1, 2, none⟩) HN1.out.2]; exact HY.out.2.2.1
   by_cases hlt : i < nc
   ·obtain ⟨gk2, hgk⟩ : ∃ g, gk = g + 1 := ⟨gk - 1, by have := HQ5.out; omega⟩
    have HG2 := Lib.hid hgk
    obtain ⟨b, off, e, hbl, hc⟩ := (HQ.out.2.1.below HB.out (Nat.le_of_eq HN.out)).at (by show 0 < nc; omega)
    simp only at e
    subst e
    have c0 := hc (i * 2) (by show i * 2 < nc * 2; omega)
    have c1 := hc (i * 2 + 1) (by show i * 2 + 1 < nc * 2; omega)
    obtain ⟨g0, g1⟩ := colCells_get (ds := q.cols) (i := i) (by rw [HLN.out.2.2.2.1]; exact hlt)
    rw [g0] at c0
    rw [g1, ← Nat.add_assoc] at c1
    have HI := Lib.hid (HQ.out.2.2.2.2.2.2.2.1 (colAt q.cols i) (colAt_mem (by rw [HLN.out.2.2.2.1]; exact hlt)))
    have HX := Lib.hid (colsOk_succ ni nn q.cols gk2 i)
    obtain ⟨⟨ck, cm⟩, hcl⟩ : ∃ f, colAt q.cols i = f := ⟨_, rfl⟩
    rw [hcl] at c0 c1 HI HX
    simp only at c0 c1
    obtain ⟨r, hr⟩ : ∃ r, colB ni nn ck cm = r := ⟨_, rfl⟩
    have HCALL : Hid (∀ w', Below N w0 w' → Calls Tryd.prog 45 #[.agg #[.slice ad nd cd, .slice ai ni ci, .slice an nn cn, .slice av nv cv], .agg #[.int .i64 ck, .int .i64 cm]] w' fun e w'' => e = .returned (.bool r) ∧ Below w'.heap.size w' w'') := Lib.hid (fun w' hb => by
     have h := rcolumn_any w' ⟨ad, nd, cd, ai, ni, ci, an, nn, cn, av, nv, cv⟩ s ck cm (HS.out.below hb (Nat.le_of_eq HN.out)) HI.out.1 HI.out.2 (by rw [HLN.out.2.1]; omega) (by rw [HLN.out.2.2.1]; omega)
     rw [HLN.out.2.1, HLN.out.2.2.1, hr] at h
     exact h)
    have HXR : Hid (colsOk ni nn q.cols (gk2 + 1) i = if r = false then false else colsOk ni nn q.cols gk2 (i + 1)) := Lib.hid (by rw [HX.out]; simp only; rw [hr])
    have e0 : wr.cell? ⟨S, 0, none⟩ = some (.slice ad nd cd) := by rw [HB.out.cell (p := ⟨S, 0, none⟩) HN1.out.1]; exact HE.out.1
    have e1 : wr.cell? ⟨S, 1, none⟩ = some (.slice ai ni ci) := by rw [HB.out.cell (p := ⟨S, 1, none⟩) HN1.out.1]; exact HE.out.2.1
    have e2 : wr.cell? ⟨S, 2, none⟩ = some (.slice an nn cn) := by rw [HB.out.cell (p := ⟨S, 2, none⟩) HN1.out.1]; exact HE.out.2.2.1
    have e3 : wr.cell? ⟨S, 3, none⟩ = some (.slice av nv cv) := by rw [HB.out.cell (p := ⟨S, 3, none⟩) HN1.out.1]; exact HE.out.2.2.2
    clear hgk hc g0 g1 hcl hr HX HI
    have hSw : S < wr.heap.size := Nat.lt_of_lt_of_le HN1.out.1 hsz
    go_upto_region 13 with fail
    have HSF := Lib.hid (And.intro e0 (And.intro e1 (And.intro e2 (And.intro e3 (And.intro y2 (And.intro c0 c1))))))
    clear c0 c1 e0 e1 e2 e3 y2
    have HLT : Hid (S < wr.heap.size ∧ S + 1 < wr.heap.size) := Lib.hid (by have := HN1.out; omega)
    refine wp_regionN (fun w' => w'.cell? ⟨S, 0, none⟩ = some (.slice ad nd cd) ∧ w'.cell? ⟨S, 1, none⟩ = some (.slice ai ni ci) ∧ w'.cell? ⟨S, 2, none⟩ = some (.slice an nn cn) ∧ w'.cell? ⟨S, 3, none⟩ = some (.slice av nv cv) ∧ w'.cell? ⟨S + 1, 2, none⟩ = some (.slice (some ⟨b, off, none⟩) nc cc) ∧ w'.cell? ⟨b, off + i * 2, none⟩ = some (.int .i64 ck) ∧ w'.cell? ⟨b, off + i * 2 + 1, none⟩ = some (.int .i64 cm)) [] (by kernel_rfl) (by exact HSF.out) (fun hHeld => ?_)
    refine wpAnyN_t 0 ⟨some 47, _, _, _, _, _⟩ ?_ rfl ?_ ?_
    rotate_left 1
    ·(intro w hSw; (try dsimp only at hSw); go_simp; try with_reducible rfl)
    try simp only [Act.put, putA, putB, putC]
    refine wpAnyN_t 1 ⟨some 48, _, _, _, _, _⟩ ?_ rfl ?_ ?_
    rotate_left 1
    ·(intro w hSw; (try dsimp only at hSw); go_simp; try with_reducible rfl)
    try simp only [Act.put, putA, putB, putC]
    refine wpAnyN_t 2 ⟨some 49, _, _, _, _, _⟩ ?_ rfl ?_ ?_
    rotate_left 1
    ·(intro w hSw; (try dsimp only at hSw); go_simp; try with_reducible rfl)
    try simp only [Act.put, putA, putB, putC]
    refine wpAnyN_t 3 ⟨some 50, _, _, _, _, _⟩ ?_ rfl ?_ ?_
    rotate_left 1
    ·(intro w hSw; (try dsimp only at hSw); go_simp; try with_reducible rfl)
    try simp only [Act.put, putA, putB, putC]
    refine wpAnyN_t 4 ⟨some 51, _, _, _, _, _⟩ ?_ rfl ?_ ?_
    rotate_left 1
    ·(intro w hSw; (try dsimp only at hSw); go_simp; try with_reducible rfl)
    try simp only [Act.put, putA, putB, putC]
    refine wpAnyN_t 5 ⟨some 52, _, _, _, _, _⟩ ?_ rfl ?_ ?_
    rotate_left 1
    ·(intro w hSw; (try dsimp only at hSw); go_simp; try with_reducible rfl)
    try simp only [Act.put, putA, putB, putC]
    refine wpAnyN_one (i := 6) (o := ⟨some 53, _, _, _, _, _⟩) (by kernel_rfl) rfl (fun K hK => ?_)
    go_simp
    refine (HCALL.out _ HB.out.drew).mono ?_; rintro e w3 ⟨rfl, hb3⟩
    have HB3x : Hid (Below wr.heap.size wr w3) := Lib.hid (((Below.refl _ _).drew).trans hb3)
    have HB3 := Lib.hid (HB.out.trans (HB3x.out.mono hsz))
    clear hb3 HCALL
    refine hK.out _ _ (by exact ⟨by rw [HB3x.out.cell (p := ⟨S, 0, none⟩) HLT.out.1]; exact HSF.out.1, by rw [HB3x.out.cell (p := ⟨S, 1, none⟩) HLT.out.1]; exact HSF.out.2.1, by rw [HB3x.out.cell (p := ⟨S, 2, none⟩) HLT.out.1]; exact HSF.out.2.2.1, by rw [HB3x.out.cell (p := ⟨S, 3, none⟩) HLT.out.1]; exact HSF.out.2.2.2.1, by rw [HB3x.out.cell (p := ⟨S + 1, 2, none⟩) HLT.out.2]; exact HSF.out.2.2.2.2.1, by rw [HB3x.out.cell (p := ⟨b, off + i * 2, none⟩) hbl]; exact HSF.out.2.2.2.2.2.1, by rw [HB3x.out.cell (p := ⟨b, off + i * 2 + 1, none⟩) hbl]; exact HSF.out.2.2.2.2.2.2⟩) ?_
    clear hK K hHeld
    intro hHeld
    try simp only [Act.put, putA, putB, putC]
    refine wpAnyN_t 7 ⟨some 54, _, _, _, _, _⟩ ?_ rfl ?_ ?_
    rotate_left 1
    ·(intro w hSw; (try dsimp only at hSw); go_simp; try with_reducible rfl)
    try simp only [Act.put, putA, putB, putC]
    refine wpAnyN_end (by kernel_rfl) ?_
    rcases r with _ | _
    ·have HC : Hid (qchk s q = 2) := Lib.hid (by
      have h1 : colsOk ni nn q.cols nc 0 = false := by rw [← HCO.out, HG2.out, HXR.out]; rfl
      rw [HC2.out, if_pos h1])
     go_wp2_with fail
     go_ret
     exact RErr.mk HC.out HSS.out HBW.out HN1.out.1 HB3.out
    ·have HXN : Hid (colsOk ni nn q.cols gk2 (i + 1) = colsOk ni nn q.cols nc 0) := Lib.hid (by rw [← HCO.out, HG2.out, HXR.out]; rfl)
     go_wp2_with fail
     go_roundg gk2
     case measure => have := HG2.out; omega
     case rel => exact ⟨i + 1, by go_num, by have := HQ5.out; have := HG2.out; omega, HXN.out, HB3.out⟩
   ·obtain rfl : i = nc := by have := HQ5.out; omega
    have HC3 : Hid (qchk s q = if ordOk i q.ord no 0 = false then 2 else if lm < 0 then 2 else 0) := Lib.hid (by
     have h1 : gk = 0 := by have := HQ5.out; omega
     have h2 : colsOk ni nn q.cols i 0 = true := by rw [← HCO.out, h1]; rfl
     rw [HC2.out, if_neg (by rw [h2]; decide)])
    have y3 : wr.cell? ⟨S + 1, 3, none⟩ = some (.slice ao no co) := by rw [HB.out.cell (p := ⟨S + 1, 3, none⟩) HN1.out.2]; exact HY.out.2.2.2.1
    have HB7 := HB
    clear HCO HQ5 HC2
    go_wp2_with fail
    clear y3 y2
    go_loopg [7] no (fun q5 iu wx => ∃ (j : Nat), iu = .int .i64 j ∧ j + q5 = no ∧ ordOk i q.ord q5 j = ordOk i q.ord no 0 ∧ Below N w0 wx)
    case atStart => exact ⟨0, rfl, by omega, rfl, HB7.out⟩
    case round =>
     obtain ⟨j, rfl, hq5, hco, hb⟩ := hrel
     have HQ5 := Lib.hid hq5
     have HCO := Lib.hid hco
     have HB8 := Lib.hid hb
     have hsz8 : N ≤ wr.heap.size := by have := hb.size; rw [HN.out] at this; exact this
     clear hq5 hco hb
     have y3 : wr.cell? ⟨S + 1, 3, none⟩ = some (.slice ao no co) := by rw [HB8.out.cell (p := ⟨S + 1, 3, none⟩) HN1.out.2]; exact HY.out.2.2.2.1
     by_cases hlt : j < no
     ·obtain ⟨gk2, hgk⟩ : ∃ g, gk = g + 1 := ⟨gk - 1, by have := HQ5.out; omega⟩
      have HG2 := Lib.hid hgk
      obtain ⟨b, off, e, hbl, hc⟩ := (HQ.out.2.2.2.1.below HB8.out (Nat.le_of_eq HN.out)).at (by show 0 < no; omega)
      simp only at e
      subst e
      have c0 := hc (j * 2) (by show j * 2 < no * 2; omega)
      have c1 := hc (j * 2 + 1) (by show j * 2 + 1 < no * 2; omega)
      obtain ⟨g0, g1⟩ := ordCells_get (ds := q.ord) (i := j) (by rw [HLN.out.2.2.2.2]; exact hlt)
      rw [g0] at c0
      rw [g1, ← Nat.add_assoc] at c1
      have HI := Lib.hid (HQ.out.2.2.2.2.2.2.2.2 (ordAt q.ord j) (ordAt_mem (by rw [HLN.out.2.2.2.2]; exact hlt)))
      have HX := Lib.hid (ordOk_succ i q.ord gk2 j)
      obtain ⟨⟨oc, od⟩, hcl⟩ : ∃ f, ordAt q.ord j = f := ⟨_, rfl⟩
      rw [hcl] at c0 c1 HI HX
      simp only at c0 c1
      have HXR : Hid (ordOk i q.ord no 0 = if oc < 0 ∨ (i : Int) ≤ oc then false else ordOk i q.ord gk2 (j + 1)) := Lib.hid (by rw [← HCO.out, HG2.out, HX.out])
      obtain ⟨oc0, oc1⟩ : I64 oc := HI.out
      have y2 : wr.cell? ⟨S + 1, 2, none⟩ = some (.slice ac i cc) := by rw [HB8.out.cell (p := ⟨S + 1, 2, none⟩) HN1.out.2]; exact HY.out.2.2.1
      have hSw : S + 1 < wr.heap.size := Nat.lt_of_lt_of_le HN1.out.2 hsz8
      clear hgk hc g0 g1 hcl HX HI
      by_cases ho0 : oc < 0
      ·have t1 : decide (oc < 0) = true := decide_eq_true ho0
       have HC : Hid (qchk s q = 2) := Lib.hid (by rw [HC3.out, if_pos (by rw [HXR.out, if_pos (.inl ho0)])])
       go_upto_region 18 with fail
       go_quiet (fail)
       go_wp2_with fail
       go_ret
       exact RErr.mk HC.out HSS.out HBW.out HN1.out.1 (blk_dn HB8.out nq)
      have t1 : decide (oc < 0) = false := decide_eq_false ho0
      by_cases ho1 : (i : Int) ≤ oc
      ·have t2 : decide ((i : Int) ≤ oc) = true := decide_eq_true ho1
       have HC : Hid (qchk s q = 2) := Lib.hid (by rw [HC3.out, if_pos (by rw [HXR.out, if_pos (.inr ho1)])])
       go_upto_region 18 with fail
       go_quiet (fail)
       go_wp2_with fail
       go_ret
       exact RErr.mk HC.out HSS.out HBW.out HN1.out.1 (blk_dn HB8.out nq)
      have t2 : decide ((i : Int) ≤ oc) = false := decide_eq_false ho1
      have HXN : Hid (ordOk i q.ord gk2 (j + 1) = ordOk i q.ord no 0) := Lib.hid (by rw [HXR.out, if_neg (by omega)])
      clear ho0 ho1
      go_upto_region 18 with fail
      go_quiet (fail)
      go_wp2_with fail
      go_roundg gk2
      case measure => have := HG2.out; omega
      case rel => exact ⟨j + 1, by go_num, by have := HQ5.out; have := HG2.out; omega, HXN.out, blk_dn HB8.out nq⟩
     ·obtain rfl : j = no := by have := HQ5.out; omega
      have HC4 : Hid (qchk s q = if lm < 0 then 2 else 0) := Lib.hid (by
       have h1 : gk = 0 := by have := HQ5.out; omega
       have h2 : ordOk i q.ord j 0 = true := by rw [← HCO.out, h1]; rfl
       rw [HC3.out, if_neg (by rw [h2]; decide)])
      have y4 : wr.cell? ⟨S + 1, 4, none⟩ = some (.int .i64 lm) := by rw [HB8.out.cell (p := ⟨S + 1, 4, none⟩) HN1.out.2]; exact HY.out.2.2.2.2
      by_cases hl0 : lm < 0
      ·have t1 : decide (lm < 0) = true := decide_eq_true hl0
       have HC : Hid (qchk s q = 2) := Lib.hid (by rw [HC4.out, if_pos hl0])
       go_wp2_with fail
       go_ret
       exact RErr.mk HC.out HSS.out HBW.out HN1.out.1 HB8.out
      ·have t1 : decide (lm < 0) = false := decide_eq_false hl0
       have HC : Hid (qchk s q = 0) := Lib.hid (by rw [HC4.out, if_neg hl0])
       go_wp2_with fail
       go_ret
       exact RErr.mk HC.out HSS.out HBW.out HN1.out.1 HB8.out
end Go.Proofs.YtkojcamlllenkaaDoor
