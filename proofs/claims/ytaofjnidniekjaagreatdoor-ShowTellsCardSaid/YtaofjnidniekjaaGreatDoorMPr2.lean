/- Filters and queries that are alike are told so: the contracts of package bushelref28's Same and of package bushelref29's Same, of equal contents. No conditions but those stated. -/
import Derived.Test.YtaofjnidniekjaaGreatDoorMPr1
import Derived.Test.YtaofjnidniekjaaGreatDoorMPaD
namespace Go.Proofs.YtaofjnidniekjaaGreatDoor
open Go.RowKit

theorem flt_same {a b : List Flt} (h : a.map (fun f => (f.dim, f.codes)) = b.map (fun f => (f.dim, f.codes))) (i : Nat) : (fltAt a i).dim = (fltAt b i).dim ∧ (fltAt a i).codes = (fltAt b i).codes := by
 have h1 : (a.map (fun f => (f.dim, f.codes)))[i]? = (b.map (fun f => (f.dim, f.codes)))[i]? := by rw [h]
 rw [List.getElem?_map, List.getElem?_map] at h1
 unfold fltAt
 rw [List.getD_eq_getElem?_getD, List.getD_eq_getElem?_getD]
 cases ha : a[i]? with
 | none => cases hb : b[i]? with
  | none => exact ⟨rfl, rfl⟩
  | some y => rw [ha, hb] at h1; cases h1
 | some x => cases hb : b[i]? with
  | none => rw [ha, hb] at h1; cases h1
  | some y => rw [ha, hb] at h1; simp only [Option.map_some, Option.some.injEq, Prod.mk.injEq] at h1; exact h1

set_option maxRecDepth 100000 in
set_option maxHeartbeats 2000000 in
theorem rfsame_any (w : World) (a1 a2 : Option Addr) (n1 c1 n2 c2 : Nat) (f1 f2 : List Flt) (h1 : FltsAt w a1 n1 c1 f1) (h2 : FltsAt w a2 n2 c2 f2) (he : f1.map (fun f => (f.dim, f.codes)) = f2.map (fun f => (f.dim, f.codes))) :
  Calls Tryz.prog 28 #[.slice a1 n1 c1, .slice a2 n2 c2] w fun e w' => e = .returned (.bool true) ∧ Below w.heap.size w w' := by
 obtain rfl : n1 = n2 := by
  have e1 := h1.2.1
  have e2 := h2.2.1
  have := congrArg List.length he
  simp only [List.length_map] at this
  omega
 have HN1 := Lib.hid h1.2.1
 have HN2 := Lib.hid h2.2.1
 have HF1 := Lib.hid h1
 have HF2 := Lib.hid h2
 have HE := Lib.hid (fun i => flt_same he i)
 have mn : n1 ≤ 9223372036854775807 := by have e1 := h1.1.2.1; have e2 := h1.1.2.2.1; unfold maxLen at e2; omega
 have hnn : ((n1 : Int) != (n1 : Int)) = false := by simp
 clear h1 h2 he
 go_enter Tryz.func28, Tryz.ntmps28
 go_wp2_with fail
 clear hnn
 go_loopg [5] n1 (fun q iu wr => ∃ i : Nat, iu = .int .i64 i ∧ i + q = n1 ∧ Below w.heap.size w wr)
 case atStart => exact ⟨0, rfl, by omega, Below.refl _ _⟩
 case round =>
  obtain ⟨i, rfl, hq, hb⟩ := hrel
  have HQ := Lib.hid hq
  have HB := Lib.hid hb
  clear hq hb
  by_cases hlt : i < n1
  ·obtain ⟨gk2, hgk⟩ : ∃ g, gk = g + 1 := ⟨gk - 1, by have := HQ.out; omega⟩
   have HG2 := Lib.hid hgk
   have hm1 := (HF1.out.below HB.out (Nat.le_refl _)).2.2 (fltAt f1 i) (fltAt_mem (by rw [HN1.out]; exact hlt))
   have hm2 := (HF2.out.below HB.out (Nat.le_refl _)).2.2 (fltAt f2 i) (fltAt_mem (by rw [HN2.out]; exact hlt))
   obtain ⟨b1, o1, r1, hb1, hc1⟩ := (HF1.out.1.below HB.out (Nat.le_refl _)).at (by omega)
   obtain ⟨b2, o2, r2, hb2, hc2⟩ := (HF2.out.1.below HB.out (Nat.le_refl _)).at (by omega)
   subst r1 r2
   have c0 := hc1 (i * 2) (by omega)
   have c1' := hc1 (i * 2 + 1) (by omega)
   have d0 := hc2 (i * 2) (by omega)
   have d1 := hc2 (i * 2 + 1) (by omega)
   rw [(fltCells_get (fs := f1) (i := i) (by rw [HN1.out]; exact hlt)).1] at c0
   rw [(fltCells_get (fs := f1) (i := i) (by rw [HN1.out]; exact hlt)).2, ← Nat.add_assoc] at c1'
   rw [(fltCells_get (fs := f2) (i := i) (by rw [HN2.out]; exact hlt)).1] at d0
   rw [(fltCells_get (fs := f2) (i := i) (by rw [HN2.out]; exact hlt)).2, ← Nat.add_assoc] at d1
   obtain ⟨e1, e2⟩ := HE.out i
   obtain ⟨⟨x, cs, ka, kn, kc⟩, hf1⟩ : ∃ f, fltAt f1 i = f := ⟨_, rfl⟩
   obtain ⟨⟨x2, cs2, ka2, kn2, kc2⟩, hf2⟩ : ∃ f, fltAt f2 i = f := ⟨_, rfl⟩
   rw [hf1] at c0 c1' hm1 e1 e2
   rw [hf2] at d0 d1 hm2 e1 e2
   dsimp only at c0 c1' d0 d1 hm1 hm2 e1 e2
   subst e1 e2
   obtain rfl : kn = kn2 := hm1.1.1.symm.trans hm2.1.1
   have HK1 := Lib.hid hm1.1
   have HK2 := Lib.hid hm2.1
   have mk : kn ≤ 9223372036854775807 := by have e1 := hm1.1.2.1; have e2 := hm1.1.2.2.1; unfold maxLen at e2; omega
   have t1 : (x != x) = false := by simp
   have t2 : ((kn : Int) != (kn : Int)) = false := by simp
   have HC := Lib.hid (And.intro c0 (And.intro c1' (And.intro d0 d1)))
   have HLB := Lib.hid (And.intro hb1 hb2)
   clear hgk hm1 hm2 hc1 hc2 hf1 hf2 hb1 hb2
   go_upto_region 6 with fail
   go_quiet (fail)
   go_wp2_with fail
   have HBN := Lib.hid (blk_dn HB.out nq)
   have HBW := Lib.hid (blk_dn (Below.refl wr.heap.size wr) nq)
   clear t1 t2 c0 c1' d0 d1
   generalize wr.drewN nq = w2 at *
   generalize wr = wo at *
   go_loopg [6] kn (fun q iu wx => ∃ m : Nat, iu = .int .i64 m ∧ m + q = kn ∧ Below wo.heap.size wo wx)
   case atStart => exact ⟨0, rfl, by omega, HBW.out⟩
   case round =>
    obtain ⟨m, rfl, hq, hb⟩ := hrel
    have HQ2 := Lib.hid hq
    have HB2 := Lib.hid hb
    obtain ⟨l1, l2⟩ := HLB.out
    have c0 : wr.cell? ⟨b1, o1 + i * 2 + 1, none⟩ = some (.slice ka kn kc) := by rw [hb.cell (p := ⟨b1, o1 + i * 2 + 1, none⟩) l1]; exact HC.out.2.1
    have d0 : wr.cell? ⟨b2, o2 + i * 2 + 1, none⟩ = some (.slice ka2 kn kc2) := by rw [hb.cell (p := ⟨b2, o2 + i * 2 + 1, none⟩) l2]; exact HC.out.2.2.2
    clear hq hb l1 l2
    by_cases hlm : m < kn
    ·obtain ⟨gk3, hgk⟩ : ∃ g, gk = g + 1 := ⟨gk - 1, by have := HQ2.out; omega⟩
     have HG3 := Lib.hid hgk
     obtain ⟨k1, p1, r1, hk1, hx1⟩ := rowk_at (HK1.out.below HB2.out (Nat.le_refl _)) (by omega)
     obtain ⟨k2, p2, r2, hk2, hx2⟩ := rowk_at (HK2.out.below HB2.out (Nat.le_refl _)) (by omega)
     subst r1 r2
     have x1 := hx1 m hlm
     have x2 := hx2 m hlm
     obtain ⟨z, hz⟩ : ∃ z, cs.getD m 0 = z := ⟨_, rfl⟩
     rw [hz] at x1 x2
     have t1 : (z != z) = false := by simp
     clear hgk hx1 hx2 hz hk1 hk2
     go_wp2_with fail
     go_quiet (fail)
     go_wp2_with fail
     go_roundg gk3
     case measure => have := HG3.out; omega
     case rel => exact ⟨m + 1, by go_num, by have := HQ2.out; have := HG3.out; omega, blk_dn HB2.out nq⟩
    ·obtain rfl : m = kn := by have := HQ2.out; omega
     go_wp2_with fail
     go_roundg gk2
     case measure => have := HG2.out; omega
     case rel => exact ⟨i + 1, by go_num, by have := HQ.out; have := HG2.out; omega, HB.out.trans (HB2.out.mono HB.out.size)⟩
  ·obtain rfl : i = n1 := by have := HQ.out; omega
   go_wp2_with fail
   go_ret
   exact ⟨rfl, HB.out⟩

set_option maxRecDepth 100000 in
set_option maxHeartbeats 2000000 in
theorem rqsame_any (w : World) (m1 m2 : QryL) (q : QP) (f1 f2 : List Flt) (h1 : QryAt w m1 (q.at' f1)) (h2 : QryAt w m2 (q.at' f2)) (he : f1.map (fun f => (f.dim, f.codes)) = f2.map (fun f => (f.dim, f.codes))) :
  Calls Tryz.prog 11 #[m1.val (q.at' f1), m2.val (q.at' f2)] w fun e w' => e = .returned (.bool true) ∧ Below w.heap.size w w' := by
 obtain ⟨af, nf, cf, ac, nc, cc, ao, no, co⟩ := m1
 obtain ⟨bf, nf2, df, bc, nc2, dc, bo, no2, eo⟩ := m2
 obtain ⟨gr, fq, cq, oq, lm⟩ := q
 obtain rfl : nc = nc2 := h1.2.2.1.symm.trans h2.2.2.1
 obtain rfl : no = no2 := h1.2.2.2.2.1.symm.trans h2.2.2.2.2.1
 have HLN : Hid (cq.length = nc ∧ oq.length = no) := Lib.hid ⟨h1.2.2.1, h1.2.2.2.2.1⟩
 have mc : nc ≤ 9223372036854775807 := by have e1 := h1.2.1.2.1; have e2 := h1.2.1.2.2.1; simp only at e1 e2; unfold maxLen at e2; omega
 have mo : no ≤ 9223372036854775807 := by have e1 := h1.2.2.2.1.2.1; have e2 := h1.2.2.2.1.2.2.1; simp only at e1 e2; unfold maxLen at e2; omega
 unfold QryL.val
 dsimp only [QP.at']
 obtain ⟨hbx, hby, hbw, hsz⟩ := two_pbox w 32 32 #[.int .u32 gr, .slice af nf cf, .slice ac nc cc, .slice ao no co, .int .i64 lm] #[.int .u32 gr, .slice bf nf2 df, .slice bc nc dc, .slice bo no eo, .int .i64 lm]
 have HQ1 := Lib.hid (h1.below hbw (Nat.le_refl _))
 have HQ2 := Lib.hid (h2.below hbw (Nat.le_refl _))
 have HE := Lib.hid he
 have HBW := Lib.hid hbw
 obtain ⟨N, hN⟩ : ∃ N, ((w.alloc (.cells #[.int .u32 gr, .slice af nf cf, .slice ac nc cc, .slice ao no co, .int .i64 lm] 32)).alloc (.cells #[.int .u32 gr, .slice bf nf2 df, .slice bc nc dc, .slice bo no eo, .int .i64 lm] 32)).heap.size = N := ⟨_, rfl⟩
 have HN1 : Hid (w.heap.size < N ∧ w.heap.size + 1 < N) := Lib.hid (by rw [← hN, hsz]; omega)
 have e0 := hbx 0
 have e1 := hbx 1
 have e2 := hbx 2
 have e3 := hbx 3
 have e4 := hbx 4
 have y0 := hby 0
 have y1 := hby 1
 have y2 := hby 2
 have y3 := hby 3
 have y4 := hby 4
 simp only [List.getElem?_toArray, List.getElem?_cons_zero, List.getElem?_cons_succ] at e0 e1 e2 e3 e4 y0 y1 y2 y3 y4
 have HX := Lib.hid (And.intro (And.intro e2 e3) (And.intro y2 y3))
 clear h1 h2 he hbw hbx hby hsz
 go_enter Tryz.func11, Tryz.ntmps11
 go_upto_region 1 with fail
 generalize ((w.alloc (.cells #[.int .u32 gr, .slice af nf cf, .slice ac nc cc, .slice ao no co, .int .i64 lm] 32)).alloc (.cells #[.int .u32 gr, .slice bf nf2 df, .slice bc nc dc, .slice bo no eo, .int .i64 lm] 32)) = w0 at *
 generalize hS : w.heap.size = S at *
 have HSS := Lib.hid hS
 have HN := Lib.hid hN
 clear hS hN
 have t1 : (gr != gr) = false := by simp
 have t2 : (lm != lm) = false := by simp
 have t3 : ((nc : Int) != (nc : Int)) = false := by simp
 have t4 : ((no : Int) != (no : Int)) = false := by simp
 go_wp2_with fail
 refine (rfsame_any w0 af bf nf cf nf2 df f1 f2 HQ1.out.1 HQ2.out.1 HE.out).mono ?_
 rintro e w1 ⟨rfl, hb1⟩
 have HB1 : Hid (Below N w0 w1) := Lib.hid (by rw [← HN.out]; exact hb1)
 clear hb1 e0 e1 e2 e3 e4 y0 y1 y2 y3 y4 t1 t2 t3 t4
 go_wp2_with fail
 go_loopg [5] nc (fun q iu wr => ∃ i : Nat, iu = .int .i64 i ∧ i + q = nc ∧ Below N w0 wr)
 case atStart => exact ⟨0, rfl, by omega, HB1.out⟩
 case round =>
  obtain ⟨i, rfl, hq, hb⟩ := hrel
  have HQ := Lib.hid hq
  have HB := Lib.hid hb
  have e2 : wr.cell? ⟨S, 2, none⟩ = some (.slice ac nc cc) := by rw [hb.cell (p := ⟨S, 2, none⟩) HN1.out.1]; exact HX.out.1.1
  clear hq hb
  by_cases hlt : i < nc
  ·obtain ⟨gk2, hgk⟩ : ∃ g, gk = g + 1 := ⟨gk - 1, by have := HQ.out; omega⟩
   have HG2 := Lib.hid hgk
   have y2 : wr.cell? ⟨S + 1, 2, none⟩ = some (.slice bc nc dc) := by rw [HB.out.cell (p := ⟨S + 1, 2, none⟩) HN1.out.2]; exact HX.out.2.1
   obtain ⟨b1, o1, r1, hb1, hc1⟩ := (HQ1.out.2.1.below HB.out (Nat.le_of_eq HN.out)).at (by show 0 < nc; omega)
   obtain ⟨b2, o2, r2, hb2, hc2⟩ := (HQ2.out.2.1.below HB.out (Nat.le_of_eq HN.out)).at (by show 0 < nc; omega)
   dsimp only at r1 r2
   subst r1 r2
   have c0 := hc1 (i * 2) (by show i * 2 < nc * 2; omega)
   have c1 := hc1 (i * 2 + 1) (by show i * 2 + 1 < nc * 2; omega)
   have d0 := hc2 (i * 2) (by show i * 2 < nc * 2; omega)
   have d1 := hc2 (i * 2 + 1) (by show i * 2 + 1 < nc * 2; omega)
   obtain ⟨g0, g1⟩ := colCells_get (ds := cq) (i := i) (by rw [HLN.out.1]; exact hlt)
   dsimp only [QP.at'] at c0 c1 d0 d1
   rw [g0] at c0 d0
   rw [g1, ← Nat.add_assoc] at c1 d1
   obtain ⟨⟨ck, cm⟩, hcl⟩ : ∃ f, colAt cq i = f := ⟨_, rfl⟩
   rw [hcl] at c0 c1 d0 d1
   dsimp only at c0 c1 d0 d1
   have t1 : (ck != ck) = false := by simp
   have t2 : (cm != cm) = false := by simp
   have t3 : (ck == ck) = true := by simp
   have t4 : (cm == cm) = true := by simp
   clear hgk hc1 hc2 hcl g0 g1 hb1 hb2
   go_upto_region 6 with fail
   go_quiet (fail)
   go_wp2_with fail
   go_roundg gk2
   case measure => have := HG2.out; omega
   case rel => exact ⟨i + 1, by go_num, by have := HQ.out; have := HG2.out; omega, blk_dn HB.out nq⟩
  ·obtain rfl : i = nc := by have := HQ.out; omega
   have HB2 := Lib.hid HB.out
   clear HQ HB
   go_wp2_with fail
   clear e2
   go_loopg [6] no (fun q iu wr => ∃ j : Nat, iu = .int .i64 j ∧ j + q = no ∧ Below N w0 wr)
   case atStart => exact ⟨0, rfl, by omega, HB2.out⟩
   case round =>
    obtain ⟨j, rfl, hq, hb⟩ := hrel
    have HQ := Lib.hid hq
    have HB := Lib.hid hb
    have e3 : wr.cell? ⟨S, 3, none⟩ = some (.slice ao no co) := by rw [hb.cell (p := ⟨S, 3, none⟩) HN1.out.1]; exact HX.out.1.2
    clear hq hb
    by_cases hlt : j < no
    ·obtain ⟨gk2, hgk⟩ : ∃ g, gk = g + 1 := ⟨gk - 1, by have := HQ.out; omega⟩
     have HG2 := Lib.hid hgk
     have y3 : wr.cell? ⟨S + 1, 3, none⟩ = some (.slice bo no eo) := by rw [HB.out.cell (p := ⟨S + 1, 3, none⟩) HN1.out.2]; exact HX.out.2.2
     obtain ⟨b1, o1, r1, hb1, hc1⟩ := (HQ1.out.2.2.2.1.below HB.out (Nat.le_of_eq HN.out)).at (by show 0 < no; omega)
     obtain ⟨b2, o2, r2, hb2, hc2⟩ := (HQ2.out.2.2.2.1.below HB.out (Nat.le_of_eq HN.out)).at (by show 0 < no; omega)
     dsimp only at r1 r2
     subst r1 r2
     have c0 := hc1 (j * 2) (by show j * 2 < no * 2; omega)
     have c1 := hc1 (j * 2 + 1) (by show j * 2 + 1 < no * 2; omega)
     have d0 := hc2 (j * 2) (by show j * 2 < no * 2; omega)
     have d1 := hc2 (j * 2 + 1) (by show j * 2 + 1 < no * 2; omega)
     obtain ⟨g0, g1⟩ := ordCells_get (ds := oq) (i := j) (by rw [HLN.out.2]; exact hlt)
     dsimp only [QP.at'] at c0 c1 d0 d1
     rw [g0] at c0 d0
     rw [g1, ← Nat.add_assoc] at c1 d1
     obtain ⟨⟨ok, om⟩, hcl⟩ : ∃ f, ordAt oq j = f := ⟨_, rfl⟩
     rw [hcl] at c0 c1 d0 d1
     dsimp only at c0 c1 d0 d1
     have t1 : (ok != ok) = false := by simp
     have t2 : (om != om) = false := by simp
     have t3 : (ok == ok) = true := by simp
     have t4 : (om == om) = true := by simp
     clear hgk hc1 hc2 hcl g0 g1 hb1 hb2
     go_upto_region 11 with fail
     go_quiet (fail)
     go_wp2_with fail
     go_roundg gk2
     case measure => have := HG2.out; omega
     case rel => exact ⟨j + 1, by go_num, by have := HQ.out; have := HG2.out; omega, blk_dn HB.out nq⟩
    ·obtain rfl : j = no := by have := HQ.out; omega
     go_wp2_with fail
     go_ret
     exact ⟨rfl, by rw [HSS.out]; exact HBW.out.trans (HB.out.mono (Nat.le_of_lt HN1.out.1))⟩
end Go.Proofs.YtaofjnidniekjaaGreatDoor
/- The chapter's example of parse: bushellaw36.awake. No conditions. -/
namespace Go.Proofs.YtaofjnidniekjaaGreatDoor
open Go.RowKit

/-- the example's schema and text -/
def exP : Sch := ⟨[(⟨#[97]⟩, 4), (⟨#[98]⟩, 4)], [⟨#[109]⟩], [], []⟩
theorem one_nameP {b : UInt8} (h : 97 ≤ b.toNat ∧ b.toNat ≤ 122) (hw : wordB ⟨#[b]⟩ = false) : nameB ⟨#[b]⟩ = true := by
 refine nameB_yes ⟨(show 1 ≤ 1 from Nat.le_refl _), (show 1 ≤ 16 by decide), fun _ => h, fun i hi => ?_, hw⟩
 have h0 : i < 1 := hi
 obtain rfl : i = 0 := by omega
 exact .inl h
theorem exP_ok : chkS exP = 0 := by
 refine chk_ok rfl ?_ ?_ (by decide) (by decide)
 ·show (if nameB ⟨#[97]⟩ = false then false else if nameB ⟨#[98]⟩ = false then false else if nameB ⟨#[109]⟩ = false then false else true) = true
  rw [one_nameP (by decide) (by decide), one_nameP (by decide) (by decide), one_nameP (by decide) (by decide)]
  rfl
 ·have h : TwiceIs exP.names (-1) := by
   refine .inl ⟨rfl, fun j hj => ?_⟩
   have hj2 : j < 3 := hj
   match j, hj2 with
   | 0, _ => exact fun h => by cases h
   | 1, _ => exact fun h => absurd (List.mem_singleton.1 h) (by decide)
   | 2, _ => exact fun h => (List.mem_cons.1 h).elim (fun h => absurd h (by decide)) (fun h => absurd (List.mem_singleton.1 h) (by decide))
  rw [(twR_is _).one h]
  decide
def exPL (s : Nat) : SchL := ⟨some ⟨s, 0, none⟩, 2, 2, some ⟨s + 1, 0, none⟩, 1, 1, none, 0, 0, none, 0, 0⟩
theorem exP_at {w : World} {s : Nat} (h1 : Blk w s 53 #[.string ⟨#[97]⟩, .int .i64 4, .string ⟨#[98]⟩, .int .i64 4]) (h2 : Blk w (s + 1) 9 #[.string ⟨#[109]⟩]) : SchAt w (exPL s) exP := by
 refine ⟨⟨rfl, Nat.le_refl _, by show 2 ≤ maxLen; unfold maxLen; omega, .inr ⟨s, 0, rfl, h1.lt, fun i hi => ?_⟩⟩, rfl, ⟨rfl, Nat.le_refl _, by show 1 ≤ maxLen; unfold maxLen; omega, .inr ⟨s + 1, 0, rfl, h2.lt, fun i hi => ?_⟩⟩,
  ⟨rfl, Nat.le_refl _, Nat.zero_le _, .inl rfl⟩, ⟨rfl, Nat.le_refl _, Nat.zero_le _, .inl rfl⟩, fun d hd => ?_, fun x hx => ?_, (fun x hx => by cases hx), (fun x hx => by cases hx)⟩
 ·have : i = 0 ∨ i = 1 ∨ i = 2 ∨ i = 3 := by simp only [exPL] at hi; omega
  rw [Nat.zero_add, h1.cell]
  rcases this with rfl | rfl | rfl | rfl <;> rfl
 ·obtain rfl : i = 0 := by simp only [exPL] at hi; omega
  exact h2.cell 0
 ·have : d = (⟨#[97]⟩, 4) ∨ d = (⟨#[98]⟩, 4) := by simpa [exP] using hd
  rcases this with rfl | rfl <;> exact ⟨by show 1 ≤ maxLen; unfold maxLen; omega, by decide, by decide⟩
 ·simp only [exP, List.mem_singleton] at hx
  subst hx
  show 1 ≤ maxLen; unfold maxLen; omega

end Go.Proofs.YtaofjnidniekjaaGreatDoor
