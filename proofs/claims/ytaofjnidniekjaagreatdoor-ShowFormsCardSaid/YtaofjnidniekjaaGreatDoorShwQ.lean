/- Contracts of the references' Light of a query, and of bushelref37's Show. Conditions: those stated. -/
import Derived.Test.YtaofjnidniekjaaGreatDoorShwP
import Derived.Test.YtaofjnidniekjaaGreatDoorLexG
import Derived.Test.YtaofjnidniekjaaGreatDoorMPr1
namespace Go.Proofs.YtaofjnidniekjaaGreatDoor
open Go.RowKit

theorem tx_size {s : Sch} {q : Qry} (h : qchk s q = 0) (hl : q.limit ≤ 9223372036854775807) (hc : ∀ f ∈ q.flts, ∀ n ∈ f.codes, n ≤ 9223372036854775807) : (showTx s q.qp).size ≤ maxLen := by
 have OK := shw_ok h
 unfold showTx showB
 rw [btS_size, List.length_append, List.length_append, List.length_append, List.length_append, List.length_append]
 have h1 : (Lib.join (q.qp.cols.map (colL (measN s))) cmB).length ≤ 672 := join_le (K := 40) (N := 16) (fun x hx => by
  obtain ⟨c, -, rfl⟩ := List.mem_map.1 hx
  exact colL_le OK.hs c) (by rw [List.length_map]; exact OK.nc.2)
 have h2 : (partB byB cmB ((gList q.qp.group.toNat (dimN s).length).map (gL (dimN s)))).length ≤ 1000 := part_le (K := 16) (N := 6) (fun x hx => by
  obtain ⟨d, -, rfl⟩ := List.mem_map.1 hx
  exact gL_le OK.hs d) (by rw [List.length_map]; refine Nat.le_trans (gList_len _ _) ?_; unfold dimN; rw [List.length_map]; exact OK.nd) (by decide)
 have h3 : (partB whB andB (q.qp.flts.map (condL (dimN s)))).length ≤ 3000000 := part_le (K := 100000) (N := 20) (fun x hx => by
  obtain ⟨g, hg, rfl⟩ := List.mem_map.1 hx
  obtain ⟨f, hf, rfl⟩ := List.mem_map.1 hg
  obtain ⟨k, hk, e2⟩ := List.getElem_of_mem hf
  have e3 : fltAt q.flts k = f := by unfold fltAt; rw [List.getD_eq_getElem?_getD, List.getElem?_eq_getElem hk, e2]; rfl
  have h1 := OK.cod k hk
  have h2 := OK.num k hk
  rw [e3] at h1 h2
  refine condL_le OK.hs h1 (fun n hn => ?_)
  obtain ⟨k2, hk2, e4⟩ := List.getElem_of_mem hn
  have h5 := h2 k2 hk2
  rw [List.getD_eq_getElem?_getD, List.getElem?_eq_getElem hk2, e4] at h5
  exact ⟨h5, hc f hf n hn⟩) (by rw [List.length_map]; show (q.flts.map _).length ≤ 20; rw [List.length_map]; exact OK.nf) (by decide)
 have h4 : (partB orB cmB (q.qp.ord.map ordL)).length ≤ 1000 := part_le (K := 40) (N := 8) (fun x hx => by
  obtain ⟨o, ho, rfl⟩ := List.mem_map.1 hx
  obtain ⟨k, hk, e2⟩ := List.getElem_of_mem (show o ∈ q.ord from ho)
  have e3 : ordAt q.ord k = o := by unfold ordAt; rw [List.getD_eq_getElem?_getD, List.getElem?_eq_getElem hk, e2]; rfl
  have h1 := OK.ord k hk
  rw [e3] at h1
  exact ordL_le h1.1 (by omega)) (by rw [List.length_map]; exact OK.no) (by decide)
 have h5 : (limB q.qp.limit).length ≤ 27 := limB_le hl
 have h6 : selB.length = 7 := rfl
 unfold maxLen
 omega

set_option maxRecDepth 100000 in
set_option maxHeartbeats 4000000 in
theorem rshow_any (w : World) (l : SchL) (s : Sch) (m : QryL) (q : Qry) (h : SchAt w l s) (hq : QryAt w m q) :
  Calls Tryz.prog 9 #[l.val, m.val q] w (RShow w (showS s q.qp)) := by
 obtain ⟨ad, nd, cd, ai, ni, ci, an, nn, cn, av, nv, cv⟩ := l
 obtain ⟨af, nf, cf, ac, nc, cc, ao, no, co⟩ := m
 obtain ⟨K, hK⟩ : ∃ K, qchk s q = K := ⟨_, rfl⟩
 have HK := Lib.hid hK
 have HKP : Hid (qchk s q.qp.qry = K) := Lib.hid (by rw [qp_chk, hK])
 have HLB : Hid (q.limit ≤ 9223372036854775807 ∧ ∀ f ∈ q.flts, ∀ n ∈ f.codes, n ≤ 9223372036854775807) := Lib.hid ⟨hq.2.2.2.2.2.2.1.2, fun f hf n hn => ((hq.1.2.2 f hf).2.2.2 n hn).2⟩
 obtain ⟨gr, hgr⟩ : ∃ g, q.group = g := ⟨_, rfl⟩
 obtain ⟨lm, hlm⟩ : ∃ g, q.limit = g := ⟨_, rfl⟩
 obtain ⟨gr0, gr1⟩ : 0 ≤ gr ∧ gr ≤ 4294967295 := hgr ▸ hq.2.2.2.2.2.1
 obtain ⟨lm0, lm1⟩ : I64 lm := hlm ▸ hq.2.2.2.2.2.2.1
 have HGR := Lib.hid (And.intro hgr hlm)
 obtain ⟨hbx, hby, hbw, hsz⟩ := two_pbox w 26 32 #[.slice ad nd cd, .slice ai ni ci, .slice an nn cn, .slice av nv cv] #[.int .u32 gr, .slice af nf cf, .slice ac nc cc, .slice ao no co, .int .i64 lm]
 have HCH := Lib.hid (rqchk_any _ ⟨ad, nd, cd, ai, ni, ci, an, nn, cn, av, nv, cv⟩ s ⟨af, nf, cf, ac, nc, cc, ao, no, co⟩ q (h.below hbw (Nat.le_refl _)) (hq.below hbw (Nat.le_refl _)))
 have HTX := Lib.hid (fun w' hb h0 => rtext37_any w' ⟨ad, nd, cd, ai, ni, ci, an, nn, cn, av, nv, cv⟩ s ⟨af, nf, cf, ac, nc, cc, ao, no, co⟩ q (h.below (B := w.heap.size) hb (Nat.le_refl _)) (hq.below (B := w.heap.size) hb (Nat.le_refl _)) h0)
 rw [hK] at HCH
 unfold SchL.val QryL.val at HCH HTX ⊢
 dsimp only at HCH HTX ⊢
 rw [hgr, hlm] at HCH HTX ⊢
 have HBW := Lib.hid hbw
 have HKS : Hid (Blk ((w.alloc (.cells #[.slice ad nd cd, .slice ai ni ci, .slice an nn cn, .slice av nv cv] 26)).alloc (.cells #[.int .u32 gr, .slice af nf cf, .slice ac nc cc, .slice ao no co, .int .i64 lm] 32)) w.heap.size 26 #[.slice ad nd cd, .slice ai ni ci, .slice an nn cn, .slice av nv cv]) := Lib.hid ((Blk.new w _ _).alloc _)
 have HKQ : Hid (Blk ((w.alloc (.cells #[.slice ad nd cd, .slice ai ni ci, .slice an nn cn, .slice av nv cv] 26)).alloc (.cells #[.int .u32 gr, .slice af nf cf, .slice ac nc cc, .slice ao no co, .int .i64 lm] 32)) (w.heap.size + 1) 32 #[.int .u32 gr, .slice af nf cf, .slice ac nc cc, .slice ao no co, .int .i64 lm]) := Lib.hid (by
  have h := Blk.new (w.alloc (.cells #[.slice ad nd cd, .slice ai ni ci, .slice an nn cn, .slice av nv cv] 26)) 32 #[.int .u32 gr, .slice af nf cf, .slice ac nc cc, .slice ao no co, .int .i64 lm]
  rw [World.size_alloc] at h
  exact h)
 clear h hq hbw hbx hby hsz hK hgr hlm
 go_enter Tryz.func9, Tryz.ntmps9
 go_upto_region 1 with fail
 generalize ((w.alloc (.cells #[.slice ad nd cd, .slice ai ni ci, .slice an nn cn, .slice av nv cv] 26)).alloc (.cells #[.int .u32 gr, .slice af nf cf, .slice ac nc cc, .slice ao no co, .int .i64 lm] 32)) = w0 at *
 obtain ⟨S, hS⟩ : ∃ S, w.heap.size = S := ⟨_, rfl⟩
 have HSS := Lib.hid hS
 rw [hS] at HBW HKS HKQ HTX
 clear hS
 rw [HSS.out]
 have HLT : Hid (S ≤ w0.heap.size) := Lib.hid (Nat.le_of_lt HKS.out.lt)
 have e0 : w0.cell? ⟨S, 0, none⟩ = some (.slice ad nd cd) := HKS.out.cell 0
 have e1 : w0.cell? ⟨S, 1, none⟩ = some (.slice ai ni ci) := HKS.out.cell 1
 have e2 : w0.cell? ⟨S, 2, none⟩ = some (.slice an nn cn) := HKS.out.cell 2
 have e3 : w0.cell? ⟨S, 3, none⟩ = some (.slice av nv cv) := HKS.out.cell 3
 have y0 : w0.cell? ⟨S + 1, 0, none⟩ = some (.int .u32 gr) := HKQ.out.cell 0
 have y1 : w0.cell? ⟨S + 1, 1, none⟩ = some (.slice af nf cf) := HKQ.out.cell 1
 have y2 : w0.cell? ⟨S + 1, 2, none⟩ = some (.slice ac nc cc) := HKQ.out.cell 2
 have y3 : w0.cell? ⟨S + 1, 3, none⟩ = some (.slice ao no co) := HKQ.out.cell 3
 have y4 : w0.cell? ⟨S + 1, 4, none⟩ = some (.int .i64 lm) := HKQ.out.cell 4
 go_wp2_with fail
 refine HCH.out.mono ?_
 rintro e w1 ⟨rfl, hb1⟩
 have HB1 := Lib.hid (HBW.out.trans (hb1.mono HLT.out))
 have HS1 := Lib.hid (HKS.out.below hb1 HKS.out.lt)
 have HQ1 := Lib.hid (HKQ.out.below hb1 HKQ.out.lt)
 clear hb1 HCH e0 e1 e2 e3 y0 y1 y2 y3 y4
 by_cases hk0 : K = 0
 case neg =>
  have t1 : ((K : Int) != 0) = true := by simp; omega
  have HC : Hid (showS s q.qp = (⟨#[]⟩, (K : Int))) := Lib.hid (by unfold showS; rw [HKP.out, if_pos hk0])
  clear hk0
  go_wp2_with fail
  exact bodyPost_ret (v := .tuple #[.string ⟨#[]⟩, .int .i64 (K : Int)]) (by simp [results, Tryz.results9, go_sem]) rfl ⟨by rw [HC.out], by rw [HSS.out]; exact HB1.out⟩
 case pos =>
 subst hk0
 have HT1 := Lib.hid (HTX.out w1 HB1.out HK.out)
 have HTS := Lib.hid (tx_size HK.out HLB.out.1 HLB.out.2)
 have HC0 : Hid (showS s q.qp = if 999999999 < lm then (⟨#[]⟩, 4) else lxOut (showTx s q.qp) (lexAll (showTx s q.qp))) := Lib.hid (by
  unfold showS
  rw [HKP.out, if_neg (by decide), show q.qp.limit = lm from HGR.out.2])
 obtain ⟨t, ht⟩ : ∃ t, showTx s q.qp = t := ⟨_, rfl⟩
 rw [ht] at HT1 HC0 HTS
 have HTK := Lib.hid (fun w' => rtok_any t w' HTS.out)
 obtain ⟨R, hR⟩ : ∃ R, lexAll t = R := ⟨_, rfl⟩
 rw [hR] at HC0 HTK
 clear HTX ht hR
 have e0 : w1.cell? ⟨S, 0, none⟩ = some (.slice ad nd cd) := HS1.out.cell 0
 have e1 : w1.cell? ⟨S, 1, none⟩ = some (.slice ai ni ci) := HS1.out.cell 1
 have e2 : w1.cell? ⟨S, 2, none⟩ = some (.slice an nn cn) := HS1.out.cell 2
 have e3 : w1.cell? ⟨S, 3, none⟩ = some (.slice av nv cv) := HS1.out.cell 3
 have y0 : w1.cell? ⟨S + 1, 0, none⟩ = some (.int .u32 gr) := HQ1.out.cell 0
 have y1 : w1.cell? ⟨S + 1, 1, none⟩ = some (.slice af nf cf) := HQ1.out.cell 1
 have y2 : w1.cell? ⟨S + 1, 2, none⟩ = some (.slice ac nc cc) := HQ1.out.cell 2
 have y3 : w1.cell? ⟨S + 1, 3, none⟩ = some (.slice ao no co) := HQ1.out.cell 3
 have y4 : w1.cell? ⟨S + 1, 4, none⟩ = some (.int .i64 lm) := HQ1.out.cell 4
 go_wp2_with fail
 refine HT1.out.mono ?_
 rintro e w2 ⟨rfl, hb2⟩
 have HB2 := Lib.hid (HB1.out.trans (hb2.mono (Nat.le_of_lt HS1.out.lt)))
 have HQ2 := Lib.hid (HQ1.out.below hb2 HQ1.out.lt)
 clear hb2 HT1 e0 e1 e2 e3 y0 y1 y2 y3 y4
 go_wp2_with fail
 refine (HTK.out w2).mono ?_
 have HQ2L : Hid (S ≤ w2.heap.size) := Lib.hid (by have := HQ2.out.lt; omega)
 rintro e w3 (⟨L, v, rfl, rfl, -, hb3⟩ | ⟨a, er, rfl, her, rfl, hb3⟩)
 ·have HB3 := Lib.hid (HB2.out.trans (hb3.mono HQ2L.out))
  have y4 : w3.cell? ⟨S + 1, 4, none⟩ = some (.int .i64 lm) := (HQ2.out.below hb3 HQ2.out.lt).cell 4
  clear hb3
  by_cases hl : 999999999 < lm
  ·have t1 : decide ((999999999 : Int) < lm) = true := decide_eq_true hl
   have HC : Hid (showS s q.qp = (⟨#[]⟩, 4)) := Lib.hid (by rw [HC0.out, if_pos hl])
   clear hl
   go_wp2_with fail
   exact bodyPost_ret (v := .tuple #[.string ⟨#[]⟩, .int .i64 4]) (by simp [results, Tryz.results9, go_sem]) rfl ⟨by rw [HC.out], by rw [HSS.out]; exact HB3.out⟩
  ·have t1 : decide ((999999999 : Int) < lm) = false := decide_eq_false hl
   have HC : Hid (showS s q.qp = (t, 0)) := Lib.hid (by rw [HC0.out, if_neg hl]; rfl)
   clear hl
   go_wp2_with fail
   exact bodyPost_ret (v := .tuple #[.string t, .int .i64 0]) (by simp [results, Tryz.results9, go_sem]) rfl ⟨by rw [HC.out], by rw [HSS.out]; exact HB3.out⟩
 ·have HB3 := Lib.hid (HB2.out.trans (hb3.mono HQ2L.out))
  have y4 : w3.cell? ⟨S + 1, 4, none⟩ = some (.int .i64 lm) := (HQ2.out.below hb3 HQ2.out.lt).cell 4
  have HC : Hid (showS s q.qp = (⟨#[]⟩, 4)) := Lib.hid (by
   rw [HC0.out]
   split
   ·rfl
   ·rfl)
  have t2 : (er != 0) = true := by rw [bne_iff_ne]; exact her
  clear hb3 her
  by_cases hl : 999999999 < lm
  ·have t1 : decide ((999999999 : Int) < lm) = true := decide_eq_true hl
   clear hl
   go_wp2_with fail
   exact bodyPost_ret (v := .tuple #[.string ⟨#[]⟩, .int .i64 4]) (by simp [results, Tryz.results9, go_sem]) rfl ⟨by rw [HC.out], by rw [HSS.out]; exact HB3.out⟩
  ·have t1 : decide ((999999999 : Int) < lm) = false := decide_eq_false hl
   clear hl
   go_wp2_with fail
   exact bodyPost_ret (v := .tuple #[.string ⟨#[]⟩, .int .i64 4]) (by simp [results, Tryz.results9, go_sem]) rfl ⟨by rw [HC.out], by rw [HSS.out]; exact HB3.out⟩
end Go.Proofs.YtaofjnidniekjaaGreatDoor
