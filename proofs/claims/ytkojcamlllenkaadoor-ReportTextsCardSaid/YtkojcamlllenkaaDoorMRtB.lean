/- The contract of package report's Head: printed by gen_rte.py. Conditions: those stated; the library's table of powers of ten is as the row lists it. -/
import Derived.Test.YtkojcamlllenkaaDoorMRtA
import Derived.Test.YtkojcamlllenkaaDoorMOpR
namespace Go.Proofs.YtkojcamlllenkaaDoor
open Go.RowKit

def colsH (s : Sch) (q : Qry) (j : Nat) : List (List UInt8) := (gList q.group.toNat s.dims.length).map (gL (dimN s)) ++ (q.cols.take j).map (colL (measN s))
theorem colsH_all (s : Sch) (q : Qry) : colsH s q q.cols.length = headP s q.qp := by
 unfold colsH headP
 rw [List.take_of_length_le (Nat.le_refl _)]
 unfold dimN
 rw [List.length_map]
 rfl
theorem colsH_step (s : Sch) (q : Qry) {j : Nat} (h : j < q.cols.length) : colsH s q (j + 1) = colsH s q j ++ [colL (measN s) (colAt q.cols j)] := by
 unfold colsH
 rw [List.take_add_one, List.getElem?_eq_getElem h, List.map_append, ← List.append_assoc]
 unfold colAt
 rw [List.getD_eq_getElem?_getD, List.getElem?_eq_getElem h]
 rfl
theorem headP_le {s : Sch} {q : QP} (hs : chkS s = 0) : ∀ x ∈ headP s q, x.length ≤ 40 := by
 intro x hx
 unfold headP at hx
 rcases List.mem_append.1 hx with hx | hx
 ·obtain ⟨d, -, rfl⟩ := List.mem_map.1 hx
  exact Nat.le_trans (gL_le hs d) (by decide)
 ·obtain ⟨c, -, rfl⟩ := List.mem_map.1 hx
  exact colL_le hs c
theorem headP_len {s : Sch} {q : Qry} (h : ShwOk s q) : (headP s q.qp).length ≤ 22 := by
 unfold headP
 rw [List.length_append, List.length_map, List.length_map]
 have h1 := gList_len q.qp.group.toNat (dimN s).length
 have h2 : (dimN s).length = s.dims.length := by unfold dimN; rw [List.length_map]
 have h3 := h.nd
 have h4 := h.nc.2
 have h5 : q.qp.cols.length = q.cols.length := rfl
 omega
theorem oneQ_at {w : World} {h : Nat} {c : Int × Int} (hk : Blk w h 61 #[.int .i64 c.1, .int .i64 c.2]) (hc : I64 c.1 ∧ I64 c.2) : QryAt w ⟨none, 0, 0, some ⟨h, 0, none⟩, 1, 1, none, 0, 0⟩ ⟨0, [], [c], [], 0⟩ := by
 refine ⟨⟨⟨rfl, Nat.le_refl _, Nat.zero_le _, .inl rfl⟩, rfl, (fun f hf => nomatch hf)⟩, ⟨rfl, Nat.le_refl _, by show 1 ≤ maxLen; unfold maxLen; omega, .inr ⟨h, 0, rfl, hk.lt, fun i hi => ?_⟩⟩, rfl, ⟨rfl, Nat.le_refl _, Nat.zero_le _, .inl rfl⟩, rfl, ⟨Int.le_refl 0, show (0 : Int) ≤ 4294967295 by decide⟩, i64_small (x := 0) (by decide) (by decide), (fun f hf => by rw [List.mem_singleton.1 hf]; exact hc), (fun f hf => nomatch hf)⟩
 have : i = 0 ∨ i = 1 := by simp only at hi; omega
 rw [Nat.zero_add, hk.cell]
 rcases this with rfl | rfl <;> rfl
theorem strim_any (l : List UInt8) (w : World) : Calls Tryd.prog 19 #[.string (btS (selB ++ l)), .string ⟨#[115, 101, 108, 101, 99, 116, 32]⟩] w fun e w' => e = .returned (.string (btS l)) ∧ w' = w := by
 refine (Tryd.strings_TrimPrefix (btS (selB ++ l)) ⟨#[115, 101, 108, 101, 99, 116, 32]⟩ w).mono ?_
 rintro e w' ⟨rfl, rfl⟩
 refine ⟨ret_st ?_, rfl⟩
 show btS (Lib.trimPrefix (selB ++ l) selB) = btS l
 rw [sel_trim]

set_option maxRecDepth 100000 in
set_option maxHeartbeats 4000000 in
theorem phead_any (w : World) (l : SchL) (s : Sch) (m : QryL) (q : Qry) (h : SchAt w l s) (hq : QryAt w m q) (ht : Tab w) :
  Calls Tryd.prog 8 #[l.val, m.val q] w (RShow w (headS s q.qp)) := by
 obtain ⟨ad, nd, cd, ai, ni, ci, an, nn, cn, av, nv, cv⟩ := l
 obtain ⟨af, nf, cf, ac, nc, cc, ao, no, co⟩ := m
 have HLN := Lib.hid (And.intro (show s.dims.length = nd from h.2.1) (show q.cols.length = nc from hq.2.2.1))
 obtain ⟨gr, hgr⟩ : ∃ g, q.group = g := ⟨_, rfl⟩
 obtain ⟨lm, hlm⟩ : ∃ g, q.limit = g := ⟨_, rfl⟩
 obtain ⟨gr0, gr1⟩ : 0 ≤ gr ∧ gr ≤ 4294967295 := hgr ▸ hq.2.2.2.2.2.1
 unfold SchL.val QryL.val
 simp only
 rw [hgr, hlm]
 obtain ⟨hbx, hby, hbw, hsz⟩ := two_pbox w 26 32 #[.slice ad nd cd, .slice ai ni ci, .slice an nn cn, .slice av nv cv] #[.int .u32 gr, .slice af nf cf, .slice ac nc cc, .slice ao no co, .int .i64 lm]
 have HS := Lib.hid (h.below hbw (Nat.le_refl _))
 have HQ := Lib.hid (hq.below hbw (Nat.le_refl _))
 have HBW := Lib.hid hbw
 have HGR := Lib.hid (And.intro hgr hlm)
 obtain ⟨N, hN⟩ : ∃ N, ((w.alloc (.cells #[.slice ad nd cd, .slice ai ni ci, .slice an nn cn, .slice av nv cv] 26)).alloc (.cells #[.int .u32 gr, .slice af nf cf, .slice ac nc cc, .slice ao no co, .int .i64 lm] 32)).heap.size = N := ⟨_, rfl⟩
 have HN1 : Hid (w.heap.size < N ∧ w.heap.size + 1 < N) := Lib.hid (by rw [← hN, hsz]; omega)
 have HT : Hid (∀ v, Below N ((w.alloc (.cells #[.slice ad nd cd, .slice ai ni ci, .slice an nn cn, .slice av nv cv] 26)).alloc (.cells #[.int .u32 gr, .slice af nf cf, .slice ac nc cc, .slice ao no co, .int .i64 lm] 32)) v → TabS v) := Lib.hid (fun v hv => tab_bel ht (hbw.trans (hv.mono (by rw [← hN, hsz]; omega))))
 have e0 := hbx 0
 have e1 := hbx 1
 have e2 := hbx 2
 have e3 := hbx 3
 have y0 := hby 0
 have y1 := hby 1
 have y2 := hby 2
 have y3 := hby 3
 have y4 := hby 4
 simp only [List.getElem?_toArray, List.getElem?_cons_zero, List.getElem?_cons_succ] at e0 e1 e2 e3 y0 y1 y2 y3 y4
 have HE := Lib.hid (And.intro e0 (And.intro e1 (And.intro e2 e3)))
 have HY := Lib.hid (And.intro y0 (And.intro y1 (And.intro y2 (And.intro y3 y4))))
 obtain ⟨K, hK⟩ : ∃ K, qchk s q = K := ⟨_, rfl⟩
 have HK := Lib.hid hK
 have HKP : Hid (qchk s q.qp.qry = K) := Lib.hid (by rw [qp_chk, hK])
 clear h hq hbw hbx hby hsz hK hgr hlm ht
 go_enter Tryd.func8, Tryd.ntmps8
 go_upto_region 1 with fail
 generalize ((w.alloc (.cells #[.slice ad nd cd, .slice ai ni ci, .slice an nn cn, .slice av nv cv] 26)).alloc (.cells #[.int .u32 gr, .slice af nf cf, .slice ac nc cc, .slice ao no co, .int .i64 lm] 32)) = w0 at *
 generalize hS : w.heap.size = S at *
 have HSS := Lib.hid hS
 have HN := Lib.hid hN
 clear hS hN
 have HCK := Lib.hid (qchk_any w0 ⟨ad, nd, cd, ai, ni, ci, an, nn, cn, av, nv, cv⟩ s ⟨af, nf, cf, ac, nc, cc, ao, no, co⟩ q HS.out HQ.out)
 unfold SchL.val QryL.val RErr at HCK
 dsimp only at HCK
 rw [HGR.out.1, HGR.out.2, HK.out, HN.out] at HCK
 go_wp2_with fail
 refine HCK.out.mono ?_
 rintro e w1 ⟨rfl, hb1⟩
 have HB1 := Lib.hid hb1
 clear hb1 e0 e1 e2 e3 y0 y1 y2 y3 y4 HCK
 by_cases hk0 : K = 0
 case neg =>
  have t1 : ((K : Int) != 0) = true := by simp; omega
  have HC : Hid (headS s q.qp = (⟨#[]⟩, (K : Int))) := Lib.hid (by unfold headS; rw [HKP.out, if_pos hk0])
  clear hk0
  go_wp2_with fail
  exact bodyPost_ret (v := .tuple #[.string ⟨#[]⟩, .int .i64 (K : Int)]) (by simp [results, Tryd.results8, go_sem]) rfl (RShow.mk HC.out HSS.out HBW.out HN1.out.1 HB1.out)
 case pos =>
 subst hk0
 have HC : Hid (headS s q.qp = (btS (Lib.join (headP s q.qp) [32]), 0)) := Lib.hid (by unfold headS headL; rw [HKP.out, if_neg (by decide)])
 have OK := Lib.hid (shw_ok HK.out)
 have hc16 : nc ≤ 16 := by rw [← HLN.out.2]; exact OK.out.nc.2
 have hd6 : nd ≤ 6 := by rw [← HLN.out.1]; exact OK.out.nd
 have HSO : Hid (∀ v, Below N w0 v → SchAt v ⟨ad, nd, cd, ai, ni, ci, an, nn, cn, av, nv, cv⟩ s) := Lib.hid (fun v hv => HS.out.below hv (Nat.le_of_eq HN.out))
 have HQO : Hid (∀ v, Below N w0 v → QryAt v ⟨af, nf, cf, ac, nc, cc, ao, no, co⟩ q) := Lib.hid (fun v hv => HQ.out.below hv (Nat.le_of_eq HN.out))
 have HSZ : Hid (∀ v, Below N w0 v → N ≤ v.heap.size) := Lib.hid (fun v hv => by have := hv.size; rw [HN.out] at this; exact this)
 have e0 : w1.cell? ⟨S, 0, none⟩ = some (.slice ad nd cd) := by rw [HB1.out.cell (p := ⟨S, 0, none⟩) HN1.out.1]; exact HE.out.1
 go_wp2_with fail
 clear e0
 go_loopg [7, 23] nd (fun g v iu wr => ∃ (j : Nat), iu = .int .i64 j ∧ j + g = nd ∧ wr.ownsRow N 9 1 v (gList gr.toNat j).length ((gList gr.toNat j).map fun d => Value.string (btS (gL (dimN s) d))) ∧ Below N w0 wr)
 case atStart => exact ⟨0, rfl, by omega, World.ownsRow_nil _ _ _ _, HB1.out⟩
 case round =>
 obtain ⟨i, rfl, hqq, hown, hb⟩ := hrel
 have HQQ := Lib.hid hqq
 have HOW := Lib.hid hown
 have HB := Lib.hid hb
 have hsz : N ≤ wr.heap.size := HSZ.out _ hb
 clear hqq hown hb
 by_cases hlt : i < nd
 case pos =>
  obtain ⟨b, off, e, hbl, hc⟩ := (HSO.out _ HB.out).1.at (by show 0 < nd; omega)
  simp only at e
  subst e
  have c0 := hc (i * 2) (by show i * 2 < nd * 2; omega)
  have c1 := hc (i * 2 + 1) (by show i * 2 + 1 < nd * 2; omega)
  obtain ⟨g0, g1⟩ := dimCells_get (ds := s.dims) (i := i) (by rw [HLN.out.1]; exact hlt)
  rw [g0] at c0
  rw [g1, ← Nat.add_assoc] at c1
  have HGS := Lib.hid (gList_succ gr.toNat i)
  have HNM : Hid (gL (dimN s) i = (dimAt s.dims i).1.data.toList) := Lib.hid (by
   unfold gL dimN dimAt
   rw [List.getD_eq_getElem?_getD, List.getElem?_map, List.getD_eq_getElem?_getD, List.getElem?_eq_getElem (by rw [HLN.out.1]; exact hlt)]
   rfl)
  obtain ⟨nm, hnm⟩ : ∃ x, (dimAt s.dims i).1 = x := ⟨_, rfl⟩
  obtain ⟨dz, hdz⟩ : ∃ x, (dimAt s.dims i).2 = x := ⟨_, rfl⟩
  rw [hnm] at c0 HNM
  rw [hdz] at c1
  clear hc g0 g1 hnm hdz
  have y0 : wr.cell? ⟨S + 1, 0, none⟩ = some (.int .u32 gr) := by rw [HB.out.cell (p := ⟨S + 1, 0, none⟩) HN1.out.2]; exact HY.out.1
  have hSw : S + 1 < wr.heap.size := Nat.lt_of_lt_of_le HN1.out.2 hsz
  go_upto_region 8 with fail
  have hw2 : Below N w0 (wr.alloc (.cells #[.string nm, .int .i64 dz] 59)) := HB.out.alloc hsz _
  have hk2 := Blk.new wr 59 #[.string nm, .int .i64 dz]
  have hz2 : N ≤ (wr.alloc (.cells #[.string nm, .int .i64 dz] 59)).heap.size := HSZ.out _ hw2
  have HOW1 : Hid ((wr.alloc (.cells #[.string nm, .int .i64 dz] 59)).ownsRow N 9 1 u7 (gList gr.toNat i).length ((gList gr.toNat i).map fun d => Value.string (btS (gL (dimN s) d)))) := Lib.hid (World.ownsRow.alloc HOW.out _)
  clear c0 c1 y0 hSw
  generalize (wr.alloc (.cells #[.string nm, .int .i64 dz] 59)) = w3 at *
  generalize wr.heap.size = T at hk2 hsz ⊢
  have HB3 := Lib.hid hw2
  have HK3 := Lib.hid hk2
  have y0 : w3.cell? ⟨S + 1, 0, none⟩ = some (.int .u32 gr) := by rw [HB3.out.cell (p := ⟨S + 1, 0, none⟩) HN1.out.2]; exact HY.out.1
  clear hw2 hk2 HOW
  go_upto_if 33 with fail
  have HBT := Lib.hid (gr_bit (i := i) gr0 gr1)
  have HGL := Lib.hid (gList_len gr.toNat i)
  by_cases hbit : gr.toNat / 2 ^ i % 2 = 1
  case pos =>
   have t1 : (bits BinOp.and IntKind.u32 (gr / 2 ^ i) 1 == 1) = true := by rw [HBT.out]; exact decide_eq_true hbit
   have HG2 : Hid (gList gr.toNat (i + 1) = gList gr.toNat i ++ [i]) := Lib.hid (by rw [HGS.out, if_pos hbit])
   have f0 : w3.cell? ⟨T, 0, none⟩ = some (.string nm) := HK3.out.cell 0
   obtain ⟨ng, hng⟩ : ∃ n, (gList gr.toNat i).length = n := ⟨_, rfl⟩
   obtain ⟨L0, hL0⟩ : ∃ L, ((gList gr.toNat i).map fun d => Value.string (btS (gL (dimN s) d))) = L := ⟨_, rfl⟩
   have HLL := Lib.hid (And.intro hng hL0)
   have hng6 : ng ≤ i := by rw [← hng]; exact HGL.out
   rw [hng, hL0] at HOW1
   clear hbit hng hL0 y0
   go_wp2_with (at_builtin; refine wpList_append_oneG (z := .string ByteArray.empty) (sz := 1) (bytes := 16) info_string rfl (by decide) Tryd.underlying23 rfl _ _ rfl w3 _ #[.string nm] N u7 ng L0 w3.heap.size rfl rfl rfl rfl HOW1.out (fun u hu => by simp at hu; subst hu; rfl) (by omega) (by unfold maxLen; omega) hz2 ?_)
   intro v' w' h2 h3 h4
   have HOW4 : Hid (w'.ownsRow N 9 1 v' (gList gr.toNat (i + 1)).length ((gList gr.toNat (i + 1)).map fun d => Value.string (btS (gL (dimN s) d)))) := Lib.hid (by
    rw [HG2.out, List.length_append, HLL.out.1, List.map_append, HLL.out.2]
    simp only [List.map_cons, List.map_nil]
    rw [HNM.out, btS_of]
    exact h2)
   have HB4 := Lib.hid (h4 w0 HB3.out)
   clear h2 h3 h4
   go_wp2_with fail
   go_roundg (nd - i - 1)
   case measure => have := HQQ.out; omega
   case rel => exact ⟨i + 1, by go_num, by have := HQQ.out; omega, HOW4.out, HB4.out⟩
  case neg =>
   have t1 : (bits BinOp.and IntKind.u32 (gr / 2 ^ i) 1 == 1) = false := by rw [HBT.out]; exact decide_eq_false hbit
   have HG2 : Hid (gList gr.toNat (i + 1) = gList gr.toNat i) := Lib.hid (by rw [HGS.out, if_neg hbit, List.append_nil])
   clear hbit y0
   go_wp2_with fail
   go_roundg (nd - i - 1)
   case measure => have := HQQ.out; omega
   case rel => exact ⟨i + 1, by go_num, by have := HQQ.out; omega, by rw [HG2.out]; exact HOW1.out, HB3.out⟩
 case neg =>
 obtain rfl : nd = i := by have := HQQ.out; omega
 have HGL := Lib.hid (gList_len gr.toNat nd)
 obtain ⟨ng, hng⟩ : ∃ n, (gList gr.toNat nd).length = n := ⟨_, rfl⟩
 have hng6 : ng ≤ nd := by rw [← hng]; exact HGL.out
 have HOW2 : Hid (wr.ownsRow N 9 1 u7 (ng + 0) ((colsH s q 0).map fun x => Value.string (btS x))) := Lib.hid (by
  have h := HOW.out
  rw [hng, join_take] at h
  unfold colsH
  rw [List.take_zero, List.map_nil, List.append_nil, HLN.out.1, HGR.out.1]
  exact h)
 have HGN : Hid ((gList gr.toNat nd).length = ng) := Lib.hid hng
 have HB2 := HB
 obtain ⟨w2, rfl⟩ : ∃ x, x = wr := ⟨_, rfl⟩
 clear hng HB HQQ HOW hsz hlt
 have y2 : w2.cell? ⟨S + 1, 2, none⟩ = some (.slice ac nc cc) := by rw [HB2.out.cell (p := ⟨S + 1, 2, none⟩) HN1.out.2]; exact HY.out.2.2.1
 go_wp2_with fail
 clear y2
 go_loopg [7, 43] nc (fun g v iu wr => ∃ (j : Nat), iu = .int .i64 j ∧ j + g = nc ∧ wr.ownsRow N 9 1 v (ng + j) ((colsH s q j).map fun x => Value.string (btS x)) ∧ Below N w0 wr)
 case atStart => exact ⟨0, rfl, by omega, HOW2.out, HB2.out⟩
 case round =>
 obtain ⟨j, rfl, hqq, hown, hb⟩ := hrel
 have HQQ := Lib.hid hqq
 have HOW := Lib.hid hown
 have HB := Lib.hid hb
 have hsz : N ≤ wr.heap.size := HSZ.out _ hb
 clear hqq hown hb HOW2
 by_cases hlt : j < nc
 case pos =>
  obtain ⟨b, off, e, hbl, hc⟩ := (HQO.out _ HB.out).2.1.at (by show 0 < nc; omega)
  simp only at e
  subst e
  have c0 := hc (j * 2) (by show j * 2 < nc * 2; omega)
  have c1 := hc (j * 2 + 1) (by show j * 2 + 1 < nc * 2; omega)
  have hjl : j < q.cols.length := by rw [HLN.out.2]; exact hlt
  obtain ⟨g0, g1⟩ := colCells_get (ds := q.cols) (i := j) hjl
  rw [g0] at c0
  rw [g1, ← Nat.add_assoc] at c1
  have HTK := Lib.hid (congrArg (fun l => l.map fun x => Value.string (btS x)) (colsH_step s q hjl))
  have HCO := Lib.hid (OK.out.col j hjl)
  have HCI := Lib.hid ((HQO.out _ HB.out).2.2.2.2.2.2.2.1 (colAt q.cols j) (colAt_mem hjl))
  obtain ⟨⟨ck, cm⟩, hcl⟩ : ∃ f, colAt q.cols j = f := ⟨_, rfl⟩
  rw [hcl] at c0 c1 HTK HCO HCI
  simp only [List.map_append, List.map_cons, List.map_nil] at HTK
  simp only at c0 c1 HCO HCI
  have HSHW := Lib.hid (one_show OK.out.hs (c := (ck, cm)) HCO.out)
  clear hc g0 g1 hcl hjl
  have e0 : wr.cell? ⟨S, 0, none⟩ = some (.slice ad nd cd) := by rw [HB.out.cell (p := ⟨S, 0, none⟩) HN1.out.1]; exact HE.out.1
  have e1 : wr.cell? ⟨S, 1, none⟩ = some (.slice ai ni ci) := by rw [HB.out.cell (p := ⟨S, 1, none⟩) HN1.out.1]; exact HE.out.2.1
  have e2 : wr.cell? ⟨S, 2, none⟩ = some (.slice an nn cn) := by rw [HB.out.cell (p := ⟨S, 2, none⟩) HN1.out.1]; exact HE.out.2.2.1
  have e3 : wr.cell? ⟨S, 3, none⟩ = some (.slice av nv cv) := by rw [HB.out.cell (p := ⟨S, 3, none⟩) HN1.out.1]; exact HE.out.2.2.2
  have hSw : S < wr.heap.size := Nat.lt_of_lt_of_le HN1.out.1 hsz
  go_upto_region 14 with fail
  have hw2 : Below N w0 (wr.alloc (.cells #[.int .i64 ck, .int .i64 cm] 61)) := HB.out.alloc hsz _
  have hk2 := Blk.new wr 61 #[.int .i64 ck, .int .i64 cm]
  have hz2 : N ≤ (wr.alloc (.cells #[.int .i64 ck, .int .i64 cm] 61)).heap.size := HSZ.out _ hw2
  have HOW1 : Hid ((wr.alloc (.cells #[.int .i64 ck, .int .i64 cm] 61)).ownsRow N 9 1 u7 (ng + j) ((colsH s q j).map fun x => Value.string (btS x))) := Lib.hid (World.ownsRow.alloc HOW.out _)
  clear c0 c1 e0 e1 e2 e3 hSw
  generalize (wr.alloc (.cells #[.int .i64 ck, .int .i64 cm] 61)) = w3 at *
  generalize wr.heap.size = T at hk2 hsz ⊢
  have HB3 := Lib.hid hw2
  have f0 : w3.cell? ⟨T, 0, none⟩ = some (.int .i64 ck) := hk2.cell 0
  have f1 : w3.cell? ⟨T, 1, none⟩ = some (.int .i64 cm) := hk2.cell 1
  have e0 : w3.cell? ⟨S, 0, none⟩ = some (.slice ad nd cd) := by rw [HB3.out.cell (p := ⟨S, 0, none⟩) HN1.out.1]; exact HE.out.1
  have e1 : w3.cell? ⟨S, 1, none⟩ = some (.slice ai ni ci) := by rw [HB3.out.cell (p := ⟨S, 1, none⟩) HN1.out.1]; exact HE.out.2.1
  have e2 : w3.cell? ⟨S, 2, none⟩ = some (.slice an nn cn) := by rw [HB3.out.cell (p := ⟨S, 2, none⟩) HN1.out.1]; exact HE.out.2.2.1
  have e3 : w3.cell? ⟨S, 3, none⟩ = some (.slice av nv cv) := by rw [HB3.out.cell (p := ⟨S, 3, none⟩) HN1.out.1]; exact HE.out.2.2.2
  have hw4 : Below N w0 (w3.alloc (.cells #[.int .i64 ck, .int .i64 cm] 61)) := hw2.alloc hz2 _
  have hz4 : N ≤ (w3.alloc (.cells #[.int .i64 ck, .int .i64 cm] 61)).heap.size := HSZ.out _ hw4
  have hk4 := Blk.new w3 61 #[.int .i64 ck, .int .i64 cm]
  have HOW4 : Hid ((w3.alloc (.cells #[.int .i64 ck, .int .i64 cm] 61)).ownsRow N 9 1 u7 (ng + j) ((colsH s q j).map fun x => Value.string (btS x))) := Lib.hid (World.ownsRow.alloc HOW1.out _)
  have HSP := Lib.hid (pshow_any _ ⟨ad, nd, cd, ai, ni, ci, an, nn, cn, av, nv, cv⟩ s ⟨none, 0, 0, some ⟨w3.heap.size, 0, none⟩, 1, 1, none, 0, 0⟩ ⟨0, [], [(ck, cm)], [], 0⟩ (HSO.out _ hw4) (oneQ_at hk4 HCI.out) (fun v hv => HT.out v (hw4.trans (hv.mono hz4))))
  rw [show (⟨0, [], [(ck, cm)], [], 0⟩ : Qry).qp = oneQ (ck, cm) from rfl, HSHW.out] at HSP
  unfold SchL.val QryL.val RShow at HSP
  dsimp only at HSP
  have HB4 := Lib.hid hw4
  have HZ4 := Lib.hid hz4
  clear hw2 hk2 hw4 hz4 hk4 HOW HOW1
  go_wp2_with fail
  refine HSP.out.mono ?_
  rintro e w5 ⟨rfl, hb5⟩
  have HB5 := Lib.hid (HB4.out.trans (hb5.mono HZ4.out))
  have hz5 : N ≤ w5.heap.size := HSZ.out _ HB5.out
  have HOW5 := Lib.hid (own_below HOW4.out hb5 (Nat.le_refl _))
  clear hb5 f0 f1 e0 e1 e2 e3 HOW4 HSP
  obtain ⟨L0, hL0⟩ : ∃ L, ((colsH s q j).map fun x => Value.string (btS x)) = L := ⟨_, rfl⟩
  rw [hL0] at HTK HOW5
  clear hL0
  go_wp2_with fail
  refine (strim_any (colL (measN s) (ck, cm)) w5).mono ?_
  rintro e w6 ⟨rfl, rfl⟩
  obtain ⟨X, hX⟩ : ∃ X, btS (colL (measN s) (ck, cm)) = X := ⟨_, rfl⟩
  rw [hX] at HTK ⊢
  clear hX
  go_wp2_with (at_builtin; refine wpList_append_oneG (z := .string ByteArray.empty) (sz := 1) (bytes := 16) info_string rfl (by decide) Tryd.underlying23 rfl _ _ rfl w6 _ #[.string X] N u7 (ng + j) L0 w6.heap.size rfl rfl rfl rfl HOW5.out (fun u hu => by simp at hu; subst hu; rfl) (by omega) (by unfold maxLen; omega) hz5 ?_)
  intro v' w' h2 h3 h4
  have HOW7 : Hid (w'.ownsRow N 9 1 v' (ng + (j + 1)) ((colsH s q (j + 1)).map fun x => Value.string (btS x))) := Lib.hid (by rw [HTK.out]; exact h2)
  have HB7 := Lib.hid (h4 w0 HB5.out)
  clear h2 h3 h4
  go_wp2_with fail
  go_roundg (nc - j - 1)
  case measure => have := HQQ.out; omega
  case rel => exact ⟨j + 1, by go_num, by have := HQQ.out; omega, HOW7.out, HB7.out⟩
 case neg =>
 obtain rfl : nc = j := by have := HQQ.out; omega
 have hown := HOW.out
 have HHP : Hid (colsH s q nc = headP s q.qp) := Lib.hid (by rw [← HLN.out.2]; exact colsH_all s q)
 rw [HHP.out] at hown
 obtain ⟨a3, c3, rfl⟩ := own_form hown
 have hlen := headP_len OK.out
 have hjl : (Lib.join (headP s q.qp) [32]).length ≤ 902 := join_le (K := 40) (N := 22) (headP_le OK.out.hs) hlen
 have HJN := Lib.hid (join_own ⟨#[32]⟩ hown (by show (Lib.join (headP s q.qp) [32]).length ≤ _; omega) (by omega))
 rw [show Lib.join (headP s q.qp) (ByteArray.mk #[32]).data.toList = Lib.join (headP s q.qp) [32] from rfl] at HJN
 clear hown hjl HOW hlen
 go_wp2_with fail
 refine HJN.out.mono ?_; rintro e w2 ⟨rfl, hb2⟩
 have HB9 := Lib.hid (HB.out.trans (hb2.mono hsz))
 clear hb2
 go_wp2_with fail
 exact bodyPost_ret (v := .tuple #[.string (btS (Lib.join (headP s q.qp) [32])), .int .i64 0]) (by simp [results, Tryd.results8, go_sem]) rfl (RShow.mk HC.out HSS.out HBW.out HN1.out.1 HB9.out)
end Go.Proofs.YtkojcamlllenkaaDoor
/- The contract of package report's Text: printed by gen_rtf.py. Conditions: those stated; the library's table of powers of ten is as the row lists it. -/
namespace Go.Proofs.YtkojcamlllenkaaDoor
open Go.RowKit

theorem bws_any (B b : Nat) (bs : List Value) (s : ByteArray) (w : World) (h : Lib.IsBuilder 69 5 B b bs w) (hlen : bs.length + s.size ≤ 140737488355328) (hBw : B ≤ w.heap.size) :
  Calls Tryd.prog 23 #[.pointer (some ⟨b, 0, none⟩), .string s] w fun e w' => e = .returned (.tuple #[.int .i64 s.size, .nilIface]) ∧ (Lib.BuilderAt 69 5 B b (.pointer (some ⟨b, 0, none⟩)) (bs ++ Lib.strCells s) w' ∧ Below B w w') :=
 Any.Builder_WriteString { Tryd.lays156 with } Tryd.Builder_Extra_156 B b bs s w h hlen hBw
theorem builder_below {w w' : World} {T e : TypeId} {B b N : Nat} {bs : List Value} (h : Lib.IsBuilder T e B b bs w) (hb : Below N w w') (hN : w.heap.size ≤ N) : Lib.IsBuilder T e B b bs w' := by
 have key : ∀ p, Lib.BuilderAt T e B b p bs w → Lib.BuilderAt T e B b p bs w' := by
  rintro p ⟨hB, v, hv, ho, hne⟩
  exact ⟨hB, v, by rw [hb.block b (by have := (Array.getElem?_eq_some_iff.1 hv).1; omega)]; exact hv, own_below ho hb hN, hne⟩
 rcases h with h | h
 ·exact .inl (key _ h)
 ·exact .inr (key _ h)
theorem lineL_le {cs : List Int} {vs : List (Bool × Int × Nat)} (hc : cs.length ≤ 100) (hv : vs.length ≤ 100) (h1 : ∀ c ∈ cs, -9223372036854775808 ≤ c ∧ c ≤ 9223372036854775807) (h2 : ∀ v ∈ vs, ValOk v) : (lineL cs vs).length ≤ 600200 := by
 unfold lineL
 exact Nat.le_trans (join_le (K := 3000) (N := 200) (pieces_le h1 h2) (by rw [pieces_len]; omega)) (by decide)
abbrev RowZ := RowL × (List Int × List (Bool × Int × Nat))
/-- few and small rows -/
def RowsFew (zs : List RowZ) : Prop := zs.length ≤ 100 ∧ ∀ z ∈ zs, z.1.cn ≤ 100 ∧ z.1.vn ≤ 100
noncomputable def linesZ (zs : List RowZ) (j : Nat) : List UInt8 := linesL ((zs.take j).map (·.2))
def zAt (zs : List RowZ) (j : Nat) : RowZ := zs.getD j (⟨none, 0, 0, none, 0, 0⟩, ([], []))
theorem zAt_mem {zs : List RowZ} {j : Nat} (h : j < zs.length) : zAt zs j ∈ zs := by
 unfold zAt; rw [List.getD_eq_getElem?_getD, List.getElem?_eq_getElem h]; exact List.getElem_mem h
theorem rowCells_get : ∀ {zs : List RowZ} {i : Nat}, i < zs.length → (rowCells zs).getD (i * 2) undef = .slice (zAt zs i).1.ca (zAt zs i).1.cn (zAt zs i).1.cc ∧ (rowCells zs).getD (i * 2 + 1) undef = .slice (zAt zs i).1.va (zAt zs i).1.vn (zAt zs i).1.vc
 | [], _, h => by simp at h
 | d :: ds, 0, _ => ⟨rfl, rfl⟩
 | d :: ds, i + 1, h => by
  have h2 := rowCells_get (zs := ds) (i := i) (by simpa using h)
  rw [show (i + 1) * 2 = i * 2 + 1 + 1 from by omega]
  simpa [rowCells, zAt] using h2
theorem linesZ_zero (zs : List RowZ) : linesZ zs 0 = [] := rfl
theorem linesZ_step {zs : List RowZ} {j : Nat} (h : j < zs.length) : linesZ zs (j + 1) = linesZ zs j ++ (lineL (zAt zs j).2.1 (zAt zs j).2.2 ++ [10]) := by
 unfold linesZ linesL zAt
 rw [List.take_add_one, List.getElem?_eq_getElem h, List.map_append, List.flatMap_append, List.getD_eq_getElem?_getD, List.getElem?_eq_getElem h]
 simp
theorem linesZ_all (zs : List RowZ) {j : Nat} (h : zs.length = j) : linesZ zs j = linesL (zs.map (·.2)) := by
 unfold linesZ; rw [List.take_of_length_le (by omega)]
theorem linesZ_le {w : World} {a : Option Addr} {n c : Nat} {zs : List RowZ} (h : RowsAt w a n c zs) (hf : RowsFew zs) : ∀ j, j ≤ zs.length → (linesZ zs j).length ≤ 600201 * j
 | 0, _ => Nat.le_refl _
 | j + 1, hj => by
  have h1 := linesZ_le h hf j (by omega)
  have hm := zAt_mem (zs := zs) (j := j) (by omega)
  have h2 := h.2.2 _ hm
  have h3 := hf.2 _ hm
  have h4 := lineL_le (by rw [h2.1.1]; exact h3.1) (by rw [h2.2.2.1]; exact h3.2) h2.2.2.2.1 h2.2.2.2.2
  rw [linesZ_step (by omega), List.length_append, List.length_append]
  simp only [List.length_cons, List.length_nil]
  omega
theorem headL_le {s : Sch} {q : Qry} (h : ShwOk s q) : (headL s q.qp).length ≤ 902 := by
 unfold headL
 exact join_le (K := 40) (N := 22) (headP_le h.hs) (headP_len h)

set_option maxRecDepth 100000 in
set_option maxHeartbeats 4000000 in
theorem ptext_any (w : World) (l : SchL) (s : Sch) (m : QryL) (q : Qry) (za : Option Addr) (zn zc : Nat) (zs : List RowZ) (h : SchAt w l s) (hq : QryAt w m q) (hz : RowsAt w za zn zc zs) (hf : RowsFew zs) (ht : Tab w) :
  Calls Tryd.prog 10 #[l.val, m.val q, .slice za zn zc] w (RShow w (textS s q.qp (zs.map (·.2)))) := by
 obtain ⟨K, hK⟩ : ∃ K, qchk s q = K := ⟨_, rfl⟩
 have HKP : Hid (qchk s q.qp.qry = K) := Lib.hid (by rw [qp_chk, hK])
 have HOKK : Hid (K = 0 → ShwOk s q) := Lib.hid (fun h0 => shw_ok (by rw [hK, h0]))
 obtain ⟨ad, nd, cd, ai, ni, ci, an, nn, cn, av, nv, cv⟩ := l
 obtain ⟨af, nf, cf, ac, nc, cc, ao, no, co⟩ := m
 have HZN := Lib.hid hz.2.1
 have hzn : zn ≤ 100 := by rw [← hz.2.1]; exact hf.1
 have HFW := Lib.hid hf
 have HLL := Lib.hid (linesZ_le hz hf)
 obtain ⟨gr, hgr⟩ : ∃ g, q.group = g := ⟨_, rfl⟩
 obtain ⟨lm, hlm⟩ : ∃ g, q.limit = g := ⟨_, rfl⟩
 unfold SchL.val QryL.val
 simp only
 rw [hgr, hlm]
 obtain ⟨hbx, hby, hbw, hsz⟩ := two_pbox w 26 32 #[.slice ad nd cd, .slice ai ni ci, .slice an nn cn, .slice av nv cv] #[.int .u32 gr, .slice af nf cf, .slice ac nc cc, .slice ao no co, .int .i64 lm]
 have HHD := Lib.hid (phead_any _ ⟨ad, nd, cd, ai, ni, ci, an, nn, cn, av, nv, cv⟩ s ⟨af, nf, cf, ac, nc, cc, ao, no, co⟩ q (h.below hbw (Nat.le_refl _)) (hq.below hbw (Nat.le_refl _)) (tab_bel ht hbw))
 have HRZ := Lib.hid (hz.below hbw (Nat.le_refl _))
 have HBW := Lib.hid hbw
 obtain ⟨N, hN⟩ : ∃ N, ((w.alloc (.cells #[.slice ad nd cd, .slice ai ni ci, .slice an nn cn, .slice av nv cv] 26)).alloc (.cells #[.int .u32 gr, .slice af nf cf, .slice ac nc cc, .slice ao no co, .int .i64 lm] 32)).heap.size = N := ⟨_, rfl⟩
 have HN1 : Hid (w.heap.size < N ∧ w.heap.size + 1 < N) := Lib.hid (by rw [← hN, hsz]; omega)
 have HT : Hid (∀ v, Below N ((w.alloc (.cells #[.slice ad nd cd, .slice ai ni ci, .slice an nn cn, .slice av nv cv] 26)).alloc (.cells #[.int .u32 gr, .slice af nf cf, .slice ac nc cc, .slice ao no co, .int .i64 lm] 32)) v → Tab v) := Lib.hid (fun v hv => tab_bel ht (hbw.trans (hv.mono (by rw [← hN, hsz]; omega))))
 have e0 := hbx 0
 have e1 := hbx 1
 have e2 := hbx 2
 have e3 := hbx 3
 have y0 := hby 0
 have y1 := hby 1
 have y2 := hby 2
 have y3 := hby 3
 have y4 := hby 4
 simp only [List.getElem?_toArray, List.getElem?_cons_zero, List.getElem?_cons_succ] at e0 e1 e2 e3 y0 y1 y2 y3 y4
 unfold SchL.val QryL.val RShow at HHD
 dsimp only at HHD
 rw [hgr, hlm] at HHD
 clear h hq hbw hbx hby hsz hK hgr hlm ht hz hf
 go_enter Tryd.func10, Tryd.ntmps10
 go_upto_region 1 with fail
 generalize ((w.alloc (.cells #[.slice ad nd cd, .slice ai ni ci, .slice an nn cn, .slice av nv cv] 26)).alloc (.cells #[.int .u32 gr, .slice af nf cf, .slice ac nc cc, .slice ao no co, .int .i64 lm] 32)) = w0 at *
 generalize hS : w.heap.size = S at *
 have HSS := Lib.hid hS
 have HN := Lib.hid hN
 rw [hN] at HHD
 clear hS hN
 have HSZ : Hid (∀ v, Below N w0 v → N ≤ v.heap.size) := Lib.hid (fun v hv => by have := hv.size; rw [HN.out] at this; exact this)
 go_wp2_with fail
 refine HHD.out.mono ?_
 rintro e w1 ⟨rfl, hb1⟩
 have HB1 := Lib.hid hb1
 clear hb1 e0 e1 e2 e3 y0 y1 y2 y3 y4 HHD
 by_cases hk0 : K = 0
 case neg =>
  have t1 : ((K : Int) != 0) = true := by simp; omega
  have HC : Hid (textS s q.qp (zs.map (·.2)) = (⟨#[]⟩, (K : Int))) := Lib.hid (by unfold textS; rw [HKP.out, if_pos hk0])
  have HC2 : Hid (headS s q.qp = (⟨#[]⟩, (K : Int))) := Lib.hid (by unfold headS; rw [HKP.out, if_pos hk0])
  rw [HC2.out]
  clear hk0
  dsimp only
  go_wp2_with fail
  exact bodyPost_ret (v := .tuple #[.string ⟨#[]⟩, .int .i64 (K : Int)]) (by simp [results, Tryd.results10, go_sem]) rfl (RShow.mk HC.out HSS.out HBW.out HN1.out.1 HB1.out)
 case pos =>
 subst hk0
 have HHL : Hid ((headL s q.qp).length ≤ 902) := Lib.hid (headL_le (HOKK.out rfl))
 have HC2 : Hid (headS s q.qp = (btS (headL s q.qp), 0)) := Lib.hid (by unfold headS; rw [HKP.out, if_neg (by decide)])
 have HC : Hid (textS s q.qp (zs.map (·.2)) = (btS (headL s q.qp ++ [10] ++ linesZ zs zn), 0)) := Lib.hid (by unfold textS; rw [HKP.out, if_neg (by decide), linesZ_all zs HZN.out])
 rw [HC2.out]
 dsimp only
 obtain ⟨HL, hHL⟩ : ∃ x, headL s q.qp = x := ⟨_, rfl⟩
 rw [hHL] at HHL HC ⊢
 have hhs : (btS HL).size ≤ 902 := by rw [btS_size]; exact HHL.out
 have hz1 : N ≤ w1.heap.size := HSZ.out _ HB1.out
 clear hHL
 go_upto_region 5 with fail
 have hw2 : Below N w0 (w1.alloc (.cells #[.pointer none, .slice none 0 0] 69)) := HB1.out.alloc hz1 _
 have hk2 := Blk.new w1 69 #[.pointer none, .slice none 0 0]
 generalize (w1.alloc (.cells #[.pointer none, .slice none 0 0] 69)) = w2 at *
 obtain ⟨T, hT⟩ : ∃ T, w1.heap.size = T := ⟨_, rfl⟩
 rw [hT] at hk2 hz1 ⊢
 have HB2 := Lib.hid hw2
 have hz2 : N ≤ w2.heap.size := HSZ.out _ hw2
 have HBL : Hid (Lib.IsBuilder 69 5 N T [] w2) := Lib.hid (.inl ⟨hz1, .slice none 0 0, hk2, World.ownsRow_nil _ _ _ _, by simp [Value.ownBlock]⟩)
 have HTN := Lib.hid hz1
 clear hw2 hk2 hT hz1
 go_wp2_with fail
 refine (bws_any N T [] _ w2 HBL.out (by rw [ByteArray.size_append]; show 0 + ((btS HL).size + 1) ≤ _; omega) hz2).mono ?_
 rintro e w3 ⟨rfl, hbl3, hb3⟩
 have HB3 := Lib.hid (HB2.out.trans hb3)
 have HBL3 : Hid (Lib.IsBuilder 69 5 N T (Lib.byteCells (HL ++ [10] ++ linesZ zs 0)) w3) := Lib.hid (.inr (by
  rw [linesZ_zero, List.append_nil, ← btS_list (HL ++ [10]), ← Lib.strCells_eq, ← btS_app]
  exact hbl3))
 clear hbl3 hb3 HBL
 go_wp2_with fail
 go_loopg [27] zn (fun g iu wr => ∃ (j : Nat), iu = .int .i64 j ∧ j + g = zn ∧ Lib.IsBuilder 69 5 N T (Lib.byteCells (HL ++ [10] ++ linesZ zs j)) wr ∧ Below N w0 wr)
 case atStart => exact ⟨0, rfl, by omega, HBL3.out, HB3.out⟩
 case round =>
 obtain ⟨j, rfl, hqq, hbl, hb⟩ := hrel
 have HQQ := Lib.hid hqq
 have HBL := Lib.hid hbl
 have HB := Lib.hid hb
 have hsz : N ≤ wr.heap.size := HSZ.out _ hb
 clear hqq hbl hb HBL3
 by_cases hlt : j < zn
 case pos =>
  have HRW := Lib.hid (HRZ.out.below HB.out (Nat.le_of_eq HN.out))
  obtain ⟨b, off, e, hbl, hc⟩ := HRW.out.1.at (by omega)
  subst e
  have c0 := hc (j * 2) (by omega)
  have c1 := hc (j * 2 + 1) (by omega)
  have hjl : j < zs.length := by rw [HZN.out]; exact hlt
  obtain ⟨g0, g1⟩ := rowCells_get (zs := zs) (i := j) hjl
  rw [g0] at c0
  rw [g1, ← Nat.add_assoc] at c1
  have HST := Lib.hid (linesZ_step hjl)
  have HRA := Lib.hid (HRW.out.2.2 _ (zAt_mem hjl))
  have HRF := Lib.hid (HFW.out.2 _ (zAt_mem hjl))
  have HLE := Lib.hid (HLL.out j (by omega))
  obtain ⟨⟨⟨ca, cn2, cc2, va, vn, vc⟩, ⟨cs, vs⟩⟩, hzz⟩ : ∃ z, zAt zs j = z := ⟨_, rfl⟩
  rw [hzz] at c0 c1 HST HRA HRF
  simp only at c0 c1 HST HRF
  dsimp only at HRA
  have HLN := Lib.hid (lineL_le (cs := cs) (vs := vs) (by rw [HRA.out.1.1]; exact HRF.out.1) (by rw [HRA.out.2.2.1]; exact HRF.out.2) HRA.out.2.2.2.1 HRA.out.2.2.2.2)
  clear hc g0 g1 hzz hjl hbl
  go_upto_region 9 with fail
  have hw2 : Below N w0 (wr.alloc (.cells #[.slice ca cn2 cc2, .slice va vn vc] 49)) := HB.out.alloc hsz _
  have hw3 : Below wr.heap.size wr (wr.alloc (.cells #[.slice ca cn2 cc2, .slice va vn vc] 49)) := (Below.refl _ _).alloc (Nat.le_refl _) _
  have hk2 := Blk.new wr 49 #[.slice ca cn2 cc2, .slice va vn vc]
  clear c0 c1
  generalize (wr.alloc (.cells #[.slice ca cn2 cc2, .slice va vn vc] 49)) = w4 at *
  have HB4 := Lib.hid hw2
  have hz4 : N ≤ w4.heap.size := HSZ.out _ hw2
  have HBL4 := Lib.hid (builder_below HBL.out hw3 (Nat.le_refl _))
  have HPL := Lib.hid (pline_any w4 ⟨ca, cn2, cc2, va, vn, vc⟩ (cs, vs) (HRA.out.below hw3 (Nat.le_refl _)) HRF.out.1 HRF.out.2 (HT.out _ hw2))
  unfold RowL.val at HPL
  dsimp only at HPL
  have hsz0 := hsz
  generalize wr.heap.size = T2 at hk2 hsz0 ⊢
  have f0 : w4.cell? ⟨T2, 0, none⟩ = some (.slice ca cn2 cc2) := hk2.cell 0
  have f1 : w4.cell? ⟨T2, 1, none⟩ = some (.slice va vn vc) := hk2.cell 1
  clear hw2 hw3 hk2 hsz0 HBL
  go_wp2_with fail
  refine HPL.out.mono ?_
  rintro e w5 ⟨rfl, hb5⟩
  have HB5 := Lib.hid (HB4.out.trans (hb5.mono hz4))
  have hz5 : N ≤ w5.heap.size := HSZ.out _ HB5.out
  have HBL5 := Lib.hid (builder_below HBL4.out hb5 (Nat.le_refl _))
  have hxs : (btS (lineL cs vs)).size ≤ 600200 := by rw [btS_size]; exact HLN.out
  obtain ⟨X, hX⟩ : ∃ X, btS (lineL cs vs) = X := ⟨_, rfl⟩
  have HXX := Lib.hid hX
  rw [hX] at hxs ⊢
  clear hb5 f0 f1 hX HPL HBL4
  go_wp2_with fail
  refine (bws_any N T _ _ w5 HBL5.out (by
   have h1 := HLE.out
   have h2 := HHL.out
   rw [ByteArray.size_append, Lib.byteCells_length, List.length_append, List.length_append]
   show HL.length + 1 + (linesZ zs j).length + (X.size + 1) ≤ _
   have h3 : 600201 * j ≤ 600201 * 100 := Nat.mul_le_mul_left _ (by omega)
   omega) hz5).mono ?_
  rintro e w6 ⟨rfl, hbl6, hb6⟩
  have HB6 := Lib.hid (HB5.out.trans hb6)
  have HBL6 : Hid (Lib.IsBuilder 69 5 N T (Lib.byteCells (HL ++ [10] ++ linesZ zs (j + 1))) w6) := Lib.hid (.inr (by
   have e : HL ++ [10] ++ linesZ zs (j + 1) = (HL ++ [10] ++ linesZ zs j) ++ (lineL cs vs ++ [10]) := by rw [HST.out, List.append_assoc, List.append_assoc, List.append_assoc]
   rw [e, Lib.byteCells_append, ← btS_list (lineL cs vs ++ [10]), ← Lib.strCells_eq, ← btS_app, HXX.out]
   exact hbl6))
  clear hbl6 hb6 HBL5
  go_wp2_with fail
  go_roundg (zn - j - 1)
  case measure => have := HQQ.out; omega
  case rel => exact ⟨j + 1, by go_num, by have := HQQ.out; omega, HBL6.out, HB6.out⟩
 case neg =>
 obtain rfl : zn = j := by have := HQQ.out; omega
 have HSR := Lib.hid (Tryd.Builder_String_any N T (HL ++ [10] ++ linesZ zs zn) wr HBL.out hsz)
 go_wp2_with fail
 refine HSR.out.mono ?_
 rintro e w4 ⟨rfl, hb4⟩
 have HB4 := Lib.hid (HB.out.trans hb4)
 clear hb4
 go_wp2_with fail
 exact bodyPost_ret (v := .tuple #[.string (btS (HL ++ [10] ++ linesZ zs zn)), .int .i64 0]) (by simp [results, Tryd.results10, go_sem, btS]) rfl (RShow.mk HC.out HSS.out HBW.out HN1.out.1 HB4.out)
end Go.Proofs.YtkojcamlllenkaaDoor
