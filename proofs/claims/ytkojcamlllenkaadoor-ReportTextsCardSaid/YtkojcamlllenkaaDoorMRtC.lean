/- The contract of package bushelref44's Head: printed by gen_rtg.py. Conditions: those stated. -/
import Derived.Test.YtkojcamlllenkaaDoorMRtA
import Derived.Test.YtkojcamlllenkaaDoorMRtB
import Derived.Test.YtkojcamlllenkaaDoorShwQ
import Derived.Test.YtkojcamlllenkaaDoorMRs1
import Derived.Deep.DeepCutAuto
namespace Go.Proofs.YtkojcamlllenkaaDoor
open Go.RowKit

theorem blanks_h {s : Sch} {q : Qry} (h : ShwOk s q) (j : Nat) : (blanks (colsH s q j)).length ≤ 902 := by
 refine blanks_le (K := 40) (N := 22) (fun x hx => ?_) ?_
 ·unfold colsH at hx
  rcases List.mem_append.1 hx with hx | hx
  ·obtain ⟨d, -, rfl⟩ := List.mem_map.1 hx
   exact Nat.le_trans (gL_le h.hs d) (by decide)
  ·obtain ⟨c, -, rfl⟩ := List.mem_map.1 hx
   exact colL_le h.hs c
 ·unfold colsH
  rw [List.length_append, List.length_map, List.length_map, List.length_take]
  have h1 := gList_len q.group.toNat s.dims.length
  have h3 := h.nd
  have h4 := h.nc.2
  omega
theorem headP_ne {s : Sch} {q : Qry} (h : ShwOk s q) : headP s q.qp ≠ [] := by
 intro e
 have h1 := congrArg List.length e
 unfold headP at h1
 rw [List.length_append, List.length_map, List.length_map] at h1
 have h2 := h.nc.1
 have h3 : q.qp.cols.length = q.cols.length := rfl
 simp only [List.length_nil] at h1
 omega

set_option maxRecDepth 100000 in
set_option maxHeartbeats 8000000 in
theorem rhead_any (w : World) (l : SchL) (s : Sch) (m : QryL) (q : Qry) (h : SchAt w l s) (hq : QryAt w m q) :
  Calls Tryd.prog 9 #[l.val, m.val q] w (RShow w (headS s q.qp)) := by
 obtain ⟨ad, nd, cd, ai, ni, ci, an, nn, cn, av, nv, cv⟩ := l
 obtain ⟨af, nf, cf, ac, nc, cc, ao, no, co⟩ := m
 have HLN := Lib.hid (And.intro (show s.dims.length = nd from h.2.1) (show q.cols.length = nc from hq.2.2.1))
 have HLM2 := Lib.hid (And.intro (show s.ints.length = ni from h.2.2.1.1) (show s.nums.length = nn from h.2.2.2.1.1))
 obtain ⟨gr, hgr⟩ : ∃ g, q.group = g := ⟨_, rfl⟩
 obtain ⟨lm, hlm⟩ : ∃ g, q.limit = g := ⟨_, rfl⟩
 obtain ⟨gr0, gr1⟩ : 0 ≤ gr ∧ gr ≤ 4294967295 := hgr ▸ hq.2.2.2.2.2.1
 unfold SchL.val QryL.val
 simp only
 rw [hgr, hlm]
 obtain ⟨hbx, hby, hbw, hsz⟩ := two_pbox w 26 32 #[.slice ad nd cd, .slice ai ni ci, .slice an nn cn, .slice av nv cv] #[.int .u32 gr, .slice af nf cf, .slice ac nc cc, .slice ao no co, .int .i64 lm]
 have HS := Lib.hid (h.below hbw (Nat.le_refl _))
 have HQ := Lib.hid (hq.below hbw (Nat.le_refl _))
 have HBW := Lib.hid hbw
 have HGR := Lib.hid (And.intro hgr hlm)
 obtain ⟨N, hN⟩ : ∃ N, ((w.alloc (.cells #[.slice ad nd cd, .slice ai ni ci, .slice an nn cn, .slice av nv cv] 26)).alloc (.cells #[.int .u32 gr, .slice af nf cf, .slice ac nc cc, .slice ao no co, .int .i64 lm] 32)).heap.size = N := ⟨_, rfl⟩
 have HN1 : Hid (w.heap.size < N ∧ w.heap.size + 1 < N) := Lib.hid (by rw [← hN, hsz]; omega)
 have HKS : Hid (Blk ((w.alloc (.cells #[.slice ad nd cd, .slice ai ni ci, .slice an nn cn, .slice av nv cv] 26)).alloc (.cells #[.int .u32 gr, .slice af nf cf, .slice ac nc cc, .slice ao no co, .int .i64 lm] 32)) w.heap.size 26 #[.slice ad nd cd, .slice ai ni ci, .slice an nn cn, .slice av nv cv]) := Lib.hid ((Blk.new w _ _).alloc _)
 have e0 := hbx 0
 have e1 := hbx 1
 have e2 := hbx 2
 have e3 := hbx 3
 have y0 := hby 0
 have y1 := hby 1
 have y2 := hby 2
 have y3 := hby 3
 have y4 := hby 4
 simp only [List.getElem?_toArray, List.getElem?_cons_zero, List.getElem?_cons_succ] at e0 e1 e2 e3 y0 y1 y2 y3 y4
 have HE := Lib.hid (And.intro e0 (And.intro e1 (And.intro e2 e3)))
 have HY := Lib.hid (And.intro y0 (And.intro y1 (And.intro y2 (And.intro y3 y4))))
 obtain ⟨K, hK⟩ : ∃ K, qchk s q = K := ⟨_, rfl⟩
 have HK := Lib.hid hK
 have HKP : Hid (qchk s q.qp.qry = K) := Lib.hid (by rw [qp_chk, hK])
 clear h hq hbw hbx hby hsz hK hgr hlm
 go_enter Tryd.func9, Tryd.ntmps9
 go_upto_region 1 with fail
 generalize ((w.alloc (.cells #[.slice ad nd cd, .slice ai ni ci, .slice an nn cn, .slice av nv cv] 26)).alloc (.cells #[.int .u32 gr, .slice af nf cf, .slice ac nc cc, .slice ao no co, .int .i64 lm] 32)) = w0 at *
 generalize hS : w.heap.size = S at *
 have HSS := Lib.hid hS
 have HN := Lib.hid hN
 clear hS hN
 have HCK := Lib.hid (rqchk_any w0 ⟨ad, nd, cd, ai, ni, ci, an, nn, cn, av, nv, cv⟩ s ⟨af, nf, cf, ac, nc, cc, ao, no, co⟩ q HS.out HQ.out)
 unfold SchL.val QryL.val RErr at HCK
 dsimp only at HCK
 rw [HGR.out.1, HGR.out.2, HK.out, HN.out] at HCK
 go_wp2_with fail
 refine HCK.out.mono ?_
 rintro e w1 ⟨rfl, hb1⟩
 have HB1 := Lib.hid hb1
 clear hb1 e0 e1 e2 e3 y0 y1 y2 y3 y4 HCK
 by_cases hk0 : K = 0
 case neg =>
  have t1 : ((K : Int) != 0) = true := by simp; omega
  have HC : Hid (headS s q.qp = (⟨#[]⟩, (K : Int))) := Lib.hid (by unfold headS; rw [HKP.out, if_pos hk0])
  clear hk0
  go_wp2_with fail
  exact bodyPost_ret (v := .tuple #[.string ⟨#[]⟩, .int .i64 (K : Int)]) (by simp [results, Tryd.results9, go_sem]) rfl (RShow.mk HC.out HSS.out HBW.out HN1.out.1 HB1.out)
 case pos =>
 subst hk0
 have HC : Hid (headS s q.qp = (btS (Lib.join (headP s q.qp) [32]), 0)) := Lib.hid (by unfold headS headL; rw [HKP.out, if_neg (by decide)])
 have OK := Lib.hid (shw_ok HK.out)
 have hc16 : nc ≤ 16 := by rw [← HLN.out.2]; exact OK.out.nc.2
 have hd6 : nd ≤ 6 := by rw [← HLN.out.1]; exact OK.out.nd
 have hi3 : ni ≤ 3 := by rw [← HLM2.out.1]; exact (chk_dims OK.out.hs).2.2.1
 have hn2 : nn ≤ 2 := by rw [← HLM2.out.2]; exact (chk_dims OK.out.hs).2.2.2
 have HSO : Hid (∀ v, Below N w0 v → SchAt v ⟨ad, nd, cd, ai, ni, ci, an, nn, cn, av, nv, cv⟩ s) := Lib.hid (fun v hv => HS.out.below hv (Nat.le_of_eq HN.out))
 have HQO : Hid (∀ v, Below N w0 v → QryAt v ⟨af, nf, cf, ac, nc, cc, ao, no, co⟩ q) := Lib.hid (fun v hv => HQ.out.below hv (Nat.le_of_eq HN.out))
 have HSZ : Hid (∀ v, Below N w0 v → N ≤ v.heap.size) := Lib.hid (fun v hv => by have := hv.size; rw [HN.out] at this; exact this)
 go_wp2_with fail
 go_loopg [7, 8] nd (fun g v iu wr => ∃ (j : Nat), iu = .int .i64 j ∧ j + g = nd ∧ v = .string (btS (blanks ((gList gr.toNat j).map (gL (dimN s))))) ∧ Below N w0 wr)
 case atStart => exact ⟨0, rfl, by omega, rfl, HB1.out⟩
 case round =>
 obtain ⟨j, rfl, hqq, rfl, hb⟩ := hrel
 have HQQ := Lib.hid hqq
 have HB := Lib.hid hb
 have hsz : N ≤ wr.heap.size := HSZ.out _ hb
 clear hqq hb
 have HGS := Lib.hid (gList_succ gr.toNat j)
 have hbl : (btS (blanks ((gList gr.toNat j).map (gL (dimN s))))).size ≤ 102 := by
  rw [btS_size]
  exact blanks_le (K := 16) (N := 6) (fun y hy => by
   obtain ⟨d, hd, rfl⟩ := List.mem_map.1 hy
   exact gL_le OK.out.hs d) (by rw [List.length_map]; have := gList_len gr.toNat j; have := HQQ.out; omega)
 have e0 : wr.cell? ⟨S, 0, none⟩ = some (.slice ad nd cd) := by rw [HB.out.cell (p := ⟨S, 0, none⟩) HN1.out.1]; exact HE.out.1
 by_cases hlt : j < nd
 case pos =>
  obtain ⟨b, off, e, hbl2, hc⟩ := (HSO.out _ HB.out).1.at (by show 0 < nd; omega)
  simp only at e
  subst e
  have c0 := hc (j * 2) (by show j * 2 < nd * 2; omega)
  obtain ⟨g0, -⟩ := dimCells_get (ds := s.dims) (i := j) (by rw [HLN.out.1]; exact hlt)
  rw [g0] at c0
  have HNM : Hid (gL (dimN s) j = (dimAt s.dims j).1.data.toList) := Lib.hid (by
   unfold gL dimN dimAt
   rw [List.getD_eq_getElem?_getD, List.getElem?_map, List.getD_eq_getElem?_getD, List.getElem?_eq_getElem (by rw [HLN.out.1]; exact hlt)]
   rfl)
  obtain ⟨nm, hnm⟩ : ∃ x, (dimAt s.dims j).1 = x := ⟨_, rfl⟩
  rw [hnm] at c0 HNM
  have hnms : nm.size ≤ 16 := by
   have h := gL_le OK.out.hs j
   rw [HNM.out, bl_size] at h
   exact h
  clear hc g0 hnm
  have y0 : wr.cell? ⟨S + 1, 0, none⟩ = some (.int .u32 gr) := by rw [HB.out.cell (p := ⟨S + 1, 0, none⟩) HN1.out.2]; exact HY.out.1
  have hj31 : j ≤ 31 := by omega
  have HIN := Lib.hid (rin_any gr j wr hj31 gr0 gr1)
  have HIB : Hid (inM gr j = decide (gr.toNat / 2 ^ j % 2 = 1)) := Lib.hid (by
   unfold inM
   obtain ⟨k, hk⟩ : ∃ k : Nat, gr = (k : Int) := ⟨gr.toNat, by omega⟩
   have e1 : (k : Int) / 2 ^ j = ((k / 2 ^ j : Nat) : Int) := by rw [Int.natCast_ediv]; norm_cast
   rw [hk, e1, Int.toNat_natCast, Bool.eq_iff_iff, decide_eq_true_eq, decide_eq_true_eq]
   omega)
  go_wp2_with fail
  refine HIN.out.mono ?_
  rintro e w4 ⟨rfl, rfl⟩
  rw [HIB.out]
  by_cases hbit : gr.toNat / 2 ^ j % 2 = 1
  case pos =>
   rw [decide_eq_true hbit]
   have HST : Hid (btS (blanks ((gList gr.toNat j).map (gL (dimN s)))) ++ nm ++ ⟨#[32]⟩ = btS (blanks ((gList gr.toNat (j + 1)).map (gL (dimN s))))) := Lib.hid (by
    rw [HGS.out, if_pos hbit, List.map_append, List.map_cons, List.map_nil, blanks_snoc, HNM.out]
    have h := bt_step (blanks ((gList gr.toNat j).map (gL (dimN s)))) nm.data.toList
    rw [btS_of] at h
    exact h)
   obtain ⟨A, hA⟩ : ∃ A, btS (blanks ((gList gr.toNat j).map (gL (dimN s)))) = A := ⟨_, rfl⟩
   rw [hA] at hbl HST ⊢
   clear hbit hA
   go_wp2_with fail
   rw [HST.out]
   go_roundg (nd - j - 1)
   case measure => have := HQQ.out; omega
   case rel => exact ⟨j + 1, by go_num, by have := HQQ.out; omega, rfl, HB.out⟩
  case neg =>
   rw [decide_eq_false hbit]
   have HST : Hid (btS (blanks ((gList gr.toNat j).map (gL (dimN s)))) = btS (blanks ((gList gr.toNat (j + 1)).map (gL (dimN s))))) := Lib.hid (by
    rw [HGS.out, if_neg hbit, List.append_nil])
   clear hbit c0
   go_wp2_with fail
   go_roundg (nd - j - 1)
   case measure => have := HQQ.out; omega
   case rel => exact ⟨j + 1, by go_num, by have := HQQ.out; omega, by rw [HST.out], HB.out⟩
 case neg =>
 obtain rfl : nd = j := by have := HQQ.out; omega
 have HHC : Hid ((gList gr.toNat nd).map (gL (dimN s)) = colsH s q 0) := Lib.hid (by
  unfold colsH
  rw [List.take_zero, List.map_nil, List.append_nil, HLN.out.1, HGR.out.1])
 rw [HHC.out]
 have HB2 := HB
 obtain ⟨w2, rfl⟩ : ∃ x, x = wr := ⟨_, rfl⟩
 clear HB HQQ hsz hlt HGS hbl
 go_wp2_with fail
 clear e0
 go_loopg [7, 9] nc (fun g v iu wr => ∃ (j : Nat), iu = .int .i64 j ∧ j + g = nc ∧ v = .string (btS (blanks (colsH s q j))) ∧ Below N w0 wr)
 case atStart => exact ⟨0, rfl, by omega, rfl, HB2.out⟩
 case round =>
 obtain ⟨j, rfl, hqq, rfl, hb⟩ := hrel
 have HQQ := Lib.hid hqq
 have HB := Lib.hid hb
 have hsz : N ≤ wr.heap.size := HSZ.out _ hb
 clear hqq hb
 have hbl : (btS (blanks (colsH s q j))).size ≤ 902 := by rw [btS_size]; exact blanks_h OK.out j
 have y2 : wr.cell? ⟨S + 1, 2, none⟩ = some (.slice ac nc cc) := by rw [HB.out.cell (p := ⟨S + 1, 2, none⟩) HN1.out.2]; exact HY.out.2.2.1
 by_cases hlt : j < nc
 case pos =>
  obtain ⟨b, off, e, hbl2, hc⟩ := (HQO.out _ HB.out).2.1.at (by show 0 < nc; omega)
  simp only at e
  subst e
  have c0 := hc (j * 2) (by show j * 2 < nc * 2; omega)
  have c1 := hc (j * 2 + 1) (by show j * 2 + 1 < nc * 2; omega)
  have hjl : j < q.cols.length := by rw [HLN.out.2]; exact hlt
  obtain ⟨g0, g1⟩ := colCells_get (ds := q.cols) (i := j) hjl
  rw [g0] at c0
  rw [g1, ← Nat.add_assoc] at c1
  have HTK := Lib.hid (colsH_step s q hjl)
  have HCO := Lib.hid (OK.out.col j hjl)
  obtain ⟨⟨ck, cm⟩, hcl⟩ : ∃ f, colAt q.cols j = f := ⟨_, rfl⟩
  rw [hcl] at c0 c1 HCO HTK
  simp only at c0 c1 HCO
  have HST : Hid (btS (blanks (colsH s q j)) ++ btS (colL (measN s) (ck, cm)) ++ ⟨#[32]⟩ = btS (blanks (colsH s q (j + 1)))) := Lib.hid (by
   rw [HTK.out, blanks_snoc]
   exact bt_step _ _)
  have hxs : (btS (colL (measN s) (ck, cm))).size ≤ 40 := by rw [btS_size]; exact colL_le OK.out.hs _
  obtain ⟨A, hA⟩ : ∃ A, btS (blanks (colsH s q j)) = A := ⟨_, rfl⟩
  rw [hA] at hbl HST ⊢
  obtain ⟨X, hX⟩ : ∃ X, colL (measN s) (ck, cm) = X := ⟨_, rfl⟩
  have HXX := Lib.hid hX
  rw [hX] at HST hxs
  clear hc g0 g1 hcl hjl hA hX HTK
  go_upto_region 14 with fail
  have hw2 : Below N w0 (wr.alloc (.cells #[.int .i64 ck, .int .i64 cm] 61)) := HB.out.alloc hsz _
  have hk2 := Blk.new wr 61 #[.int .i64 ck, .int .i64 cm]
  clear c0 c1 y2
  generalize (wr.alloc (.cells #[.int .i64 ck, .int .i64 cm] 61)) = w2 at *
  have hsz0 := hsz
  generalize wr.heap.size = T at hk2 hsz0 ⊢
  have HB2 := Lib.hid hw2
  have HK2 := Lib.hid hk2
  have hz2 : N ≤ w2.heap.size := HSZ.out _ hw2
  have f0 : w2.cell? ⟨T, 0, none⟩ = some (.int .i64 ck) := HK2.out.cell 0
  have HKR : Hid (0 ≤ ck ∧ ck ≤ 6) := Lib.hid (by rcases colB_yes HCO.out with h | h <;> omega)
  clear hw2 hk2 hsz0
  go_cut [11] (fun v wx => ∃ F : ByteArray, v = .string F ∧ F.data.toList = aggW.getD ck.toNat [] ∧ F.size ≤ 5 ∧ Blk wx T 61 #[.int .i64 ck, .int .i64 cm] ∧ Below N w0 wx)
  case first =>
   have hcase : ck = 0 ∨ ck = 1 ∨ ck = 2 ∨ ck = 3 ∨ ck = 4 ∨ ck = 5 ∨ ck = 6 := by have := HKR.out; omega
   have HBA : Hid (∀ c, Below N w0 (w2.alloc c)) := Lib.hid (fun c => HB2.out.alloc hz2 c)
   have HKA : Hid (∀ c, Blk (w2.alloc c) T 61 #[.int .i64 ck, .int .i64 cm]) := Lib.hid (fun c => HK2.out.alloc c)
   clear HST HXX HKR HCO HK2 hxs
   have HTL : T < w2.heap.size := World.block_lt_of_cell? w2 _ f0
   rcases hcase with rfl | rfl | rfl | rfl | rfl | rfl | rfl
   all_goals
    go_wp2_with fail
    go_meet
    exact ⟨_, rfl, rfl, by decide, HKA.out _, HBA.out _⟩
  case rest =>
  obtain ⟨F, rfl, hF, hFs, hk3, hb3⟩ := hcut
  have HF := Lib.hid hF
  have HK3 := Lib.hid hk3
  have HB3 := Lib.hid hb3
  clear hF hk3 hb3 f0 HK2 HB2 hz2
  obtain ⟨w3, rfl⟩ : ∃ x, x = wc := ⟨_, rfl⟩
  have f0 : w3.cell? ⟨T, 0, none⟩ = some (.int .i64 ck) := HK3.out.cell 0
  by_cases hk0 : ck = 0
  case pos =>
   have HXF : Hid (F = btS X) := Lib.hid (bt_eq (by rw [HF.out, ← HXX.out, hk0]; rfl))
   subst hk0
   go_upto_region 17 with fail
   rw [HXF.out]
   obtain ⟨Y, hY⟩ : ∃ Y, btS X = Y := ⟨_, rfl⟩
   rw [hY] at hxs HST ⊢
   clear hY

   go_wp2_with fail
   rw [HST.out]
   go_roundg (nc - j - 1)
   case measure => have := HQQ.out; omega
   case rel => exact ⟨j + 1, by go_num, by have := HQQ.out; omega, rfl, HB3.out⟩

  case neg =>
  have hkp : 0 < ck := by have := HKR.out; omega
  have t1 : decide (0 < ck) = true := decide_eq_true hkp
  obtain ⟨jm, hjm⟩ : ∃ jm : Nat, cm = (jm : Int) := ⟨cm.toNat, by rcases colB_yes HCO.out with h | h <;> omega⟩
  have hjl : jm < ni + nn := by
   have h1 := HLM2.out
   rcases colB_yes HCO.out with h | h
   ·exact absurd h.1 hk0
   ·omega
  have HLM3 : Hid ((measN s).length = ni + nn) := Lib.hid (by unfold measN; rw [List.length_append, HLM2.out.1, HLM2.out.2])
  obtain ⟨nm, hnm⟩ : ∃ nm, (measN s).getD jm ByteArray.empty = nm := ⟨_, rfl⟩
  have hnms : nm.size ≤ 16 := by rw [← hnm]; exact meas_le OK.out.hs jm
  have HCS : Hid (F ++ ⟨#[40]⟩ ++ nm ++ ⟨#[41]⟩ = btS X) := Lib.hid (by rw [col_str hk0 HF.out (m := cm) (by rw [hjm, Int.toNat_natCast]; exact hnm), HXX.out])
  have HNM := Lib.hid hnm
  have HKS3 := Lib.hid (HKS.out.below HB3.out HN1.out.1)
  subst hjm
  clear hk0 hnm
  go_upto_region 16 with fail
  clear f0
  refine wp_regionN (fun w' => Blk w' S 26 #[.slice ad nd cd, .slice ai ni ci, .slice an nn cn, .slice av nv cv] ∧ Blk w' T 61 #[.int .i64 ck, .int .i64 jm]) [] (by kernel_rfl) (by exact ⟨HKS3.out.drew, HK3.out.drew⟩) (fun hHeld => ?_)
  refine wpAnyN_t 0 ⟨some 58, _, _, _, _, _⟩ ?_ rfl ?_ ?_
  rotate_left 1
  ·(intro w hSw; have e1 : w.cell? ⟨S, 1, none⟩ = some (.slice ai ni ci) := hSw.1.cell 1; have e2 : w.cell? ⟨S, 2, none⟩ = some (.slice an nn cn) := hSw.1.cell 2; have f1 : w.cell? ⟨T, 1, none⟩ = some (.int .i64 jm) := hSw.2.cell 1; clear hSw; go_simp; first | with_reducible rfl | rw [if_neg (by omega)] | skip)
  try simp only [Act.put, putA, putB, putC]
  refine wpAnyN_t 1 ⟨some 59, _, _, _, _, _⟩ ?_ rfl ?_ ?_
  rotate_left 1
  ·(intro w hSw; have e1 : w.cell? ⟨S, 1, none⟩ = some (.slice ai ni ci) := hSw.1.cell 1; have e2 : w.cell? ⟨S, 2, none⟩ = some (.slice an nn cn) := hSw.1.cell 2; have f1 : w.cell? ⟨T, 1, none⟩ = some (.int .i64 jm) := hSw.2.cell 1; clear hSw; go_simp; first | with_reducible rfl | rw [if_neg (by omega)] | skip)
  try simp only [Act.put, putA, putB, putC]
  refine wpAnyN_t 3 ⟨some 61, _, _, _, _, _⟩ ?_ rfl ?_ ?_
  rotate_left 1
  ·(intro w hSw; have e1 : w.cell? ⟨S, 1, none⟩ = some (.slice ai ni ci) := hSw.1.cell 1; have e2 : w.cell? ⟨S, 2, none⟩ = some (.slice an nn cn) := hSw.1.cell 2; have f1 : w.cell? ⟨T, 1, none⟩ = some (.int .i64 jm) := hSw.2.cell 1; clear hSw; go_simp; first | with_reducible rfl | rw [if_neg (by omega)] | skip)
  try simp only [Act.put, putA, putB, putC]
  refine wpAnyN_t 4 ⟨some 62, _, _, _, _, _⟩ ?_ rfl ?_ ?_
  rotate_left 1
  ·(intro w hSw; have e1 : w.cell? ⟨S, 1, none⟩ = some (.slice ai ni ci) := hSw.1.cell 1; have e2 : w.cell? ⟨S, 2, none⟩ = some (.slice an nn cn) := hSw.1.cell 2; have f1 : w.cell? ⟨T, 1, none⟩ = some (.int .i64 jm) := hSw.2.cell 1; clear hSw; go_simp; first | with_reducible rfl | rw [if_neg (by omega)] | skip)
  try simp only [Act.put, putA, putB, putC]
  refine wpAnyN_t 6 ⟨some 64, _, _, _, _, _⟩ ?_ rfl ?_ ?_
  rotate_left 1
  ·(intro w hSw; have e1 : w.cell? ⟨S, 1, none⟩ = some (.slice ai ni ci) := hSw.1.cell 1; have e2 : w.cell? ⟨S, 2, none⟩ = some (.slice an nn cn) := hSw.1.cell 2; have f1 : w.cell? ⟨T, 1, none⟩ = some (.int .i64 jm) := hSw.2.cell 1; clear hSw; go_simp; first | with_reducible rfl | rw [if_neg (by omega)] | skip)
  try simp only [Act.put, putA, putB, putC]
  refine wpAnyN_t 7 ⟨some 65, _, _, _, _, _⟩ ?_ rfl ?_ ?_
  rotate_left 1
  ·(intro w hSw; have e1 : w.cell? ⟨S, 1, none⟩ = some (.slice ai ni ci) := hSw.1.cell 1; have e2 : w.cell? ⟨S, 2, none⟩ = some (.slice an nn cn) := hSw.1.cell 2; have f1 : w.cell? ⟨T, 1, none⟩ = some (.int .i64 jm) := hSw.2.cell 1; clear hSw; go_simp; first | with_reducible rfl | rw [if_neg (by omega)] | skip)
  try simp only [Act.put, putA, putB, putC]
  refine wpAnyN_t 9 ⟨some 67, _, _, _, _, _⟩ ?_ rfl ?_ ?_
  rotate_left 1
  ·(intro w hSw; have e1 : w.cell? ⟨S, 1, none⟩ = some (.slice ai ni ci) := hSw.1.cell 1; have e2 : w.cell? ⟨S, 2, none⟩ = some (.slice an nn cn) := hSw.1.cell 2; have f1 : w.cell? ⟨T, 1, none⟩ = some (.int .i64 jm) := hSw.2.cell 1; clear hSw; go_simp; first | with_reducible rfl | rw [if_neg (by omega)] | skip)
  try simp only [Act.put, putA, putB, putC]
  refine wpAnyN_t 10 ⟨some 68, _, _, _, _, _⟩ ?_ rfl ?_ ?_
  rotate_left 1
  ·(intro w hSw; have e1 : w.cell? ⟨S, 1, none⟩ = some (.slice ai ni ci) := hSw.1.cell 1; have e2 : w.cell? ⟨S, 2, none⟩ = some (.slice an nn cn) := hSw.1.cell 2; have f1 : w.cell? ⟨T, 1, none⟩ = some (.int .i64 jm) := hSw.2.cell 1; clear hSw; go_simp; first | with_reducible rfl | rw [if_neg (by omega)] | skip)
  try simp only [Act.put, putA, putB, putC]
  have HBr : Hid (Below N w0 w3.drew) := Lib.hid HB3.out.drew
  have hzr : N ≤ w3.drew.heap.size := HSZ.out _ HBr.out
  have HR0 := Lib.hid (Below.refl w3.drew.heap.size w3.drew)
  have hLS : S < w3.drew.heap.size := HKS3.out.drew.lt
  have hLT : T < w3.drew.heap.size := HK3.out.drew.lt
  refine wpAnyN_one (i := 2) (o := ⟨some 60, _, _, _, _, _⟩) (by kernel_rfl) rfl (fun K hK => ?_)
  go_simp
  have HO1 := Lib.hid (own_noneS w3.drew 9 _ HR0.out.size)
  have HB_1 := Lib.hid (HR0.out.alloc HR0.out.size (.cells #[] 9))
  refine hK.out _ _ (by exact ⟨HKS3.out.drew.below HB_1.out hLS, HK3.out.drew.below HB_1.out hLT⟩) ?_
  clear hK K hHeld
  intro hHeld
  try simp only [Act.put, putA, putB, putC]
  refine wpAnyN_one (i := 5) (o := ⟨some 63, _, _, _, _, _⟩) (by kernel_rfl) rfl (fun K hK => ?_)
  refine step_append_rowG (z := .string ByteArray.empty) (sz := 1) (bytes := 16) info_string rfl (by decide) Tryd.underlying23 rfl _ _ (by rfl) _ w3.drew.heap.size _ 0 [] ai ni ci (s.ints.map Value.string) (by rfl) (by rfl) HO1.out ((HSO.out _ (HBr.out.trans (HB_1.out.mono hzr))).2.2.1.g) str_cells (by omega) (by unfold maxLen; omega) HB_1.out.size ?_
  intro v2 x2 h2 h3 h4
  rw [Nat.zero_add, List.nil_append] at h2
  have HO2 := Lib.hid h2
  have HB_2 := Lib.hid (h4 _ HB_1.out)
  clear h2 h3 h4
  refine hK.out _ _ (by exact ⟨HKS3.out.drew.below HB_2.out hLS, HK3.out.drew.below HB_2.out hLT⟩) ?_
  clear hK K hHeld
  intro hHeld
  try simp only [Act.put, putA, putB, putC]
  refine wpAnyN_one (i := 8) (o := ⟨some 66, _, _, _, _, _⟩) (by kernel_rfl) rfl (fun K hK => ?_)
  refine step_append_rowG (z := .string ByteArray.empty) (sz := 1) (bytes := 16) info_string rfl (by decide) Tryd.underlying23 rfl _ _ (by rfl) _ w3.drew.heap.size v2 ni (s.ints.map Value.string) an nn cn (s.nums.map Value.string) (by rfl) (by rfl) HO2.out ((HSO.out _ (HBr.out.trans (HB_2.out.mono hzr))).2.2.2.1.g) str_cells (by omega) (by unfold maxLen; omega) HB_2.out.size ?_
  intro v3 x3 h2 h3 h4
  obtain ⟨ra, rc, rfl⟩ := own_form h2
  obtain ⟨rb, ro, rfl, hrl, hrc⟩ := (RowG.of_own h2).at (by omega)
  have g0 := hrc jm (by omega)
  rw [show s.ints.map Value.string ++ s.nums.map Value.string = (measN s).map Value.string from (List.map_append).symm, getD_str (by rw [HLM3.out]; exact hjl), HNM.out] at g0
  have HB_3 := Lib.hid (h4 _ HB_2.out)
  clear h2 h3 h4 hrc
  refine hK.out _ _ (by exact ⟨HKS3.out.drew.below HB_3.out hLS, HK3.out.drew.below HB_3.out hLT⟩) ?_
  clear hK K hHeld
  intro hHeld
  try simp only [Act.put, putA, putB, putC]
  have t8 : (jm : Int) < (ni : Int) + (nn : Int) := by omega
  have t9 : ¬ 9223372036854775807 < F.size + 1 + nm.size := by omega
  have t10 : ¬ 9223372036854775807 < F.size + 1 + nm.size + 1 := by omega
  refine wpAnyN_one (i := 11) (o := ⟨some 69, _, _, _, _, _⟩) (by kernel_rfl) rfl (fun K hK => ?_)
  go_simp
  refine hK.out _ _ (by exact hHeld) ?_
  clear hK K hHeld
  intro hHeld
  try simp only [Act.put, putA, putB, putC]
  refine wpAnyN_one (i := 12) (o := ⟨some 70, _, _, _, _, _⟩) (by kernel_rfl) rfl (fun K hK => ?_)
  go_simp
  refine hK.out _ _ (by exact hHeld) ?_
  clear hK K hHeld
  intro hHeld
  try simp only [Act.put, putA, putB, putC]
  refine wpAnyN_one (i := 13) (o := ⟨some 71, _, _, _, _, _⟩) (by kernel_rfl) rfl (fun K hK => ?_)
  go_simp
  refine hK.out _ _ (by exact hHeld) ?_
  clear hK K hHeld
  intro hHeld
  try simp only [Act.put, putA, putB, putC]
  refine wpAnyN_one (i := 14) (o := ⟨some 72, _, _, _, _, _⟩) (by kernel_rfl) rfl (fun K hK => ?_)
  go_simp
  refine hK.out _ _ (by exact hHeld) ?_
  clear hK K hHeld
  intro hHeld
  try simp only [Act.put, putA, putB, putC]
  refine wpAnyN_one (i := 15) (o := ⟨some 11, _, _, _, _, _⟩) (by kernel_rfl) rfl (fun K hK => ?_)
  go_simp
  refine hK.out _ _ (by exact hHeld) ?_
  clear hK K hHeld
  intro hHeld
  try simp only [Act.put, putA, putB, putC]
  clear hHeld
  refine wpAnyN_end (by kernel_rfl) ?_
  rw [HCS.out]
  have HB4 := Lib.hid (HBr.out.trans (HB_3.out.mono hzr))
  obtain ⟨Y, hY⟩ : ∃ Y, btS X = Y := ⟨_, rfl⟩
  rw [hY] at hxs HST ⊢
  clear hY
  go_wp2_with fail
  rw [HST.out]
  go_roundg (nc - j - 1)
  case measure => have := HQQ.out; omega
  case rel => exact ⟨j + 1, by go_num, by have := HQQ.out; omega, rfl, HB4.out⟩
 case neg =>
 obtain rfl : nc = j := by have := HQQ.out; omega
 have HHP : Hid (colsH s q nc = headP s q.qp) := Lib.hid (by rw [← HLN.out.2]; exact colsH_all s q)
 rw [HHP.out] at hbl ⊢
 have HCT := Lib.hid (blanks_cut (headP s q.qp))
 have hpos : 0 < (btS (blanks (headP s q.qp))).size := by
  rw [btS_size]
  exact List.length_pos_iff.2 (fun e => headP_ne OK.out (blanks_nil.1 e))
 obtain ⟨B, hB⟩ : ∃ B, btS (blanks (headP s q.qp)) = B := ⟨_, rfl⟩
 rw [hB] at hpos hbl HCT ⊢
 obtain ⟨k, hk⟩ : ∃ k, B.size = k + 1 := ⟨B.size - 1, by omega⟩
 rw [hk, Nat.add_sub_cancel] at HCT
 have HK := Lib.hid hk
 clear hB
 go_wp2_with fail
 exact bodyPost_ret (v := .tuple #[.string (B.extract 0 k), .int .i64 0]) (by simp [results, Tryd.results9, go_sem]) rfl (RShow.mk (HC.out.trans (by rw [HCT.out])) HSS.out HBW.out HN1.out.1 HB.out)
end Go.Proofs.YtkojcamlllenkaaDoor
/- The contract of package bushelref44's Text: printed by gen_rth.py. Conditions: those stated. -/
namespace Go.Proofs.YtkojcamlllenkaaDoor
open Go.RowKit

noncomputable def txtZ (HL : List UInt8) (zs : List RowZ) (j : Nat) : List UInt8 := HL ++ [10] ++ linesZ zs j
theorem nl_step (A x : List UInt8) : btS A ++ btS x ++ ⟨#[10]⟩ = btS (A ++ (x ++ [10])) := by
 rw [← btS_app, ← btS_app, ByteArray.append_assoc]
 rfl

set_option maxRecDepth 100000 in
set_option maxHeartbeats 4000000 in
theorem rtext44_any (w : World) (l : SchL) (s : Sch) (m : QryL) (q : Qry) (za : Option Addr) (zn zc : Nat) (zs : List RowZ) (h : SchAt w l s) (hq : QryAt w m q) (hz : RowsAt w za zn zc zs) (hf : RowsFew zs) :
  Calls Tryd.prog 11 #[l.val, m.val q, .slice za zn zc] w (RShow w (textS s q.qp (zs.map (·.2)))) := by
 obtain ⟨K, hK⟩ : ∃ K, qchk s q = K := ⟨_, rfl⟩
 have HKP : Hid (qchk s q.qp.qry = K) := Lib.hid (by rw [qp_chk, hK])
 have HOKK : Hid (K = 0 → ShwOk s q) := Lib.hid (fun h0 => shw_ok (by rw [hK, h0]))
 obtain ⟨ad, nd, cd, ai, ni, ci, an, nn, cn, av, nv, cv⟩ := l
 obtain ⟨af, nf, cf, ac, nc, cc, ao, no, co⟩ := m
 have HZN := Lib.hid hz.2.1
 have hzn : zn ≤ 100 := by rw [← hz.2.1]; exact hf.1
 have HFW := Lib.hid hf
 have HLL := Lib.hid (linesZ_le hz hf)
 obtain ⟨gr, hgr⟩ : ∃ g, q.group = g := ⟨_, rfl⟩
 obtain ⟨lm, hlm⟩ : ∃ g, q.limit = g := ⟨_, rfl⟩
 unfold SchL.val QryL.val
 simp only
 rw [hgr, hlm]
 obtain ⟨hbx, hby, hbw, hsz⟩ := two_pbox w 26 32 #[.slice ad nd cd, .slice ai ni ci, .slice an nn cn, .slice av nv cv] #[.int .u32 gr, .slice af nf cf, .slice ac nc cc, .slice ao no co, .int .i64 lm]
 have HHD := Lib.hid (rhead_any _ ⟨ad, nd, cd, ai, ni, ci, an, nn, cn, av, nv, cv⟩ s ⟨af, nf, cf, ac, nc, cc, ao, no, co⟩ q (h.below hbw (Nat.le_refl _)) (hq.below hbw (Nat.le_refl _)))
 have HRZ := Lib.hid (hz.below hbw (Nat.le_refl _))
 have HBW := Lib.hid hbw
 obtain ⟨N, hN⟩ : ∃ N, ((w.alloc (.cells #[.slice ad nd cd, .slice ai ni ci, .slice an nn cn, .slice av nv cv] 26)).alloc (.cells #[.int .u32 gr, .slice af nf cf, .slice ac nc cc, .slice ao no co, .int .i64 lm] 32)).heap.size = N := ⟨_, rfl⟩
 have HN1 : Hid (w.heap.size < N ∧ w.heap.size + 1 < N) := Lib.hid (by rw [← hN, hsz]; omega)
 have e0 := hbx 0
 have e1 := hbx 1
 have e2 := hbx 2
 have e3 := hbx 3
 have y0 := hby 0
 have y1 := hby 1
 have y2 := hby 2
 have y3 := hby 3
 have y4 := hby 4
 simp only [List.getElem?_toArray, List.getElem?_cons_zero, List.getElem?_cons_succ] at e0 e1 e2 e3 y0 y1 y2 y3 y4
 unfold SchL.val QryL.val RShow at HHD
 dsimp only at HHD
 rw [hgr, hlm] at HHD
 clear h hq hbw hbx hby hsz hK hgr hlm hz hf
 go_enter Tryd.func11, Tryd.ntmps11
 go_upto_region 1 with fail
 generalize ((w.alloc (.cells #[.slice ad nd cd, .slice ai ni ci, .slice an nn cn, .slice av nv cv] 26)).alloc (.cells #[.int .u32 gr, .slice af nf cf, .slice ac nc cc, .slice ao no co, .int .i64 lm] 32)) = w0 at *
 generalize hS : w.heap.size = S at *
 have HSS := Lib.hid hS
 have HN := Lib.hid hN
 rw [hN] at HHD
 clear hS hN
 have HSZ : Hid (∀ v, Below N w0 v → N ≤ v.heap.size) := Lib.hid (fun v hv => by have := hv.size; rw [HN.out] at this; exact this)
 go_wp2_with fail
 refine HHD.out.mono ?_
 rintro e w1 ⟨rfl, hb1⟩
 have HB1 := Lib.hid hb1
 clear hb1 e0 e1 e2 e3 y0 y1 y2 y3 y4 HHD
 by_cases hk0 : K = 0
 case neg =>
  have t1 : ((K : Int) != 0) = true := by simp; omega
  have HC : Hid (textS s q.qp (zs.map (·.2)) = (⟨#[]⟩, (K : Int))) := Lib.hid (by unfold textS; rw [HKP.out, if_pos hk0])
  have HC2 : Hid (headS s q.qp = (⟨#[]⟩, (K : Int))) := Lib.hid (by unfold headS; rw [HKP.out, if_pos hk0])
  rw [HC2.out]
  clear hk0
  dsimp only
  go_wp2_with fail
  exact bodyPost_ret (v := .tuple #[.string ⟨#[]⟩, .int .i64 (K : Int)]) (by simp [results, Tryd.results11, go_sem]) rfl (RShow.mk HC.out HSS.out HBW.out HN1.out.1 HB1.out)
 case pos =>
 subst hk0
 have HHL : Hid ((headL s q.qp).length ≤ 902) := Lib.hid (headL_le (HOKK.out rfl))
 have HC2 : Hid (headS s q.qp = (btS (headL s q.qp), 0)) := Lib.hid (by unfold headS; rw [HKP.out, if_neg (by decide)])
 have HC : Hid (textS s q.qp (zs.map (·.2)) = (btS (txtZ (headL s q.qp) zs zn), 0)) := Lib.hid (by unfold textS; rw [HKP.out, if_neg (by decide)]; unfold txtZ; rw [linesZ_all zs HZN.out])
 rw [HC2.out]
 dsimp only
 obtain ⟨HL, hHL⟩ : ∃ x, headL s q.qp = x := ⟨_, rfl⟩
 rw [hHL] at HHL HC ⊢
 have hhs : (btS HL).size ≤ 902 := by rw [btS_size]; exact HHL.out
 have HST0 : Hid (btS HL ++ ⟨#[10]⟩ = btS (txtZ HL zs 0)) := Lib.hid (by unfold txtZ; rw [linesZ_zero, List.append_nil]; exact btS_app HL [10])
 clear hHL
 go_upto_region 5 with fail
 rw [HST0.out]
 go_wp2_with fail
 clear hhs
 go_loopg [8, 10] zn (fun g v iu wr => ∃ (j : Nat), iu = .int .i64 j ∧ j + g = zn ∧ v = .string (btS (txtZ HL zs j)) ∧ Below N w0 wr)
 case atStart => exact ⟨0, rfl, by omega, rfl, HB1.out⟩
 case round =>
 obtain ⟨j, rfl, hqq, rfl, hb⟩ := hrel
 have HQQ := Lib.hid hqq
 have HB := Lib.hid hb
 have hsz : N ≤ wr.heap.size := HSZ.out _ hb
 clear hqq hb
 by_cases hlt : j < zn
 case pos =>
  have HRW := Lib.hid (HRZ.out.below HB.out (Nat.le_of_eq HN.out))
  obtain ⟨b, off, e, hbl, hc⟩ := HRW.out.1.at (by omega)
  subst e
  have c0 := hc (j * 2) (by omega)
  have c1 := hc (j * 2 + 1) (by omega)
  have hjl : j < zs.length := by rw [HZN.out]; exact hlt
  obtain ⟨g0, g1⟩ := rowCells_get (zs := zs) (i := j) hjl
  rw [g0] at c0
  rw [g1, ← Nat.add_assoc] at c1
  have HST := Lib.hid (linesZ_step hjl)
  have HRA := Lib.hid (HRW.out.2.2 _ (zAt_mem hjl))
  have HRF := Lib.hid (HFW.out.2 _ (zAt_mem hjl))
  have HLE := Lib.hid (HLL.out j (by omega))
  obtain ⟨⟨⟨ca, cn2, cc2, va, vn, vc⟩, ⟨cs, vs⟩⟩, hzz⟩ : ∃ z, zAt zs j = z := ⟨_, rfl⟩
  rw [hzz] at c0 c1 HST HRA HRF
  simp only at c0 c1 HST HRF
  dsimp only at HRA
  have HLN := Lib.hid (lineL_le (cs := cs) (vs := vs) (by rw [HRA.out.1.1]; exact HRF.out.1) (by rw [HRA.out.2.2.1]; exact HRF.out.2) HRA.out.2.2.2.1 HRA.out.2.2.2.2)
  have HPL := Lib.hid (rline_any wr ⟨ca, cn2, cc2, va, vn, vc⟩ (cs, vs) HRA.out HRF.out.1 HRF.out.2)
  unfold RowL.val at HPL
  dsimp only at HPL
  have hxs : (btS (lineL cs vs)).size ≤ 600200 := by rw [btS_size]; exact HLN.out
  have has : (btS (txtZ HL zs j)).size ≤ 60100000 := by
   have h1 := HLE.out
   have h2 := HHL.out
   have h3 : 600201 * j ≤ 600201 * 100 := Nat.mul_le_mul_left _ (by omega)
   unfold txtZ
   rw [btS_size, List.length_append, List.length_append]
   show HL.length + 1 + (linesZ zs j).length ≤ _
   omega
  have HST2 : Hid (btS (txtZ HL zs j) ++ btS (lineL cs vs) ++ ⟨#[10]⟩ = btS (txtZ HL zs (j + 1))) := Lib.hid (by
   unfold txtZ
   rw [nl_step, HST.out]
   simp only [List.append_assoc])
  obtain ⟨X, hX⟩ : ∃ X, btS (lineL cs vs) = X := ⟨_, rfl⟩
  obtain ⟨A, hA⟩ : ∃ A, btS (txtZ HL zs j) = A := ⟨_, rfl⟩
  rw [hX] at hxs HST2 HPL
  rw [hA] at has HST2 ⊢
  clear hc g0 g1 hzz hjl hbl hX hA
  go_wp2_with fail
  refine HPL.out.mono ?_
  rintro e w5 ⟨rfl, hb5⟩
  have HB5 := Lib.hid (HB.out.trans (hb5.mono hsz))
  clear hb5 c0 c1 HPL
  go_wp2_with fail
  rw [HST2.out]
  go_roundg (zn - j - 1)
  case measure => have := HQQ.out; omega
  case rel => exact ⟨j + 1, by go_num, by have := HQQ.out; omega, rfl, HB5.out⟩
 case neg =>
 obtain rfl : zn = j := by have := HQQ.out; omega
 go_wp2_with fail
 exact bodyPost_ret (v := .tuple #[.string (btS (txtZ HL zs zn)), .int .i64 0]) (by simp [results, Tryd.results11, go_sem]) rfl (RShow.mk HC.out HSS.out HBW.out HN1.out.1 HB.out)
end Go.Proofs.YtkojcamlllenkaaDoor
/- Small rows, and the chapter's example of report: bushellaw44.awake. Conditions: those stated; the library's table of powers of ten is as the row lists it. -/
namespace Go.Proofs.YtkojcamlllenkaaDoor
open Go.RowKit Ieee

set_option maxHeartbeats 2000000 in
theorem rzlight_any (w : World) (za : Option Addr) (zn zc : Nat) (zs : List RowZ) (h : RowsAt w za zn zc zs) : Calls Tryd.prog 6 #[.slice za zn zc] w fun e w' => (∃ b, e = .returned (.bool b) ∧ (b = true → RowsFew zs)) ∧ Below w.heap.size w w' := by
 have HFN := Lib.hid h.2.1
 have mx : zn ≤ 9223372036854775807 := by have h1 := h.1.2.1; have h2 := h.1.2.2.1; unfold maxLen at h2; omega
 have HF := Lib.hid h
 obtain ⟨N, hN⟩ : ∃ N, w.heap.size = N := ⟨_, rfl⟩
 have HB0 : Hid (Below N w w) := Lib.hid (by rw [← hN]; exact Below.refl _ _)
 have HN := Lib.hid hN
 rw [hN]
 clear h hN
 go_enter Tryd.func6, Tryd.ntmps6
 by_cases h60 : 60 < zn
 ·have t1 : decide ((60 : Int) < (zn : Int)) = true := decide_eq_true (by omega)
  clear h60
  go_wp2_with fail
  go_ret
  exact ⟨⟨_, rfl, fun h => by cases h⟩, HB0.out⟩
 have t1 : decide ((60 : Int) < (zn : Int)) = false := decide_eq_false (by omega)
 have hf60 : zn ≤ 60 := by omega
 clear h60
 go_wp2_with fail
 clear t1
 go_loopg [3] zn (fun g iu wr => ∃ (j : Nat), iu = .int .i64 j ∧ j + g = zn ∧ (∀ i, i < j → (zAt zs i).1.cn ≤ 20 ∧ (zAt zs i).1.vn ≤ 30) ∧ Below N w wr)
 case atStart => exact ⟨0, rfl, by omega, fun i hi => by omega, HB0.out⟩
 case round =>
 obtain ⟨j, rfl, hqq, hall, hb⟩ := hrel
 have HQQ := Lib.hid hqq
 have HALL := Lib.hid hall
 have HB := Lib.hid hb
 clear hqq hall hb
 by_cases hlt : j < zn
 case pos =>
  obtain ⟨b, off, rfl, hbl, hc⟩ := (HF.out.1.below HB.out (Nat.le_of_eq HN.out)).at (by omega)
  have c0 := hc (j * 2) (by omega)
  have c1 := hc (j * 2 + 1) (by omega)
  have hjl : j < zs.length := by rw [HFN.out]; exact hlt
  obtain ⟨g0, g1⟩ := rowCells_get (zs := zs) (i := j) hjl
  rw [g0] at c0
  rw [g1, ← Nat.add_assoc] at c1
  have HM := Lib.hid (HF.out.2.2 (zAt zs j) (zAt_mem hjl))
  have HAS : Hid (∀ z, zAt zs j = z → z.1.cn ≤ 20 → z.1.vn ≤ 30 → ∀ i, i < j + 1 → (zAt zs i).1.cn ≤ 20 ∧ (zAt zs i).1.vn ≤ 30) := Lib.hid (fun z hz h1 h2 i hi => by
   by_cases hij : i = j
   ·subst hij; rw [hz]; exact ⟨h1, h2⟩
   ·exact HALL.out i (by omega))
  obtain ⟨⟨⟨ca, cn, cc, va, vn, vc⟩, ⟨cs, vs⟩⟩, hzz⟩ : ∃ z, zAt zs j = z := ⟨_, rfl⟩
  have HZZ := Lib.hid hzz
  rw [hzz] at c0 c1 HM
  simp only at c0 c1
  dsimp only at HM
  have mk : cn ≤ 9223372036854775807 := by have h1 := HM.out.1.2.1; have h2 := HM.out.1.2.2.1; simp only at h1 h2; unfold maxLen at h2; omega
  have mv : vn ≤ 9223372036854775807 := by have h1 := HM.out.2.1.2.1; have h2 := HM.out.2.1.2.2.1; simp only at h1 h2; unfold maxLen at h2; omega
  clear hc g0 g1 hzz hjl
  by_cases a1 : 20 < cn
  ·have t1 : decide ((20 : Int) < (cn : Int)) = true := decide_eq_true (by omega)
   clear a1
   go_wp2_with fail
   go_ret
   exact ⟨⟨_, rfl, fun h => by cases h⟩, HB.out⟩
  ·have t1 : decide ((20 : Int) < (cn : Int)) = false := decide_eq_false (by omega)
   have b1 : cn ≤ 20 := by omega
   clear a1
   by_cases a2 : 30 < vn
   ·have t2 : decide ((30 : Int) < (vn : Int)) = true := decide_eq_true (by omega)
    clear a2
    go_wp2_with fail
    go_ret
    exact ⟨⟨_, rfl, fun h => by cases h⟩, HB.out⟩
   ·have t2 : decide ((30 : Int) < (vn : Int)) = false := decide_eq_false (by omega)
    have b2 : vn ≤ 30 := by omega
    have HAN := Lib.hid (HAS.out _ HZZ.out b1 b2)
    clear a2
    go_wp2_with fail
    go_roundg (zn - j - 1)
    case measure => have := HQQ.out; omega
    case rel => exact ⟨j + 1, by go_num, by have := HQQ.out; omega, HAN.out, HB.out⟩
 case neg =>
 obtain rfl : zn = j := by have := HQQ.out; omega
 have HRF : Hid (RowsFew zs) := Lib.hid ⟨by rw [HFN.out]; omega, fun z hz => by
  obtain ⟨i, hi, e⟩ := List.getElem_of_mem hz
  have e2 : zAt zs i = z := by unfold zAt; rw [List.getD_eq_getElem?_getD, List.getElem?_eq_getElem hi, e]; rfl
  have h1 := HALL.out i (by rw [← HFN.out]; exact hi)
  rw [e2] at h1
  omega⟩
 go_wp2_with fail
 go_ret
 exact ⟨⟨_, rfl, fun _ => HRF.out⟩, HB.out⟩

theorem dig_textR {d : Nat} (h : d < 10) : IsText (d : Int) ⟨#[UInt8.ofNat (48 + d)]⟩ := by
 have := dec_text d
 rw [Lib.decDigits, dif_pos h] at this
 exact this
theorem num_posR {d : Nat} (h : d < 10) : IsNum (d : Int) ⟨#[UInt8.ofNat (48 + d)]⟩ :=
 ⟨_, by rw [Int.natAbs_natCast]; exact dig_textR h, by rw [decide_eq_false (by omega)]; exact lb_inj (by rw [lb_app]; rfl)⟩
theorem num_negR {d : Nat} (h : d < 10) (h0 : 0 < d) : IsNum (-(d : Int)) ⟨#[45, UInt8.ofNat (48 + d)]⟩ :=
 ⟨_, by rw [Int.natAbs_neg, Int.natAbs_natCast]; exact dig_textR h, by rw [decide_eq_true (by omega)]; exact lb_inj (by rw [lb_app]; rfl)⟩
theorem real_15R : IsReal 4609434218613702656 ⟨#[51, 112, 45, 49]⟩ := by
 refine ⟨false, 3, -1, .inr ⟨by decide, by decide, 3, 1073, rfl, by decide, ⟨of_decide_eq_true (by kernel_rfl), by decide⟩⟩, .inr (.inr (.inr ⟨by decide, _, _, dig_textR (d := 3) (by decide), num_negR (d := 1) (by decide) (by decide), ?_⟩))⟩
 exact lb_inj (by simp only [lb_app]; rfl)
theorem real_8R : IsReal 13844065254536904704 ⟨#[45, 49, 112, 51]⟩ := by
 refine ⟨true, 1, 3, .inr ⟨by decide, by decide, 1, 1077, rfl, by decide, ⟨of_decide_eq_true (by kernel_rfl), by decide⟩⟩, .inr (.inr (.inr ⟨by decide, _, _, dig_textR (d := 1) (by decide), num_posR (d := 3) (by decide), ?_⟩))⟩
 exact lb_inj (by simp only [lb_app]; rfl)
theorem line_27 : btS (lineL [2] [(false, -7, 0)]) = ⟨#[50, 32, 45, 55]⟩ := by
 have h : lineL [2] [(false, -7, 0)] = Lib.join [Lib.itoa 2, Lib.itoa (-7)] [32] := rfl
 have h2 : btS (Lib.join [Lib.itoa 2, Lib.itoa (-7)] [32]) = ⟨#[50, 32, 45, 55]⟩ := by kernel_rfl
 rw [h, h2]
theorem row_27 {w : World} {g : Nat} (h1 : Blk w g 3 #[.int .i64 2]) (h2 : Blk w (g + 1) 56 #[.bool false, .int .i64 (-7), .float .f64 0]) : RowAt w ⟨some ⟨g, 0, none⟩, 1, 1, some ⟨g + 1, 0, none⟩, 1, 1⟩ ([2], [(false, -7, 0)]) := by
 refine ⟨⟨rfl, Nat.le_refl _, by show 1 ≤ maxLen; unfold maxLen; omega, .inr ⟨g, 0, rfl, h1.lt, fun i hi => ?_⟩⟩, ⟨rfl, Nat.le_refl _, by show 1 ≤ maxLen; unfold maxLen; omega, .inr ⟨g + 1, 0, rfl, h2.lt, fun i hi => ?_⟩⟩, rfl, fun c hc => ?_, fun v hv => ?_⟩
 ·obtain rfl : i = 0 := by simp only at hi; omega
  exact h1.cell 0
 ·have : i = 0 ∨ i = 1 ∨ i = 2 := by simp only at hi; omega
  rw [Nat.zero_add, h2.cell]
  rcases this with rfl | rfl | rfl <;> rfl
 ·rw [List.mem_singleton.1 hc]; decide
 ·rw [List.mem_singleton.1 hv]; exact ⟨by decide, by decide⟩
set_option maxHeartbeats 2000000 in
theorem awakeR_any (w : World) (he : Tab w) : Calls Tryd.prog 7 #[] w fun e w' => e = .returned (.bool true) ∧ Below w.heap.size w w' := by
 have HE := Lib.hid he
 have HR1 := Lib.hid (fun w (h : Tab w) => preal_any 4609434218613702656 w (by decide) (fun w' hb => tab_bel h hb))
 have HR2 := Lib.hid (fun w (h : Tab w) => preal_any 13844065254536904704 w (by decide) (fun w' hb => tab_bel h hb))
 have t1 : ((⟨#[51, 112, 45, 49]⟩ : ByteArray).toList == [51, 112, 45, 49]) = true := by rw [Lib.toList_data]; rfl
 have t2 : ((⟨#[45, 49, 112, 51]⟩ : ByteArray).toList == [45, 49, 112, 51]) = true := by rw [Lib.toList_data]; rfl
 have t3 : ((⟨#[50, 32, 45, 55]⟩ : ByteArray).toList == [50, 32, 45, 55]) = true := by rw [Lib.toList_data]; rfl
 clear he
 go_enter Tryd.func7, Tryd.ntmps7
 go_wp2_with fail
 refine (HR1.out _ HE.out).mono ?_; rintro e w1 ⟨t, rfl, ht, hb1⟩
 obtain rfl := ht.one real_15R
 have HB1 := Lib.hid hb1
 clear ht hb1
 go_wp2_with fail
 refine (HR2.out _ (tab_bel HE.out HB1.out)).mono ?_; rintro e w2 ⟨t, rfl, ht, hb2⟩
 obtain rfl := ht.one real_8R
 have HB2 := Lib.hid (HB1.out.trans (hb2.mono HB1.out.size))
 clear ht hb2
 have hk0 : Blk ((w2.alloc (.cells #[.int .i64 2] 3)).alloc (.cells #[.bool false, .int .i64 (-7), .float .f64 0] 56)) w2.heap.size 3 #[.int .i64 2] := (Blk.new w2 _ _).alloc _
 have hk1 : Blk ((w2.alloc (.cells #[.int .i64 2] 3)).alloc (.cells #[.bool false, .int .i64 (-7), .float .f64 0] 56)) (w2.heap.size + 1) 56 #[.bool false, .int .i64 (-7), .float .f64 0] := by
  have h := Blk.new (w2.alloc (.cells #[.int .i64 2] 3)) 56 #[.bool false, .int .i64 (-7), .float .f64 0]
  rw [World.size_alloc] at h
  exact h
 have HB3 : Hid (Below w.heap.size w ((w2.alloc (.cells #[.int .i64 2] 3)).alloc (.cells #[.bool false, .int .i64 (-7), .float .f64 0] 56))) := Lib.hid ((HB2.out.alloc HB2.out.size _).alloc (by have := HB2.out.size; simp; omega) _)
 have HL := Lib.hid (pline_any _ _ _ (row_27 hk0 hk1) (show (1 : Nat) ≤ 100 by decide) (show (1 : Nat) ≤ 100 by decide) (tab_bel HE.out HB3.out))
 rw [line_27] at HL
 unfold RowL.val at HL
 dsimp only at HL
 clear hk0 hk1
 go_wp2_with fail
 refine (HL.out).mono ?_; rintro e w3 ⟨rfl, hb3⟩
 have HB4 := Lib.hid (HB3.out.trans (hb3.mono HB3.out.size))
 clear hb3
 go_wp2_with fail
 go_ret
 exact ⟨rfl, HB4.out⟩
end Go.Proofs.YtkojcamlllenkaaDoor
/- The walk of the law ReportTexts: printed by gen_rtj.py. Conditions: those stated; the library's table of powers of ten is as the row lists it. -/
namespace Go.Proofs.YtkojcamlllenkaaDoor
open Go.RowKit

set_option maxRecDepth 100000 in
set_option maxHeartbeats 4000000 in
theorem walk_reporttexts (l : SchL) (s : Sch) (m : QryL) (q : Qry) (za : Option Addr) (zn zc : Nat) (zs : List RowZ) (w : World) (h : SchAt w l s) (hq : QryAt w m q) (hz : RowsAt w za zn zc zs) (hT : Tab w) :
  Calls Tryd.prog 3 #[l.val, m.val q, .slice za zn zc] w fun e w' => e = .returned (.bool true) ∧ Below w.heap.size w w' := by
 have HLI := Lib.hid (fun (w' : World) (hb : Below w.heap.size w w') => rlight_any w' l s (h.below hb (Nat.le_refl _)))
 have HLQ := Lib.hid (fun (w' : World) (hb : Below w.heap.size w w') => rqlight_any w' m q (hq.below hb (Nat.le_refl _)))
 have HLZ := Lib.hid (fun (w' : World) (hb : Below w.heap.size w w') => rzlight_any w' za zn zc zs (hz.below hb (Nat.le_refl _)))
 have HHP := Lib.hid (fun (w' : World) (hb : Below w.heap.size w w') => phead_any w' l s m q (h.below hb (Nat.le_refl _)) (hq.below hb (Nat.le_refl _)) (tab_bel hT hb))
 have HHR := Lib.hid (fun (w' : World) (hb : Below w.heap.size w w') => rhead_any w' l s m q (h.below hb (Nat.le_refl _)) (hq.below hb (Nat.le_refl _)))
 have HTP := Lib.hid (fun (hf : RowsFew zs) (w' : World) (hb : Below w.heap.size w w') => ptext_any w' l s m q za zn zc zs (h.below hb (Nat.le_refl _)) (hq.below hb (Nat.le_refl _)) (hz.below hb (Nat.le_refl _)) hf (tab_bel hT hb))
 have HTR := Lib.hid (fun (hf : RowsFew zs) (w' : World) (hb : Below w.heap.size w w') => rtext44_any w' l s m q za zn zc zs (h.below hb (Nat.le_refl _)) (hq.below hb (Nat.le_refl _)) (hz.below hb (Nat.le_refl _)) hf)
 have HT := Lib.hid (fun (w' : World) (hb : Below w.heap.size w w') => tab_bel hT hb)
 have HRZ := Lib.hid (fun (w' : World) (hb : Below w.heap.size w w') => hz.below hb (Nat.le_refl _))
 have HSZ := Lib.hid (fun (w' : World) (hb : Below w.heap.size w w') => hb.size)
 have HZN := Lib.hid hz.2.1
 have mz : zn ≤ 9223372036854775807 := by have h1 := hz.1.2.1; have h2 := hz.1.2.2.1; unfold maxLen at h2; omega
 obtain ⟨⟨hh, he⟩, hhe⟩ : ∃ r, headS s q.qp = r := ⟨_, rfl⟩
 obtain ⟨⟨tt, te⟩, hte⟩ : ∃ r, textS s q.qp (zs.map (·.2)) = r := ⟨_, rfl⟩
 rw [hhe] at HHP HHR
 rw [hte] at HTP HTR
 clear h hT hz hhe hte
 obtain ⟨ad, nd, cd, ai, ni, ci, an, nn, cn, av, nv, cv⟩ := l
 obtain ⟨af, nf, cf, ac, nc, cc, ao, no, co⟩ := m
 obtain ⟨gr, fq, cq, oq, lm⟩ := q
 clear hq
 unfold SchL.val QryL.val at HHP HHR HTP HTR ⊢
 unfold SchL.val at HLI
 unfold QryL.val at HLQ
 dsimp only at HHP HHR HTP HTR HLI HLQ ⊢
 obtain ⟨hbx, hby, hbw, hsz⟩ := two_pbox w 26 32 #[.slice ad nd cd, .slice ai ni ci, .slice an nn cn, .slice av nv cv] #[.int .u32 gr, .slice af nf cf, .slice ac nc cc, .slice ao no co, .int .i64 lm]
 have HBW := Lib.hid hbw
 have HKS : Hid (Blk ((w.alloc (.cells #[.slice ad nd cd, .slice ai ni ci, .slice an nn cn, .slice av nv cv] 26)).alloc (.cells #[.int .u32 gr, .slice af nf cf, .slice ac nc cc, .slice ao no co, .int .i64 lm] 32)) w.heap.size 26 #[.slice ad nd cd, .slice ai ni ci, .slice an nn cn, .slice av nv cv]) := Lib.hid ((Blk.new w _ _).alloc _)
 have HKQ : Hid (Blk ((w.alloc (.cells #[.slice ad nd cd, .slice ai ni ci, .slice an nn cn, .slice av nv cv] 26)).alloc (.cells #[.int .u32 gr, .slice af nf cf, .slice ac nc cc, .slice ao no co, .int .i64 lm] 32)) (w.heap.size + 1) 32 #[.int .u32 gr, .slice af nf cf, .slice ac nc cc, .slice ao no co, .int .i64 lm]) := Lib.hid (by
  have h := Blk.new (w.alloc (.cells #[.slice ad nd cd, .slice ai ni ci, .slice an nn cn, .slice av nv cv] 26)) 32 #[.int .u32 gr, .slice af nf cf, .slice ac nc cc, .slice ao no co, .int .i64 lm]
  rw [World.size_alloc] at h
  exact h)
 clear hbw hbx hby hsz
 go_enter Tryd.func3, Tryd.ntmps3
 go_upto_region 1 with fail
 generalize ((w.alloc (.cells #[.slice ad nd cd, .slice ai ni ci, .slice an nn cn, .slice av nv cv] 26)).alloc (.cells #[.int .u32 gr, .slice af nf cf, .slice ac nc cc, .slice ao no co, .int .i64 lm] 32)) = w0 at *
 obtain ⟨S, hS⟩ : ∃ S, w.heap.size = S := ⟨_, rfl⟩
 have HSS := Lib.hid hS
 rw [hS] at HBW HKS HKQ HLI HLQ HLZ HHP HHR HTP HTR HT HRZ HSZ
 clear hS
 rw [HSS.out]
 have HB0 := HBW
 have e0 : w0.cell? ⟨S, 0, none⟩ = some (.slice ad nd cd) := HKS.out.cell 0
 have e1 : w0.cell? ⟨S, 1, none⟩ = some (.slice ai ni ci) := HKS.out.cell 1
 have e2 : w0.cell? ⟨S, 2, none⟩ = some (.slice an nn cn) := HKS.out.cell 2
 have e3 : w0.cell? ⟨S, 3, none⟩ = some (.slice av nv cv) := HKS.out.cell 3
 go_wp2_with fail
 refine (HLI.out _ HB0.out).mono ?_
 rintro e w1 ⟨b1, rfl, -, hb1⟩
 have HB1 := Lib.hid (HB0.out.trans (hb1.mono (HSZ.out _ HB0.out)))
 have HS1 := Lib.hid (HKS.out.below hb1 HKS.out.lt)
 have HQ1 := Lib.hid (HKQ.out.below hb1 HKQ.out.lt)
 clear hb1 e0 e1 e2 e3 HLI
 rcases b1 with _ | _
 ·go_wp2_with fail
  refine (awakeR_any w1 (HT.out _ HB1.out)).mono ?_
  rintro e wz ⟨rfl, hbz⟩
  have HBZ := Lib.hid (HB1.out.trans (hbz.mono (HSZ.out _ HB1.out)))
  clear hbz
  go_wp2_with fail
  go_ret
  exact ⟨rfl, by rw [HSS.out]; exact HBZ.out⟩
 have y0 : w1.cell? ⟨S + 1, 0, none⟩ = some (.int .u32 gr) := HQ1.out.cell 0
 have y1 : w1.cell? ⟨S + 1, 1, none⟩ = some (.slice af nf cf) := HQ1.out.cell 1
 have y2 : w1.cell? ⟨S + 1, 2, none⟩ = some (.slice ac nc cc) := HQ1.out.cell 2
 have y3 : w1.cell? ⟨S + 1, 3, none⟩ = some (.slice ao no co) := HQ1.out.cell 3
 have y4 : w1.cell? ⟨S + 1, 4, none⟩ = some (.int .i64 lm) := HQ1.out.cell 4
 go_wp2_with fail
 refine (HLQ.out _ HB1.out).mono ?_
 rintro e w2 ⟨⟨b2, rfl⟩, hb2⟩
 have HB2 := Lib.hid (HB1.out.trans (hb2.mono (HSZ.out _ HB1.out)))
 have HS2 := Lib.hid (HS1.out.below hb2 HS1.out.lt)
 have HQ2 := Lib.hid (HQ1.out.below hb2 HQ1.out.lt)
 clear hb2 y0 y1 y2 y3 y4 HLQ
 rcases b2 with _ | _
 ·go_wp2_with fail
  refine (awakeR_any w2 (HT.out _ HB2.out)).mono ?_
  rintro e wz ⟨rfl, hbz⟩
  have HBZ := Lib.hid (HB2.out.trans (hbz.mono (HSZ.out _ HB2.out)))
  clear hbz
  go_wp2_with fail
  go_ret
  exact ⟨rfl, by rw [HSS.out]; exact HBZ.out⟩
 go_wp2_with fail
 refine (HLZ.out _ HB2.out).mono ?_
 rintro e w3 ⟨⟨b3, rfl, hfw⟩, hb3⟩
 have HB3 := Lib.hid (HB2.out.trans (hb3.mono (HSZ.out _ HB2.out)))
 have HS3 := Lib.hid (HS2.out.below hb3 HS2.out.lt)
 have HQ3 := Lib.hid (HQ2.out.below hb3 HQ2.out.lt)
 clear hb3 HLZ
 rcases b3 with _ | _
 ·clear hfw
  go_wp2_with fail
  refine (awakeR_any w3 (HT.out _ HB3.out)).mono ?_
  rintro e wz ⟨rfl, hbz⟩
  have HBZ := Lib.hid (HB3.out.trans (hbz.mono (HSZ.out _ HB3.out)))
  clear hbz
  go_wp2_with fail
  go_ret
  exact ⟨rfl, by rw [HSS.out]; exact HBZ.out⟩
 have HFW := Lib.hid (hfw rfl)
 clear hfw
 have e0 : w3.cell? ⟨S, 0, none⟩ = some (.slice ad nd cd) := HS3.out.cell 0
 have e1 : w3.cell? ⟨S, 1, none⟩ = some (.slice ai ni ci) := HS3.out.cell 1
 have e2 : w3.cell? ⟨S, 2, none⟩ = some (.slice an nn cn) := HS3.out.cell 2
 have e3 : w3.cell? ⟨S, 3, none⟩ = some (.slice av nv cv) := HS3.out.cell 3
 have y0 : w3.cell? ⟨S + 1, 0, none⟩ = some (.int .u32 gr) := HQ3.out.cell 0
 have y1 : w3.cell? ⟨S + 1, 1, none⟩ = some (.slice af nf cf) := HQ3.out.cell 1
 have y2 : w3.cell? ⟨S + 1, 2, none⟩ = some (.slice ac nc cc) := HQ3.out.cell 2
 have y3 : w3.cell? ⟨S + 1, 3, none⟩ = some (.slice ao no co) := HQ3.out.cell 3
 have y4 : w3.cell? ⟨S + 1, 4, none⟩ = some (.int .i64 lm) := HQ3.out.cell 4
 go_wp2_with fail
 refine (HHP.out _ HB3.out).mono ?_
 rintro e w4 ⟨rfl, hb4⟩
 have HB4 := Lib.hid (HB3.out.trans (hb4.mono (HSZ.out _ HB3.out)))
 have HS4 := Lib.hid (HS3.out.below hb4 HS3.out.lt)
 have HQ4 := Lib.hid (HQ3.out.below hb4 HQ3.out.lt)
 clear hb4 e0 e1 e2 e3 y0 y1 y2 y3 y4 HHP
 dsimp only
 have e0 : w4.cell? ⟨S, 0, none⟩ = some (.slice ad nd cd) := HS4.out.cell 0
 have e1 : w4.cell? ⟨S, 1, none⟩ = some (.slice ai ni ci) := HS4.out.cell 1
 have e2 : w4.cell? ⟨S, 2, none⟩ = some (.slice an nn cn) := HS4.out.cell 2
 have e3 : w4.cell? ⟨S, 3, none⟩ = some (.slice av nv cv) := HS4.out.cell 3
 have y0 : w4.cell? ⟨S + 1, 0, none⟩ = some (.int .u32 gr) := HQ4.out.cell 0
 have y1 : w4.cell? ⟨S + 1, 1, none⟩ = some (.slice af nf cf) := HQ4.out.cell 1
 have y2 : w4.cell? ⟨S + 1, 2, none⟩ = some (.slice ac nc cc) := HQ4.out.cell 2
 have y3 : w4.cell? ⟨S + 1, 3, none⟩ = some (.slice ao no co) := HQ4.out.cell 3
 have y4 : w4.cell? ⟨S + 1, 4, none⟩ = some (.int .i64 lm) := HQ4.out.cell 4
 go_wp2_with fail
 refine (HHR.out _ HB4.out).mono ?_
 rintro e w5 ⟨rfl, hb5⟩
 have HB5 := Lib.hid (HB4.out.trans (hb5.mono (HSZ.out _ HB4.out)))
 have HS5 := Lib.hid (HS4.out.below hb5 HS4.out.lt)
 have HQ5 := Lib.hid (HQ4.out.below hb5 HQ4.out.lt)
 clear hb5 e0 e1 e2 e3 y0 y1 y2 y3 y4 HHR
 dsimp only
 have e0 : w5.cell? ⟨S, 0, none⟩ = some (.slice ad nd cd) := HS5.out.cell 0
 have e1 : w5.cell? ⟨S, 1, none⟩ = some (.slice ai ni ci) := HS5.out.cell 1
 have e2 : w5.cell? ⟨S, 2, none⟩ = some (.slice an nn cn) := HS5.out.cell 2
 have e3 : w5.cell? ⟨S, 3, none⟩ = some (.slice av nv cv) := HS5.out.cell 3
 have y0 : w5.cell? ⟨S + 1, 0, none⟩ = some (.int .u32 gr) := HQ5.out.cell 0
 have y1 : w5.cell? ⟨S + 1, 1, none⟩ = some (.slice af nf cf) := HQ5.out.cell 1
 have y2 : w5.cell? ⟨S + 1, 2, none⟩ = some (.slice ac nc cc) := HQ5.out.cell 2
 have y3 : w5.cell? ⟨S + 1, 3, none⟩ = some (.slice ao no co) := HQ5.out.cell 3
 have y4 : w5.cell? ⟨S + 1, 4, none⟩ = some (.int .i64 lm) := HQ5.out.cell 4
 go_wp2_with fail
 refine (HTP.out HFW.out _ HB5.out).mono ?_
 rintro e w6 ⟨rfl, hb6⟩
 have HB6 := Lib.hid (HB5.out.trans (hb6.mono (HSZ.out _ HB5.out)))
 have HS6 := Lib.hid (HS5.out.below hb6 HS5.out.lt)
 have HQ6 := Lib.hid (HQ5.out.below hb6 HQ5.out.lt)
 clear hb6 e0 e1 e2 e3 y0 y1 y2 y3 y4 HTP
 dsimp only
 have e0 : w6.cell? ⟨S, 0, none⟩ = some (.slice ad nd cd) := HS6.out.cell 0
 have e1 : w6.cell? ⟨S, 1, none⟩ = some (.slice ai ni ci) := HS6.out.cell 1
 have e2 : w6.cell? ⟨S, 2, none⟩ = some (.slice an nn cn) := HS6.out.cell 2
 have e3 : w6.cell? ⟨S, 3, none⟩ = some (.slice av nv cv) := HS6.out.cell 3
 have y0 : w6.cell? ⟨S + 1, 0, none⟩ = some (.int .u32 gr) := HQ6.out.cell 0
 have y1 : w6.cell? ⟨S + 1, 1, none⟩ = some (.slice af nf cf) := HQ6.out.cell 1
 have y2 : w6.cell? ⟨S + 1, 2, none⟩ = some (.slice ac nc cc) := HQ6.out.cell 2
 have y3 : w6.cell? ⟨S + 1, 3, none⟩ = some (.slice ao no co) := HQ6.out.cell 3
 have y4 : w6.cell? ⟨S + 1, 4, none⟩ = some (.int .i64 lm) := HQ6.out.cell 4
 go_wp2_with fail
 refine (HTR.out HFW.out _ HB6.out).mono ?_
 rintro e w7 ⟨rfl, hb7⟩
 have HB7 := Lib.hid (HB6.out.trans (hb7.mono (HSZ.out _ HB6.out)))
 clear hb7 e0 e1 e2 e3 y0 y1 y2 y3 y4 HTR
 dsimp only
 go_wp2_with fail
 go_loopg [15] zn (fun g iu wr => ∃ (j : Nat), iu = .int .i64 j ∧ j + g = zn ∧ Below S w wr)
 case atStart => exact ⟨0, rfl, by omega, HB7.out⟩
 case round =>
 obtain ⟨j, rfl, hqq, hb⟩ := hrel
 have HQQ := Lib.hid hqq
 have HB := Lib.hid hb
 clear hqq hb HB7
 by_cases hlt : j < zn
 case pos =>
  have HRW := Lib.hid (HRZ.out _ HB.out)
  obtain ⟨b, off, e, hbl, hc⟩ := HRW.out.1.at (by omega)
  subst e
  have c0 := hc (j * 2) (by omega)
  have c1 := hc (j * 2 + 1) (by omega)
  have hjl : j < zs.length := by rw [HZN.out]; exact hlt
  obtain ⟨g0, g1⟩ := rowCells_get (zs := zs) (i := j) hjl
  rw [g0] at c0
  rw [g1, ← Nat.add_assoc] at c1
  have HRA := Lib.hid (HRW.out.2.2 _ (zAt_mem hjl))
  have HRF := Lib.hid (HFW.out.2 _ (zAt_mem hjl))
  obtain ⟨⟨⟨ca, cn2, cc2, va, vn, vc⟩, ⟨cs, vs⟩⟩, hzz⟩ : ∃ z, zAt zs j = z := ⟨_, rfl⟩
  rw [hzz] at c0 c1 HRA HRF
  simp only at c0 c1 HRF
  dsimp only at HRA
  have HPL := Lib.hid (fun w' (hb : Below wr.heap.size wr w') => pline_any w' ⟨ca, cn2, cc2, va, vn, vc⟩ (cs, vs) (HRA.out.below hb (Nat.le_refl _)) HRF.out.1 HRF.out.2 (HT.out _ (HB.out.trans (hb.mono (HSZ.out _ HB.out)))))
  have HRL := Lib.hid (fun w' (hb : Below wr.heap.size wr w') => rline_any w' ⟨ca, cn2, cc2, va, vn, vc⟩ (cs, vs) (HRA.out.below hb (Nat.le_refl _)) HRF.out.1 HRF.out.2)
  unfold RowL.val at HPL HRL
  dsimp only at HPL HRL
  obtain ⟨X, hX⟩ : ∃ X, btS (lineL cs vs) = X := ⟨_, rfl⟩
  rw [hX] at HPL HRL
  have HCC := Lib.hid (And.intro c0 c1)
  have HBLT := Lib.hid hbl
  clear hc g0 g1 hzz hjl hX c0 c1
  go_upto_region 10 with fail
  clear hbl
  refine wp_regionN (fun w' => w'.cell? ⟨b, off + j * 2, none⟩ = some (.slice ca cn2 cc2) ∧ w'.cell? ⟨b, off + j * 2 + 1, none⟩ = some (.slice va vn vc)) [] (by kernel_rfl) (by exact HCC.out) (fun hHeld => ?_)
  refine wpAnyN_t 0 ⟨some 62, _, _, _, _, _⟩ ?_ rfl ?_ ?_
  rotate_left 1
  ·(intro w hSw; have c0 := hSw.1; have c1 := hSw.2; clear hSw; go_simp; try with_reducible rfl)
  try simp only [Act.put, putA, putB, putC]
  refine wpAnyN_t 1 ⟨some 63, _, _, _, _, _⟩ ?_ rfl ?_ ?_
  rotate_left 1
  ·(intro w hSw; have c0 := hSw.1; have c1 := hSw.2; clear hSw; go_simp; try with_reducible rfl)
  try simp only [Act.put, putA, putB, putC]
  refine wpAnyN_t 2 ⟨some 64, _, _, _, _, _⟩ ?_ rfl ?_ ?_
  rotate_left 1
  ·(intro w hSw; have c0 := hSw.1; have c1 := hSw.2; clear hSw; go_simp; try with_reducible rfl)
  try simp only [Act.put, putA, putB, putC]
  refine wpAnyN_t 3 ⟨some 65, _, _, _, _, _⟩ ?_ rfl ?_ ?_
  rotate_left 1
  ·(intro w hSw; have c0 := hSw.1; have c1 := hSw.2; clear hSw; go_simp; try with_reducible rfl)
  try simp only [Act.put, putA, putB, putC]
  refine wpAnyN_t 5 ⟨some 67, _, _, _, _, _⟩ ?_ rfl ?_ ?_
  rotate_left 1
  ·(intro w hSw; have c0 := hSw.1; have c1 := hSw.2; clear hSw; go_simp; try with_reducible rfl)
  try simp only [Act.put, putA, putB, putC]
  refine wpAnyN_t 6 ⟨some 68, _, _, _, _, _⟩ ?_ rfl ?_ ?_
  rotate_left 1
  ·(intro w hSw; have c0 := hSw.1; have c1 := hSw.2; clear hSw; go_simp; try with_reducible rfl)
  try simp only [Act.put, putA, putB, putC]
  refine wpAnyN_t 7 ⟨some 69, _, _, _, _, _⟩ ?_ rfl ?_ ?_
  rotate_left 1
  ·(intro w hSw; have c0 := hSw.1; have c1 := hSw.2; clear hSw; go_simp; try with_reducible rfl)
  try simp only [Act.put, putA, putB, putC]
  refine wpAnyN_t 8 ⟨some 70, _, _, _, _, _⟩ ?_ rfl ?_ ?_
  rotate_left 1
  ·(intro w hSw; have c0 := hSw.1; have c1 := hSw.2; clear hSw; go_simp; try with_reducible rfl)
  try simp only [Act.put, putA, putB, putC]
  have HR0 : Hid (Below wr.heap.size wr wr.drew) := Lib.hid (Below.refl _ _).drew
  refine wpAnyN_one (i := 4) (o := ⟨some 66, _, _, _, _, _⟩) (by kernel_rfl) rfl (fun K hK => ?_)
  go_simp
  refine (HPL.out _ HR0.out).mono ?_; rintro e x1 ⟨rfl, hbx⟩
  have HX1 := Lib.hid (HR0.out.trans (hbx.mono HR0.out.size))
  clear hbx
  refine hK.out _ _ (by exact ⟨by rw [HX1.out.cell (p := ⟨b, off + j * 2, none⟩) HBLT.out]; exact HCC.out.1, by rw [HX1.out.cell (p := ⟨b, off + j * 2 + 1, none⟩) HBLT.out]; exact HCC.out.2⟩) ?_
  clear hK K hHeld
  intro hHeld
  try simp only [Act.put, putA, putB, putC]
  refine wpAnyN_one (i := 9) (o := ⟨some 71, _, _, _, _, _⟩) (by kernel_rfl) rfl (fun K hK => ?_)
  go_simp
  refine (HRL.out _ HX1.out).mono ?_; rintro e x2 ⟨rfl, hbx⟩
  have HX2 := Lib.hid (HX1.out.trans (hbx.mono HX1.out.size))
  clear hbx
  refine hK.out _ _ (by exact ⟨by rw [HX2.out.cell (p := ⟨b, off + j * 2, none⟩) HBLT.out]; exact HCC.out.1, by rw [HX2.out.cell (p := ⟨b, off + j * 2 + 1, none⟩) HBLT.out]; exact HCC.out.2⟩) ?_
  clear hK K hHeld
  intro hHeld
  try simp only [Act.put, putA, putB, putC]
  refine wpAnyN_one (i := 10) (o := ⟨some 72, _, _, _, _, _⟩) (by kernel_rfl) rfl (fun K hK => ?_)
  go_simp
  refine hK.out _ _ (by exact hHeld) ?_
  clear hK K hHeld
  intro hHeld
  try simp only [Act.put, putA, putB, putC]
  clear hHeld
  refine wpAnyN_end (by kernel_rfl) ?_
  have HB9 := Lib.hid (HB.out.trans (HX2.out.mono (HSZ.out _ HB.out)))
  go_wp2_with fail
  go_roundg (zn - j - 1)
  case measure => have := HQQ.out; omega
  case rel => exact ⟨j + 1, by go_num, by have := HQQ.out; omega, HB9.out⟩
 case neg =>
 go_wp2_with fail
 refine (awakeR_any wr (HT.out _ HB.out)).mono ?_
 rintro e wz ⟨rfl, hbz⟩
 have HBZ := Lib.hid (HB.out.trans (hbz.mono (HSZ.out _ HB.out)))
 clear hbz
 go_wp2_with fail
 go_ret
 exact ⟨rfl, by rw [HSS.out]; exact HBZ.out⟩
end Go.Proofs.YtkojcamlllenkaaDoor
