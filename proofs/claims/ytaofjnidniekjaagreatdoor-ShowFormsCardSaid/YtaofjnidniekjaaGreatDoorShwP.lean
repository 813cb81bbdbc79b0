/- The contract of package bushelref37's Text: printed by gen_shwp.py. Conditions: those stated. -/
import Derived.Test.YtaofjnidniekjaaGreatDoorShwM
import Derived.Test.YtaofjnidniekjaaGreatDoorShwN
import Derived.Test.YtaofjnidniekjaaGreatDoorMRs1
import Derived.Deep.DeepCutAuto
namespace Go.Proofs.YtaofjnidniekjaaGreatDoor
open Go.RowKit

theorem own_noneS (w : World) (e : TypeId) (N : Nat) (h : N ≤ w.heap.size) : (w.alloc (.cells #[] e)).ownsRow N e 1 (.slice (some ⟨w.heap.size, 0, none⟩) 0 0) 0 [] :=
 ⟨rfl, .inr ⟨w.heap.size, 0, #[], rfl, h, heap_alloc_new w _, Nat.le_refl _, Nat.zero_le _, rfl, rfl⟩⟩
/-- the first j pieces, joined -/
def jtk {α : Type} (l : List α) (E : α → List UInt8) (sep : List UInt8) (j : Nat) : List UInt8 := Lib.join ((l.take j).map E) sep
theorem jtk_all {α : Type} {l : List α} (E : α → List UInt8) (sep : List UInt8) {j : Nat} (h : l.length = j) : jtk l E sep j = Lib.join (l.map E) sep := by unfold jtk; rw [List.take_of_length_le (by omega)]
theorem join_step {α : Type} (l : List α) (E : α → List UInt8) (sep : List UInt8) (d : α) {j : Nat} (h : j < l.length) (hne : ∀ x ∈ l.take j, E x ≠ []) : behL (jtk l E sep j) sep (E (l.getD j d)) = jtk l E sep (j + 1) := by
 unfold jtk
 have e : l.take (j + 1) = l.take j ++ [l.getD j d] := by
  rw [List.take_add_one, List.getElem?_eq_getElem h, List.getD_eq_getElem?_getD, List.getElem?_eq_getElem h]
  rfl
 rw [e, List.map_append, List.map_cons, List.map_nil, join_snoc]
 intro y hy
 obtain ⟨x, hx, rfl⟩ := List.mem_map.1 hy
 exact hne x hx
theorem colL_ne (meas : List ByteArray) (c : Int × Int) : colL meas c ≠ [] := by
 obtain ⟨k, m⟩ := c
 by_cases h : k = 0
 ·subst h; rw [colL_zero]; exact List.cons_ne_nil _ _
 ·rw [colL_meas _ _ h]
  intro e
  exact absurd (List.append_eq_nil_iff.1 (List.append_eq_nil_iff.1 e).2).1 (List.cons_ne_nil _ _)
theorem itoa_ne (n : Int) : Lib.itoa n ≠ [] := by
 have h : ∀ u, Lib.decDigits u ≠ [] := fun u e => by
  have h1 := Lib.decDigits_length u
  have h2 := Lib.nDigits_pos u
  rw [e] at h1
  simp at h1
  omega
 unfold Lib.itoa
 split
 ·exact List.cons_ne_nil _ _
 ·exact h _
theorem ordL_ne (o : Int × Bool) : ordL o ≠ [] := by
 obtain ⟨c, d⟩ := o
 cases d
 ·rw [ordL_up]; exact itoa_ne _
 ·rw [ordL_dn]; exact fun e => itoa_ne _ (List.append_eq_nil_iff.1 e).1
theorem condL_ne (dims : List ByteArray) (f : Int × List Int) : condL dims f ≠ [] := by
 obtain ⟨d, cs⟩ := f
 by_cases h : cs.length = 1
 ·obtain ⟨n, rfl⟩ := List.length_eq_one_iff.1 h
  rw [condL_one]
  intro e
  exact absurd (List.append_eq_nil_iff.1 (List.append_eq_nil_iff.1 e).2).1 (List.cons_ne_nil _ _)
 ·rw [condL_many _ _ _ h]
  intro e
  exact absurd (List.append_eq_nil_iff.1 (List.append_eq_nil_iff.1 e).2).1 (List.cons_ne_nil _ _)
theorem gL_ne {s : Sch} (hs : chkS s = 0) {d : Nat} (h : d < (dimN s).length) : gL (dimN s) d ≠ [] := by
 intro e
 have h1 := dim_pos hs h
 rw [← bl_size] at h1
 unfold gL at e
 rw [e] at h1
 simp at h1
theorem take_le {α : Type} (l : List α) (j N : Nat) (h : l.length ≤ N) : (l.take j).length ≤ N := Nat.le_trans (by rw [List.length_take]; exact Nat.min_le_right _ _) h
theorem joinK {α : Type} {l : List α} {E : α → List UInt8} {sep : List UInt8} (K N j : Nat) (hK : ∀ x ∈ l, (E x).length ≤ K) (hN : l.length ≤ N) : (jtk l E sep j).length ≤ (K + sep.length) * N :=
 join_le (fun y hy => by
  obtain ⟨x, hx, rfl⟩ := List.mem_map.1 hy
  exact hK x (List.mem_of_mem_take hx)) (by rw [List.length_map]; exact take_le l j N hN)
def numL (n : Int) : List UInt8 := if 0 < n then Lib.itoa n else []
theorem num_lim (n : Int) : partL [108, 105, 109, 105, 116] (numL n) = limB n := by
 unfold partL numL limB
 by_cases h : 0 < n
 ·rw [if_pos h, if_pos h, if_neg (itoa_ne n)]; rfl
 ·rw [if_neg h, if_neg h, if_pos rfl]
theorem shw_end {s : Sch} {q : QP} {J1 J2 J3 J4 : List UInt8} (hs : chkS s = 0) (h1 : Lib.join (q.cols.map (colL (measN s))) cmB = J1) (h2 : Lib.join ((gList q.group.toNat (dimN s).length).map (gL (dimN s))) cmB = J2) (h3 : Lib.join (q.flts.map (condL (dimN s))) andB = J3) (h4 : Lib.join (q.ord.map ordL) cmB = J4) :
  btS ((((selB ++ J1) ++ partL [98, 121] J2) ++ partL [119, 104, 101, 114, 101] J3) ++ partL [111, 114, 100, 101, 114] J4 ++ partL [108, 105, 109, 105, 116] (numL q.limit)) = showTx s q := by
 rw [← h2, part_join (W := byB) rfl (fun y hy => by
   obtain ⟨d, hd, rfl⟩ := List.mem_map.1 hy
   exact gL_ne hs (gList_lt hd)), ← h3, part_join (W := whB) rfl (fun y hy => by
   obtain ⟨d, hd, rfl⟩ := List.mem_map.1 hy
   exact condL_ne _ _), ← h4, part_join (W := orB) rfl (fun y hy => by
   obtain ⟨d, hd, rfl⟩ := List.mem_map.1 hy
   exact ordL_ne _), num_lim]
 exact (shw_tail h1 rfl rfl rfl rfl).symm

set_option maxRecDepth 100000 in
set_option maxHeartbeats 8000000 in
theorem rtext37_any (w : World) (l : SchL) (s : Sch) (m : QryL) (q : Qry) (h : SchAt w l s) (hq : QryAt w m q) (hk : qchk s q = 0) :
  Calls Tryz.prog 23 #[l.val, m.val q] w fun e w' => e = .returned (.string (showTx s q.qp)) ∧ Below w.heap.size w w' := by
 obtain ⟨ad, nd, cd, ai, ni, ci, an, nn, cn, av, nv, cv⟩ := l
 obtain ⟨af, nf, cf, ac, nc, cc, ao, no, co⟩ := m
 have HLN := Lib.hid (And.intro (show s.dims.length = nd from h.2.1) (And.intro (show q.flts.length = nf from hq.1.2.1) (And.intro (show q.cols.length = nc from hq.2.2.1) (show q.ord.length = no from hq.2.2.2.2.1))))
 have HLM2 := Lib.hid (And.intro (show s.ints.length = ni from h.2.2.1.1) (show s.nums.length = nn from h.2.2.2.1.1))
 obtain ⟨gr, hgr⟩ : ∃ g, q.group = g := ⟨_, rfl⟩
 obtain ⟨lm, hlm⟩ : ∃ g, q.limit = g := ⟨_, rfl⟩
 obtain ⟨gr0, gr1⟩ : 0 ≤ gr ∧ gr ≤ 4294967295 := hgr ▸ hq.2.2.2.2.2.1
 obtain ⟨lm0, lm1⟩ : I64 lm := hlm ▸ hq.2.2.2.2.2.2.1
 unfold SchL.val QryL.val
 simp only
 rw [hgr, hlm]
 obtain ⟨hbx, hby, hbw, hsz⟩ := two_pbox w 26 32 #[.slice ad nd cd, .slice ai ni ci, .slice an nn cn, .slice av nv cv] #[.int .u32 gr, .slice af nf cf, .slice ac nc cc, .slice ao no co, .int .i64 lm]
 have HS := Lib.hid (h.below hbw (Nat.le_refl _))
 have HQ := Lib.hid (hq.below hbw (Nat.le_refl _))
 have HBW := Lib.hid hbw
 have HGR := Lib.hid (And.intro hgr hlm)
 obtain ⟨N, hN⟩ : ∃ N, ((w.alloc (.cells #[.slice ad nd cd, .slice ai ni ci, .slice an nn cn, .slice av nv cv] 26)).alloc (.cells #[.int .u32 gr, .slice af nf cf, .slice ac nc cc, .slice ao no co, .int .i64 lm] 32)).heap.size = N := ⟨_, rfl⟩
 have HN1 : Hid (w.heap.size < N ∧ w.heap.size + 1 < N) := Lib.hid (by rw [← hN, hsz]; omega)
 have HKS : Hid (Blk ((w.alloc (.cells #[.slice ad nd cd, .slice ai ni ci, .slice an nn cn, .slice av nv cv] 26)).alloc (.cells #[.int .u32 gr, .slice af nf cf, .slice ac nc cc, .slice ao no co, .int .i64 lm] 32)) w.heap.size 26 #[.slice ad nd cd, .slice ai ni ci, .slice an nn cn, .slice av nv cv]) := Lib.hid ((Blk.new w _ _).alloc _)
 have y2 := hby 2
 have e0 := hbx 0
 have e1 := hbx 1
 have e2 := hbx 2
 have e3 := hbx 3
 have y0 := hby 0
 have y1 := hby 1
 have y3 := hby 3
 have y4 := hby 4
 simp only [List.getElem?_toArray, List.getElem?_cons_zero, List.getElem?_cons_succ] at e0 e1 e2 e3 y0 y1 y2 y3 y4
 have HE := Lib.hid (And.intro e0 (And.intro e1 (And.intro e2 e3)))
 have HY := Lib.hid (And.intro y0 (And.intro y1 (And.intro y2 (And.intro y3 y4))))
 have OK := Lib.hid (shw_ok hk)
 clear h hq hbw hbx hby hsz hgr hlm hk y0 y1 y3 y4 e0 e1 e2 e3
 go_enter Tryz.func23, Tryz.ntmps23
 go_upto_region 1 with fail
 generalize ((w.alloc (.cells #[.slice ad nd cd, .slice ai ni ci, .slice an nn cn, .slice av nv cv] 26)).alloc (.cells #[.int .u32 gr, .slice af nf cf, .slice ac nc cc, .slice ao no co, .int .i64 lm] 32)) = w0 at *
 generalize hS : w.heap.size = S at *
 have HSS := Lib.hid hS
 have HN := Lib.hid hN
 clear hS hN
 have hc16 : nc ≤ 16 := by rw [← HLN.out.2.2.1]; exact OK.out.nc.2
 have hd6 : nd ≤ 6 := by rw [← HLN.out.1]; exact OK.out.nd
 have hf20 : nf ≤ 20 := by rw [← HLN.out.2.1]; exact OK.out.nf
 have ho8 : no ≤ 8 := by rw [← HLN.out.2.2.2]; exact OK.out.no
 have hi3 : ni ≤ 3 := by rw [← HLM2.out.1]; exact (chk_dims OK.out.hs).2.2.1
 have hn2 : nn ≤ 2 := by rw [← HLM2.out.2]; exact (chk_dims OK.out.hs).2.2.2
 have HSO : Hid (∀ v, Below N w0 v → SchAt v ⟨ad, nd, cd, ai, ni, ci, an, nn, cn, av, nv, cv⟩ s) := Lib.hid (fun v hv => HS.out.below hv (Nat.le_of_eq HN.out))
 have HQO : Hid (∀ v, Below N w0 v → QryAt v ⟨af, nf, cf, ac, nc, cc, ao, no, co⟩ q) := Lib.hid (fun v hv => HQ.out.below hv (Nat.le_of_eq HN.out))
 have HSZ : Hid (∀ v, Below N w0 v → N ≤ v.heap.size) := Lib.hid (fun v hv => by have := hv.size; rw [HN.out] at this; exact this)
 have HB0 := Lib.hid (Below.refl N w0)
 have lm0' : 0 ≤ lm := by rw [← HGR.out.2]; exact OK.out.lim
 clear y2
 go_wp2_with fail
 go_loopg [5, 9] nc (fun g v iu wr => ∃ (j : Nat), iu = .int .i64 j ∧ j + g = nc ∧ v = .string (btS (jtk q.cols (colL (measN s)) cmB j)) ∧ Below N w0 wr)
 case atStart => exact ⟨0, rfl, by omega, rfl, HB0.out⟩
 case round =>
 obtain ⟨j, rfl, hqq, rfl, hb⟩ := hrel
 have HQQ := Lib.hid hqq
 have HB := Lib.hid hb
 have hsz : N ≤ wr.heap.size := HSZ.out _ hb
 clear hqq hb
 have y2 : wr.cell? ⟨S + 1, 2, none⟩ = some (.slice ac nc cc) := by rw [HB.out.cell (p := ⟨S + 1, 2, none⟩) HN1.out.2]; exact HY.out.2.2.1
 by_cases hlt : j < nc
 case pos =>
  obtain ⟨b, off, e, hbl, hc⟩ := (HQO.out _ HB.out).2.1.at (by show 0 < nc; omega)
  simp only at e
  subst e
  have c0 := hc (j * 2) (by show j * 2 < nc * 2; omega)
  have c1 := hc (j * 2 + 1) (by show j * 2 + 1 < nc * 2; omega)
  have hjl : j < q.cols.length := by rw [HLN.out.2.2.1]; exact hlt
  obtain ⟨g0, g1⟩ := colCells_get (ds := q.cols) (i := j) hjl
  rw [g0] at c0
  rw [g1, ← Nat.add_assoc] at c1
  have HJS := Lib.hid (join_step q.cols (colL (measN s)) cmB (0, 0) hjl (fun x _ => colL_ne _ x))
  have HCO := Lib.hid (OK.out.col j hjl)
  obtain ⟨⟨ck, cm⟩, hcl⟩ : ∃ f, colAt q.cols j = f := ⟨_, rfl⟩
  rw [show q.cols.getD j (0, 0) = (ck, cm) from hcl] at HJS
  rw [hcl] at c0 c1 HCO
  simp only at c0 c1 HCO
  have HBH := Lib.hid (fun w' => rbehind_any (jtk q.cols (colL (measN s)) cmB j) cmB (colL (measN s) (ck, cm)) w' (Nat.le_trans (joinK 40 16 j (fun x _ => colL_le OK.out.hs x) (by rw [HLN.out.2.2.1]; exact hc16)) (by decide)) (by decide) (Nat.le_trans (colL_le OK.out.hs _) (by decide)))
  obtain ⟨J, hJ⟩ : ∃ J, jtk q.cols (colL (measN s)) cmB j = J := ⟨_, rfl⟩
  rw [hJ] at HJS HBH ⊢
  obtain ⟨X, hX⟩ : ∃ X, colL (measN s) (ck, cm) = X := ⟨_, rfl⟩
  have HXX := Lib.hid hX
  rw [hX] at HJS HBH
  rw [show btS cmB = ⟨#[44, 32]⟩ from rfl] at HBH
  clear hc g0 g1 hcl hjl hJ hX
  go_upto_region 6 with fail
  have hw2 : Below N w0 (wr.alloc (.cells #[.int .i64 ck, .int .i64 cm] 56)) := HB.out.alloc hsz _
  have hk2 := Blk.new wr 56 #[.int .i64 ck, .int .i64 cm]
  clear c0 c1 y2
  generalize (wr.alloc (.cells #[.int .i64 ck, .int .i64 cm] 56)) = w2 at *
  have hsz0 := hsz
  generalize wr.heap.size = T at hk2 hsz0 ⊢
  have HB2 := Lib.hid hw2
  have HK2 := Lib.hid hk2
  have hz2 : N ≤ w2.heap.size := HSZ.out _ hw2
  have f0 : w2.cell? ⟨T, 0, none⟩ = some (.int .i64 ck) := HK2.out.cell 0
  have HKR : Hid (0 ≤ ck ∧ ck ≤ 6) := Lib.hid (by rcases colB_yes HCO.out with h | h <;> omega)
  clear hw2 hk2 hsz0
  go_cut [11] (fun v wx => ∃ F : ByteArray, v = .string F ∧ F.data.toList = aggW.getD ck.toNat [] ∧ F.size ≤ 5 ∧ Blk wx T 56 #[.int .i64 ck, .int .i64 cm] ∧ Below N w0 wx)
  case first =>
   have hcase : ck = 0 ∨ ck = 1 ∨ ck = 2 ∨ ck = 3 ∨ ck = 4 ∨ ck = 5 ∨ ck = 6 := by have := HKR.out; omega
   have HBA : Hid (∀ c, Below N w0 (w2.alloc c)) := Lib.hid (fun c => HB2.out.alloc hz2 c)
   have HKA : Hid (∀ c, Blk (w2.alloc c) T 56 #[.int .i64 ck, .int .i64 cm]) := Lib.hid (fun c => HK2.out.alloc c)
   clear HBH HJS HXX HKR HCO HK2
   have HTL : T < w2.heap.size := World.block_lt_of_cell? w2 _ f0
   rcases hcase with rfl | rfl | rfl | rfl | rfl | rfl | rfl
   all_goals
    go_wp2_with fail
    go_meet
    exact ⟨_, rfl, rfl, by decide, HKA.out _, HBA.out _⟩
  case rest =>
  obtain ⟨F, rfl, hF, hFs, hk3, hb3⟩ := hcut
  have HF := Lib.hid hF
  have HK3 := Lib.hid hk3
  have HB3 := Lib.hid hb3
  clear hF hk3 hb3 f0 HK2 HB2 hz2
  obtain ⟨w3, rfl⟩ : ∃ x, x = wc := ⟨_, rfl⟩
  have f0 : w3.cell? ⟨T, 0, none⟩ = some (.int .i64 ck) := HK3.out.cell 0
  by_cases hk0 : ck = 0
  case pos =>
   have HXF : Hid (F = btS X) := Lib.hid (bt_eq (by rw [HF.out, ← HXX.out, hk0]; rfl))
   subst hk0
   go_upto_region 9 with fail
   rw [HXF.out]
   go_wp2_with fail
   refine (HBH.out w3).mono ?_
   rintro e w9 ⟨rfl, hb9⟩
   rw [HJS.out]
   have HB9 := Lib.hid (HB3.out.trans (hb9.mono (HSZ.out _ HB3.out)))
   clear hb9 HBH
   go_wp2_with fail
   go_roundg (nc - j - 1)
   case measure => have := HQQ.out; omega
   case rel => exact ⟨j + 1, by go_num, by have := HQQ.out; omega, rfl, HB9.out⟩
  case neg =>
  have hkp : 0 < ck := by have := HKR.out; omega
  have t1 : decide (0 < ck) = true := decide_eq_true hkp
  obtain ⟨jm, hjm⟩ : ∃ jm : Nat, cm = (jm : Int) := ⟨cm.toNat, by rcases colB_yes HCO.out with h | h <;> omega⟩
  have hjl : jm < ni + nn := by
   have h1 := HLM2.out
   rcases colB_yes HCO.out with h | h
   ·exact absurd h.1 hk0
   ·omega
  have HLM3 : Hid ((measN s).length = ni + nn) := Lib.hid (by unfold measN; rw [List.length_append, HLM2.out.1, HLM2.out.2])
  obtain ⟨nm, hnm⟩ : ∃ nm, (measN s).getD jm ByteArray.empty = nm := ⟨_, rfl⟩
  have hnms : nm.size ≤ 16 := by rw [← hnm]; exact meas_le OK.out.hs jm
  have HCS : Hid (F ++ ⟨#[40]⟩ ++ nm ++ ⟨#[41]⟩ = btS X) := Lib.hid (by rw [col_str hk0 HF.out (m := cm) (by rw [hjm, Int.toNat_natCast]; exact hnm), HXX.out])
  have HNM := Lib.hid hnm
  have HKS3 := Lib.hid (HKS.out.below HB3.out HN1.out.1)
  subst hjm
  clear hk0 hnm
  go_upto_region 8 with fail
  clear f0
  refine wp_regionN (fun w' => Blk w' S 26 #[.slice ad nd cd, .slice ai ni ci, .slice an nn cn, .slice av nv cv] ∧ Blk w' T 56 #[.int .i64 ck, .int .i64 jm]) [] (by kernel_rfl) (by exact ⟨HKS3.out.drew, HK3.out.drew⟩) (fun hHeld => ?_)
  refine wpAnyN_t 0 ⟨some 41, _, _, _, _, _⟩ ?_ rfl ?_ ?_
  rotate_left 1
  ·(intro w hSw; have e1 : w.cell? ⟨S, 1, none⟩ = some (.slice ai ni ci) := hSw.1.cell 1; have e2 : w.cell? ⟨S, 2, none⟩ = some (.slice an nn cn) := hSw.1.cell 2; have f1 : w.cell? ⟨T, 1, none⟩ = some (.int .i64 jm) := hSw.2.cell 1; clear hSw; go_simp; first | with_reducible rfl | rw [if_neg (by omega)] | skip)
  try simp only [Act.put, putA, putB, putC]
  refine wpAnyN_t 1 ⟨some 42, _, _, _, _, _⟩ ?_ rfl ?_ ?_
  rotate_left 1
  ·(intro w hSw; have e1 : w.cell? ⟨S, 1, none⟩ = some (.slice ai ni ci) := hSw.1.cell 1; have e2 : w.cell? ⟨S, 2, none⟩ = some (.slice an nn cn) := hSw.1.cell 2; have f1 : w.cell? ⟨T, 1, none⟩ = some (.int .i64 jm) := hSw.2.cell 1; clear hSw; go_simp; first | with_reducible rfl | rw [if_neg (by omega)] | skip)
  try simp only [Act.put, putA, putB, putC]
  refine wpAnyN_t 3 ⟨some 44, _, _, _, _, _⟩ ?_ rfl ?_ ?_
  rotate_left 1
  ·(intro w hSw; have e1 : w.cell? ⟨S, 1, none⟩ = some (.slice ai ni ci) := hSw.1.cell 1; have e2 : w.cell? ⟨S, 2, none⟩ = some (.slice an nn cn) := hSw.1.cell 2; have f1 : w.cell? ⟨T, 1, none⟩ = some (.int .i64 jm) := hSw.2.cell 1; clear hSw; go_simp; first | with_reducible rfl | rw [if_neg (by omega)] | skip)
  try simp only [Act.put, putA, putB, putC]
  refine wpAnyN_t 4 ⟨some 45, _, _, _, _, _⟩ ?_ rfl ?_ ?_
  rotate_left 1
  ·(intro w hSw; have e1 : w.cell? ⟨S, 1, none⟩ = some (.slice ai ni ci) := hSw.1.cell 1; have e2 : w.cell? ⟨S, 2, none⟩ = some (.slice an nn cn) := hSw.1.cell 2; have f1 : w.cell? ⟨T, 1, none⟩ = some (.int .i64 jm) := hSw.2.cell 1; clear hSw; go_simp; first | with_reducible rfl | rw [if_neg (by omega)] | skip)
  try simp only [Act.put, putA, putB, putC]
  refine wpAnyN_t 6 ⟨some 47, _, _, _, _, _⟩ ?_ rfl ?_ ?_
  rotate_left 1
  ·(intro w hSw; have e1 : w.cell? ⟨S, 1, none⟩ = some (.slice ai ni ci) := hSw.1.cell 1; have e2 : w.cell? ⟨S, 2, none⟩ = some (.slice an nn cn) := hSw.1.cell 2; have f1 : w.cell? ⟨T, 1, none⟩ = some (.int .i64 jm) := hSw.2.cell 1; clear hSw; go_simp; first | with_reducible rfl | rw [if_neg (by omega)] | skip)
  try simp only [Act.put, putA, putB, putC]
  refine wpAnyN_t 7 ⟨some 48, _, _, _, _, _⟩ ?_ rfl ?_ ?_
  rotate_left 1
  ·(intro w hSw; have e1 : w.cell? ⟨S, 1, none⟩ = some (.slice ai ni ci) := hSw.1.cell 1; have e2 : w.cell? ⟨S, 2, none⟩ = some (.slice an nn cn) := hSw.1.cell 2; have f1 : w.cell? ⟨T, 1, none⟩ = some (.int .i64 jm) := hSw.2.cell 1; clear hSw; go_simp; first | with_reducible rfl | rw [if_neg (by omega)] | skip)
  try simp only [Act.put, putA, putB, putC]
  refine wpAnyN_t 9 ⟨some 50, _, _, _, _, _⟩ ?_ rfl ?_ ?_
  rotate_left 1
  ·(intro w hSw; have e1 : w.cell? ⟨S, 1, none⟩ = some (.slice ai ni ci) := hSw.1.cell 1; have e2 : w.cell? ⟨S, 2, none⟩ = some (.slice an nn cn) := hSw.1.cell 2; have f1 : w.cell? ⟨T, 1, none⟩ = some (.int .i64 jm) := hSw.2.cell 1; clear hSw; go_simp; first | with_reducible rfl | rw [if_neg (by omega)] | skip)
  try simp only [Act.put, putA, putB, putC]
  refine wpAnyN_t 10 ⟨some 51, _, _, _, _, _⟩ ?_ rfl ?_ ?_
  rotate_left 1
  ·(intro w hSw; have e1 : w.cell? ⟨S, 1, none⟩ = some (.slice ai ni ci) := hSw.1.cell 1; have e2 : w.cell? ⟨S, 2, none⟩ = some (.slice an nn cn) := hSw.1.cell 2; have f1 : w.cell? ⟨T, 1, none⟩ = some (.int .i64 jm) := hSw.2.cell 1; clear hSw; go_simp; first | with_reducible rfl | rw [if_neg (by omega)] | skip)
  try simp only [Act.put, putA, putB, putC]
  have HBr : Hid (Below N w0 w3.drew) := Lib.hid HB3.out.drew
  have hzr : N ≤ w3.drew.heap.size := HSZ.out _ HBr.out
  have HR0 := Lib.hid (Below.refl w3.drew.heap.size w3.drew)
  have hLS : S < w3.drew.heap.size := HKS3.out.drew.lt
  have hLT : T < w3.drew.heap.size := HK3.out.drew.lt
  refine wpAnyN_one (i := 2) (o := ⟨some 43, _, _, _, _, _⟩) (by kernel_rfl) rfl (fun K hK => ?_)
  go_simp
  have HO1 := Lib.hid (own_noneS w3.drew 9 _ HR0.out.size)
  have HB_1 := Lib.hid (HR0.out.alloc HR0.out.size (.cells #[] 9))
  refine hK.out _ _ (by exact ⟨HKS3.out.drew.below HB_1.out hLS, HK3.out.drew.below HB_1.out hLT⟩) ?_
  clear hK K hHeld
  intro hHeld
  try simp only [Act.put, putA, putB, putC]
  refine wpAnyN_one (i := 5) (o := ⟨some 46, _, _, _, _, _⟩) (by kernel_rfl) rfl (fun K hK => ?_)
  refine step_append_rowG (z := .string ByteArray.empty) (sz := 1) (bytes := 16) info_string rfl (by decide) Tryz.underlying23 rfl _ _ (by rfl) _ w3.drew.heap.size _ 0 [] ai ni ci (s.ints.map Value.string) (by rfl) (by rfl) HO1.out ((HSO.out _ (HBr.out.trans (HB_1.out.mono hzr))).2.2.1.g) str_cells (by omega) (by unfold maxLen; omega) HB_1.out.size ?_
  intro v2 x2 h2 h3 h4
  rw [Nat.zero_add, List.nil_append] at h2
  have HO2 := Lib.hid h2
  have HB_2 := Lib.hid (h4 _ HB_1.out)
  clear h2 h3 h4
  refine hK.out _ _ (by exact ⟨HKS3.out.drew.below HB_2.out hLS, HK3.out.drew.below HB_2.out hLT⟩) ?_
  clear hK K hHeld
  intro hHeld
  try simp only [Act.put, putA, putB, putC]
  refine wpAnyN_one (i := 8) (o := ⟨some 49, _, _, _, _, _⟩) (by kernel_rfl) rfl (fun K hK => ?_)
  refine step_append_rowG (z := .string ByteArray.empty) (sz := 1) (bytes := 16) info_string rfl (by decide) Tryz.underlying23 rfl _ _ (by rfl) _ w3.drew.heap.size v2 ni (s.ints.map Value.string) an nn cn (s.nums.map Value.string) (by rfl) (by rfl) HO2.out ((HSO.out _ (HBr.out.trans (HB_2.out.mono hzr))).2.2.2.1.g) str_cells (by omega) (by unfold maxLen; omega) HB_2.out.size ?_
  intro v3 x3 h2 h3 h4
  obtain ⟨ra, rc, rfl⟩ := own_form h2
  obtain ⟨rb, ro, rfl, hrl, hrc⟩ := (own_rowg h2).at (by omega)
  have g0 := hrc jm (by omega)
  rw [show s.ints.map Value.string ++ s.nums.map Value.string = (measN s).map Value.string from (List.map_append).symm, getD_str (by rw [HLM3.out]; exact hjl), HNM.out] at g0
  have HB_3 := Lib.hid (h4 _ HB_2.out)
  clear h2 h3 h4 hrc
  refine hK.out _ _ (by exact ⟨HKS3.out.drew.below HB_3.out hLS, HK3.out.drew.below HB_3.out hLT⟩) ?_
  clear hK K hHeld
  intro hHeld
  try simp only [Act.put, putA, putB, putC]
  have t8 : (jm : Int) < (ni : Int) + (nn : Int) := by omega
  have t9 : ¬ 9223372036854775807 < F.size + 1 + nm.size := by omega
  have t10 : ¬ 9223372036854775807 < F.size + 1 + nm.size + 1 := by omega
  refine wpAnyN_one (i := 11) (o := ⟨some 52, _, _, _, _, _⟩) (by kernel_rfl) rfl (fun K hK => ?_)
  go_simp
  refine hK.out _ _ (by exact hHeld) ?_
  clear hK K hHeld
  intro hHeld
  try simp only [Act.put, putA, putB, putC]
  refine wpAnyN_one (i := 12) (o := ⟨some 53, _, _, _, _, _⟩) (by kernel_rfl) rfl (fun K hK => ?_)
  go_simp
  refine hK.out _ _ (by exact hHeld) ?_
  clear hK K hHeld
  intro hHeld
  try simp only [Act.put, putA, putB, putC]
  refine wpAnyN_one (i := 13) (o := ⟨some 54, _, _, _, _, _⟩) (by kernel_rfl) rfl (fun K hK => ?_)
  go_simp
  refine hK.out _ _ (by exact hHeld) ?_
  clear hK K hHeld
  intro hHeld
  try simp only [Act.put, putA, putB, putC]
  refine wpAnyN_one (i := 14) (o := ⟨some 55, _, _, _, _, _⟩) (by kernel_rfl) rfl (fun K hK => ?_)
  go_simp
  refine hK.out _ _ (by exact hHeld) ?_
  clear hK K hHeld
  intro hHeld
  try simp only [Act.put, putA, putB, putC]
  refine wpAnyN_one (i := 15) (o := ⟨some 11, _, _, _, _, _⟩) (by kernel_rfl) rfl (fun K hK => ?_)
  go_simp
  refine hK.out _ _ (by exact hHeld) ?_
  clear hK K hHeld
  intro hHeld
  try simp only [Act.put, putA, putB, putC]
  clear hHeld
  refine wpAnyN_end (by kernel_rfl) ?_
  rw [HCS.out]
  have HB4 := Lib.hid (HBr.out.trans (HB_3.out.mono hzr))

  go_wp2_with fail
  refine (HBH.out x3).mono ?_
  rintro e w9 ⟨rfl, hb9⟩
  rw [HJS.out]
  have HB9 := Lib.hid (HB4.out.trans (hb9.mono (HSZ.out _ HB4.out)))
  clear hb9 HBH
  go_wp2_with fail
  go_roundg (nc - j - 1)
  case measure => have := HQQ.out; omega
  case rel => exact ⟨j + 1, by go_num, by have := HQQ.out; omega, rfl, HB9.out⟩
 case neg =>
 obtain rfl : nc = j := by have := HQQ.out; omega
 obtain ⟨J1, hJ⟩ : ∃ J, jtk q.cols (colL (measN s)) cmB nc = J := ⟨_, rfl⟩
 have HJ1 : Hid (Lib.join (q.cols.map (colL (measN s))) cmB = J1 ∧ J1.length ≤ 1000) := Lib.hid ⟨by rw [← hJ]; exact (jtk_all (colL (measN s)) cmB HLN.out.2.2.1).symm, by rw [← hJ]; exact Nat.le_trans (joinK 40 16 nc (fun x _ => colL_le OK.out.hs x) (by rw [HLN.out.2.2.1]; exact hc16)) (by decide)⟩
 rw [hJ]
 obtain ⟨w1, rfl⟩ : ∃ x, x = wr := ⟨_, rfl⟩
 have HB1 := HB
 clear hJ HB HQQ hsz hlt
 go_wp2_with fail
 clear y2
 go_loopg [6, 12] nd (fun g v iu wr => ∃ (j : Nat), iu = .int .i64 j ∧ j + g = nd ∧ v = .string (btS (Lib.join ((gList gr.toNat j).map (gL (dimN s))) cmB)) ∧ Below N w0 wr)
 case atStart => exact ⟨0, rfl, by omega, rfl, HB1.out⟩
 case round =>
 obtain ⟨j, rfl, hqq, rfl, hb⟩ := hrel
 have HQQ := Lib.hid hqq
 have HB := Lib.hid hb
 have hsz : N ≤ wr.heap.size := HSZ.out _ hb
 clear hqq hb
 have HGN : Hid (∀ y ∈ (gList gr.toNat j).map (gL (dimN s)), y ≠ []) := Lib.hid (fun y hy => by
  obtain ⟨d, hd, rfl⟩ := List.mem_map.1 hy
  refine gL_ne OK.out.hs ?_
  have h1 := gList_lt hd
  have h2 := HQQ.out
  unfold dimN
  rw [List.length_map, HLN.out.1]
  omega)
 have HGS := Lib.hid (gList_succ gr.toNat j)
 have HJB : Hid ((Lib.join ((gList gr.toNat j).map (gL (dimN s))) cmB).length ≤ 108) := Lib.hid (join_le (K := 16) (N := 6) (fun y hy => by
  obtain ⟨d, hd, rfl⟩ := List.mem_map.1 hy
  exact gL_le OK.out.hs d) (by rw [List.length_map]; have := gList_len gr.toNat j; have := HQQ.out; omega))
 obtain ⟨J, hJ⟩ : ∃ J, Lib.join ((gList gr.toNat j).map (gL (dimN s))) cmB = J := ⟨_, rfl⟩
 have HJJ := Lib.hid hJ
 rw [hJ] at HJB ⊢
 clear hJ
 have e0 : wr.cell? ⟨S, 0, none⟩ = some (.slice ad nd cd) := by rw [HB.out.cell (p := ⟨S, 0, none⟩) HN1.out.1]; exact HE.out.1
 by_cases hlt : j < nd
 case pos =>
  obtain ⟨b, off, e, hbl, hc⟩ := (HSO.out _ HB.out).1.at (by show 0 < nd; omega)
  simp only at e
  subst e
  have c0 := hc (j * 2) (by show j * 2 < nd * 2; omega)
  obtain ⟨g0, -⟩ := dimCells_get (ds := s.dims) (i := j) (by rw [HLN.out.1]; exact hlt)
  rw [g0] at c0
  have HNM : Hid (gL (dimN s) j = (dimAt s.dims j).1.data.toList) := Lib.hid (by
   unfold gL dimN dimAt
   rw [List.getD_eq_getElem?_getD, List.getElem?_map, List.getD_eq_getElem?_getD, List.getElem?_eq_getElem (by rw [HLN.out.1]; exact hlt)]
   rfl)
  obtain ⟨nm, hnm⟩ : ∃ x, (dimAt s.dims j).1 = x := ⟨_, rfl⟩
  rw [hnm] at c0 HNM
  clear hc g0 hnm
  have y0 : wr.cell? ⟨S + 1, 0, none⟩ = some (.int .u32 gr) := by rw [HB.out.cell (p := ⟨S + 1, 0, none⟩) HN1.out.2]; exact HY.out.1
  have hj31 : j ≤ 31 := by omega
  have HIN := Lib.hid (rin_any gr j wr hj31 gr0 gr1)
  have HIB : Hid (inM gr j = decide (gr.toNat / 2 ^ j % 2 = 1)) := Lib.hid (by
   unfold inM
   obtain ⟨k, hk⟩ : ∃ k : Nat, gr = (k : Int) := ⟨gr.toNat, by omega⟩
   have e1 : (k : Int) / 2 ^ j = ((k / 2 ^ j : Nat) : Int) := by rw [Int.natCast_ediv]; norm_cast
   rw [hk, e1, Int.toNat_natCast, Bool.eq_iff_iff, decide_eq_true_eq, decide_eq_true_eq]
   omega)
  go_wp2_with fail
  refine HIN.out.mono ?_
  rintro e w4 ⟨rfl, rfl⟩
  rw [HIB.out]
  by_cases hbit : gr.toNat / 2 ^ j % 2 = 1
  case pos =>
   rw [decide_eq_true hbit]
   have HBH := Lib.hid (fun w' => rbehind_any J cmB (gL (dimN s) j) w' (Nat.le_trans HJB.out (by decide)) (by decide) (Nat.le_trans (gL_le OK.out.hs j) (by decide)))
   rw [show btS cmB = ⟨#[44, 32]⟩ from rfl, HNM.out, btS_of] at HBH
   have HJS : Hid (behL J cmB nm.data.toList = Lib.join ((gList gr.toNat (j + 1)).map (gL (dimN s))) cmB) := Lib.hid (by
    rw [HGS.out, if_pos hbit, List.map_append, List.map_cons, List.map_nil, join_snoc _ _ _ HGN.out, HJJ.out, HNM.out])
   clear hbit
   go_wp2_with fail
   refine (HBH.out wr).mono ?_
   rintro e w9 ⟨rfl, hb9⟩
   rw [HJS.out]
   have HB9 := Lib.hid (HB.out.trans (hb9.mono (HSZ.out _ HB.out)))
   clear hb9 HBH
   go_wp2_with fail
   go_roundg (nd - j - 1)
   case measure => have := HQQ.out; omega
   case rel => exact ⟨j + 1, by go_num, by have := HQQ.out; omega, rfl, HB9.out⟩
  case neg =>
   rw [decide_eq_false hbit]
   have HJS : Hid (J = Lib.join ((gList gr.toNat (j + 1)).map (gL (dimN s))) cmB) := Lib.hid (by
    rw [HGS.out, if_neg hbit, List.append_nil, HJJ.out])
   clear hbit c0
   go_wp2_with fail
   go_roundg (nd - j - 1)
   case measure => have := HQQ.out; omega
   case rel => exact ⟨j + 1, by go_num, by have := HQQ.out; omega, by rw [HJS.out], HB.out⟩
 case neg =>
 obtain rfl : nd = j := by have := HQQ.out; omega
 obtain ⟨w2, rfl⟩ : ∃ x, x = wr := ⟨_, rfl⟩
 have HB2 := HB
 have HJ2 := HJJ
 have HJ2B := HJB
 obtain ⟨J2, rfl⟩ : ∃ x, x = J := ⟨_, rfl⟩
 clear HB HJJ HJB HQQ hsz hlt HGN HGS
 go_wp2_with fail
 clear e0
 go_loopg [7, 13] nf (fun g v iu wr => ∃ (j : Nat), iu = .int .i64 j ∧ j + g = nf ∧ v = .string (btS (jtk q.flts (fun f : Flt => condL (dimN s) (f.dim, f.codes)) andB j)) ∧ Below N w0 wr)
 case atStart => exact ⟨0, rfl, by omega, rfl, HB2.out⟩
 case round =>
 obtain ⟨j, rfl, hqq, rfl, hb⟩ := hrel
 have HQQ := Lib.hid hqq
 have HB := Lib.hid hb
 have hsz : N ≤ wr.heap.size := HSZ.out _ hb
 clear hqq hb

 have HJB : Hid ((jtk q.flts (fun f : Flt => condL (dimN s) (f.dim, f.codes)) andB j).length ≤ 2000100) := Lib.hid (Nat.le_trans (joinK 100000 20 j (fun f hf => by
  obtain ⟨k, hk, e2⟩ := List.getElem_of_mem hf
  have e3 : fltAt q.flts k = f := by unfold fltAt; rw [List.getD_eq_getElem?_getD, List.getElem?_eq_getElem hk, e2]; rfl
  have h1 := OK.out.cod k hk
  have h2 := OK.out.num k hk
  rw [e3] at h1 h2
  refine condL_le OK.out.hs h1 (fun n hn => ?_)
  obtain ⟨k2, hk2, e4⟩ := List.getElem_of_mem hn
  have h5 := h2 k2 hk2
  rw [List.getD_eq_getElem?_getD, List.getElem?_eq_getElem hk2, e4] at h5
  exact ⟨h5, ((HQO.out _ HB.out).1.2.2 f hf).2.2.2 n hn |>.2⟩) (by rw [HLN.out.2.1]; exact hf20)) (by decide))
 obtain ⟨J, hJ⟩ : ∃ J, jtk q.flts (fun f : Flt => condL (dimN s) (f.dim, f.codes)) andB j = J := ⟨_, rfl⟩
 have HJJ := Lib.hid hJ
 rw [hJ] at HJB ⊢
 clear hJ
 have y1 : wr.cell? ⟨S + 1, 1, none⟩ = some (.slice af nf cf) := by rw [HB.out.cell (p := ⟨S + 1, 1, none⟩) HN1.out.2]; exact HY.out.2.1
 by_cases hlt : j < nf
 case pos =>
  have HFA := Lib.hid (HQO.out _ HB.out).1
  obtain ⟨b, off, e, hbl, hc⟩ := HFA.out.1.at (by show 0 < nf; omega)
  simp only at e
  subst e
  have c0 := hc (j * 2) (by show j * 2 < nf * 2; omega)
  have c1 := hc (j * 2 + 1) (by show j * 2 + 1 < nf * 2; omega)
  have hjl : j < q.flts.length := by rw [HLN.out.2.1]; exact hlt
  obtain ⟨g0, g1⟩ := fltCells_get (fs := q.flts) (i := j) hjl
  rw [g0] at c0
  rw [g1, ← Nat.add_assoc] at c1
  have HJS := Lib.hid (join_step q.flts (fun f : Flt => condL (dimN s) (f.dim, f.codes)) andB ⟨0, [], none, 0, 0⟩ hjl (fun x _ => condL_ne _ _))
  have HM := Lib.hid (HFA.out.2.2 (fltAt q.flts j) (fltAt_mem hjl))
  have HDM := Lib.hid (OK.out.dim j hjl)
  have HCD := Lib.hid (OK.out.cod j hjl)
  have HNU := Lib.hid (OK.out.num j hjl)
  obtain ⟨⟨fd, fcs, ka, kn, kc⟩, hfl⟩ : ∃ f, fltAt q.flts j = f := ⟨_, rfl⟩
  rw [show q.flts.getD j ⟨0, [], none, 0, 0⟩ = ⟨fd, fcs, ka, kn, kc⟩ from hfl] at HJS
  rw [hfl] at c0 c1 HM HDM HCD HNU
  simp only at c0 c1 HM HDM HCD HNU
  rw [HJJ.out] at HJS
  have HNU2 : Hid (∀ n ∈ fcs, 0 ≤ n ∧ n ≤ 9223372036854775807) := Lib.hid (fun n hn => by
   obtain ⟨k, hk, e2⟩ := List.getElem_of_mem hn
   have h5 := HNU.out k hk
   rw [List.getD_eq_getElem?_getD, List.getElem?_eq_getElem hk, e2] at h5
   exact ⟨h5, (HM.out.2.2.2 n hn).2⟩)
  have HCL := Lib.hid (condL_le OK.out.hs (f := (fd, fcs)) HCD.out HNU2.out)
  have HBH := Lib.hid (fun w' => rbehind_any J andB (condL (dimN s) (fd, fcs)) w' (Nat.le_trans HJB.out (by decide)) (by decide) (Nat.le_trans HCL.out (by decide)))
  rw [show btS andB = ⟨#[32, 97, 110, 100, 32]⟩ from rfl] at HBH
  obtain ⟨X, hX⟩ : ∃ X, condL (dimN s) (fd, fcs) = X := ⟨_, rfl⟩
  have HXX := Lib.hid hX
  rw [hX] at HJS HBH
  obtain ⟨di, hdi⟩ : ∃ di : Nat, fd = (di : Int) := ⟨fd.toNat, by have := HDM.out; omega⟩
  subst hdi
  have hdn : di < nd := by have := HDM.out; have := HLN.out.1; omega
  have HKL : Hid (fcs.length = kn) := Lib.hid HM.out.1.1
  have mk : kn ≤ 9223372036854775807 := by have h1 := HCD.out; have h2 := HKL.out; omega
  clear hc g0 g1 hfl hjl hX
  go_upto_region 19 with fail
  have hw2 : Below N w0 (wr.alloc (.cells #[.int .i64 di, .slice ka kn kc] 61)) := HB.out.alloc hsz _
  have hk2 := Blk.new wr 61 #[.int .i64 di, .slice ka kn kc]
  have HKC : Hid (RowK .i64 (wr.alloc (.cells #[.int .i64 di, .slice ka kn kc] 61)) ka kn kc fcs) := Lib.hid (HM.out.1.below (Below.alloc (Below.refl _ _) (Nat.le_refl _) _) (Nat.le_refl _))
  clear c0 c1 y1
  generalize (wr.alloc (.cells #[.int .i64 di, .slice ka kn kc] 61)) = w3 at *
  have hsz0 := hsz
  generalize wr.heap.size = T at hk2 hsz0 ⊢
  have HB3 := Lib.hid hw2
  have HK3 := Lib.hid hk2
  obtain ⟨N3, hN3⟩ : ∃ n, w3.heap.size = n := ⟨_, rfl⟩
  have HN3 := Lib.hid hN3
  have HLT3 : Hid (T < N3) := Lib.hid (by rw [← hN3]; exact hk2.lt)
  have HB33 : Hid (Below N3 w3 w3) := Lib.hid (Below.refl _ _)
  clear hw2 hk2 hsz0 hN3
  obtain ⟨wo, rfl⟩ : ∃ x, x = wr := ⟨_, rfl⟩
  go_wp2_with fail
  go_loopg [15, 16] kn (fun g v iu wz => ∃ (i : Nat), iu = .int .i64 i ∧ i + g = kn ∧ v = .string (btS (jtk fcs Lib.itoa cmB i)) ∧ Below N3 w3 wz)
  case atStart => exact ⟨0, rfl, by omega, rfl, HB33.out⟩
  case round =>
  obtain ⟨i, rfl, hqi, rfl, hbi⟩ := hrel
  have HQI := Lib.hid hqi
  have HBI := Lib.hid hbi
  clear hqi hbi
  obtain ⟨w4, rfl⟩ : ∃ x, x = wr := ⟨_, rfl⟩
  have HI1 := Lib.hid (HB3.out.trans (HBI.out.mono (by rw [← HN3.out]; exact HSZ.out _ HB3.out)))
  have f1 : w4.cell? ⟨T, 1, none⟩ = some (.slice ka kn kc) := (HK3.out.below HBI.out HLT3.out).cell 1
  have HCB : Hid ((jtk fcs Lib.itoa cmB i).length ≤ 90112) := Lib.hid (Nat.le_trans (joinK 20 4096 i (fun n hn => itoa_le (HNU2.out n hn).1 (HNU2.out n hn).2) HCD.out) (by decide))
  by_cases hli : i < kn
  case pos =>
   obtain ⟨kb, ko, rfl, hkl, hkc⟩ := rowk_at (HKC.out.below HBI.out (Nat.le_of_eq HN3.out)) (by omega)
   have k0 := hkc i hli
   have hil : i < fcs.length := by rw [HKL.out]; exact hli
   have hx := HNU2.out (fcs.getD i 0) (geti_mem hil)
   have HCS := Lib.hid (join_step fcs Lib.itoa cmB 0 hil (fun n _ => itoa_ne n))
   obtain ⟨x, hxx⟩ : ∃ x, fcs.getD i 0 = x := ⟨_, rfl⟩
   rw [hxx] at k0 hx HCS
   obtain ⟨hx0, hx1⟩ := hx
   have HBC := Lib.hid (fun w' => rbehind_any (jtk fcs Lib.itoa cmB i) cmB (Lib.itoa x) w' (Nat.le_trans HCB.out (by decide)) (by decide) (Nat.le_trans (itoa_le hx0 hx1) (by decide)))
   rw [show btS cmB = ⟨#[44, 32]⟩ from rfl] at HBC
   obtain ⟨C, hC⟩ : ∃ C, jtk fcs Lib.itoa cmB i = C := ⟨_, rfl⟩
   rw [hC] at HCS HBC ⊢
   clear hkc hxx hil hC
   go_wp2_with fail
   refine (rnumber_any x w4 hx0 hx1).mono ?_
   rintro e w5 ⟨rfl, hb5⟩
   have HB5 := Lib.hid (HBI.out.trans (hb5.mono (by have := HBI.out.size; have := HN3.out; omega)))
   clear hb5
   go_wp2_with fail
   refine (HBC.out w5).mono ?_
   rintro e w6 ⟨rfl, hb6⟩
   rw [HCS.out]
   have HB6 := Lib.hid (HB5.out.trans (hb6.mono (by have := HB5.out.size; have := HN3.out; omega)))
   clear hb6
   go_wp2_with fail
   go_roundg (kn - i - 1)
   case measure => have := HQI.out; omega
   case rel => exact ⟨i + 1, by go_num, by have := HQI.out; omega, rfl, HB6.out⟩
  case neg =>
  obtain rfl : kn = i := by have := HQI.out; omega
  obtain ⟨C, hC⟩ : ∃ C, jtk fcs Lib.itoa cmB kn = C := ⟨_, rfl⟩
  have HCC : Hid (Lib.join (fcs.map Lib.itoa) cmB = C) := Lib.hid (by rw [← hC]; exact (jtk_all _ _ HKL.out).symm)
  rw [hC] at HCB ⊢
  have hCs : (btS C).size ≤ 90112 := by rw [btS_size]; exact HCB.out
  have e0 : w4.cell? ⟨S, 0, none⟩ = some (.slice ad nd cd) := by rw [HI1.out.cell (p := ⟨S, 0, none⟩) HN1.out.1]; exact HE.out.1
  obtain ⟨b, off, e, hbl, hc⟩ := (HSO.out _ HI1.out).1.at (by show 0 < nd; omega)
  simp only at e
  subst e
  have c0 := hc (di * 2) (by show di * 2 < nd * 2; omega)
  obtain ⟨g0, -⟩ := dimCells_get (ds := s.dims) (i := di) (by rw [HLN.out.1]; exact hdn)
  rw [g0] at c0
  have HNM : Hid ((dimN s).getD di ByteArray.empty = (dimAt s.dims di).1) := Lib.hid (by
   unfold dimN dimAt
   rw [List.getD_eq_getElem?_getD, List.getElem?_map, List.getD_eq_getElem?_getD, List.getElem?_eq_getElem (by rw [HLN.out.1]; exact hdn)]
   rfl)
  have hnms : (dimAt s.dims di).1.size ≤ 16 := by rw [← HNM.out]; exact dim_le OK.out.hs di
  obtain ⟨nm, hnm⟩ : ∃ x, (dimAt s.dims di).1 = x := ⟨_, rfl⟩
  rw [hnm] at c0 HNM hnms
  have f0 : w4.cell? ⟨T, 0, none⟩ = some (.int .i64 di) := (HK3.out.below HBI.out HLT3.out).cell 0
  clear hc g0 hnm hC hli
  by_cases hk1 : kn = 1
  case pos =>
   obtain ⟨x, hx⟩ := List.length_eq_one_iff.1 (HKL.out.trans hk1)
   have HXS : Hid (nm ++ ⟨#[32, 61, 32]⟩ ++ btS C = btS X) := Lib.hid (by
    apply bt_eq
    rw [← HXX.out, hx, condL_one, dl_app, dl_app, Int.toNat_natCast, HNM.out, ← HCC.out, hx]
    simp only [List.append_assoc, List.map_cons, List.map_nil, Lib.join_one]
    rfl)
   subst hk1
   go_upto_region 27 with fail
   rw [HXS.out]
   clear c0 f0 f1 e0
   go_wp2_with fail
   refine (HBH.out w4).mono ?_
   rintro e w9 ⟨rfl, hb9⟩
   rw [HJS.out]
   have HB9 := Lib.hid (HI1.out.trans (hb9.mono (HSZ.out _ HI1.out)))
   clear hb9 HBH
   go_wp2_with fail
   go_roundg (nf - j - 1)
   case measure => have := HQQ.out; omega
   case rel => exact ⟨j + 1, by go_num, by have := HQQ.out; omega, rfl, HB9.out⟩
  case neg =>
   have HXS : Hid (nm ++ ⟨#[32, 105, 110, 32, 40]⟩ ++ btS C ++ ⟨#[41]⟩ = btS X) := Lib.hid (by
    apply bt_eq
    rw [← HXX.out, condL_many _ _ _ (by rw [HKL.out]; exact hk1), dl_app, dl_app, dl_app, Int.toNat_natCast, HNM.out, ← HCC.out]
    simp only [List.append_assoc]
    rfl)
   have t1 : ((kn : Int) == 1) = false := by simp; omega
   clear hk1
   go_upto_region 27 with fail
   rw [HXS.out]
   clear c0 f0 f1 e0 t1
   go_wp2_with fail
   refine (HBH.out w4).mono ?_
   rintro e w9 ⟨rfl, hb9⟩
   rw [HJS.out]
   have HB9 := Lib.hid (HI1.out.trans (hb9.mono (HSZ.out _ HI1.out)))
   clear hb9 HBH
   go_wp2_with fail
   go_roundg (nf - j - 1)
   case measure => have := HQQ.out; omega
   case rel => exact ⟨j + 1, by go_num, by have := HQQ.out; omega, rfl, HB9.out⟩
 case neg =>
 obtain rfl : nf = j := by have := HQQ.out; omega
 obtain ⟨J3, rfl⟩ : ∃ x, x = J := ⟨_, rfl⟩
 have HJ3 : Hid (Lib.join (q.flts.map (fun f : Flt => condL (dimN s) (f.dim, f.codes))) andB = J3 ∧ J3.length ≤ 2000100) := Lib.hid ⟨by rw [← HJJ.out]; exact (jtk_all _ _ HLN.out.2.1).symm, HJB.out⟩
 obtain ⟨w3, rfl⟩ : ∃ x, x = wr := ⟨_, rfl⟩
 have HB3 := HB
 clear HB HJJ HJB HQQ hsz hlt
 go_wp2_with fail
 clear y1
 go_loopg [8, 18] no (fun g v iu wr => ∃ (j : Nat), iu = .int .i64 j ∧ j + g = no ∧ v = .string (btS (jtk q.ord ordL cmB j)) ∧ Below N w0 wr)
 case atStart => exact ⟨0, rfl, by omega, rfl, HB3.out⟩
 case round =>
 obtain ⟨j, rfl, hqq, rfl, hb⟩ := hrel
 have HQQ := Lib.hid hqq
 have HB := Lib.hid hb
 have hsz : N ≤ wr.heap.size := HSZ.out _ hb
 clear hqq hb

 have HJB : Hid ((jtk q.ord ordL cmB j).length ≤ 336) := Lib.hid (Nat.le_trans (joinK 40 8 j (fun o ho => by
  obtain ⟨k, hk, e2⟩ := List.getElem_of_mem ho
  have e3 : ordAt q.ord k = o := by unfold ordAt; rw [List.getD_eq_getElem?_getD, List.getElem?_eq_getElem hk, e2]; rfl
  have h1 := OK.out.ord k hk
  rw [e3] at h1
  exact ordL_le h1.1 (by omega)) (by rw [HLN.out.2.2.2]; exact ho8)) (by decide))
 obtain ⟨J, hJ⟩ : ∃ J, jtk q.ord ordL cmB j = J := ⟨_, rfl⟩
 have HJJ := Lib.hid hJ
 rw [hJ] at HJB ⊢
 clear hJ
 have y3 : wr.cell? ⟨S + 1, 3, none⟩ = some (.slice ao no co) := by rw [HB.out.cell (p := ⟨S + 1, 3, none⟩) HN1.out.2]; exact HY.out.2.2.2.1
 by_cases hlt : j < no
 case pos =>
  obtain ⟨b, off, e, hbl, hc⟩ := (HQO.out _ HB.out).2.2.2.1.at (by show 0 < no; omega)
  simp only at e
  subst e
  have c0 := hc (j * 2) (by show j * 2 < no * 2; omega)
  have HC1 := Lib.hid (hc (j * 2 + 1) (by show j * 2 + 1 < no * 2; omega))
  have hjl : j < q.ord.length := by rw [HLN.out.2.2.2]; exact hlt
  obtain ⟨g0, g1⟩ := ordCells_get (ds := q.ord) (i := j) hjl
  rw [g0] at c0
  rw [g1, ← Nat.add_assoc] at HC1
  have HJS := Lib.hid (join_step q.ord ordL cmB (0, false) hjl (fun x _ => ordL_ne x))
  obtain ⟨oc0, oc1⟩ := OK.out.ord j hjl
  have HOL := Lib.hid (ordL_le (o := ordAt q.ord j) oc0 (by omega))
  obtain ⟨⟨oc, od⟩, hfl⟩ : ∃ f, ordAt q.ord j = f := ⟨_, rfl⟩
  rw [show q.ord.getD j (0, false) = (oc, od) from hfl] at HJS
  rw [hfl] at c0 HC1 oc0 oc1 HOL
  simp only at c0 HC1 oc0 oc1
  rw [HJJ.out] at HJS
  have HBH := Lib.hid (fun w' => rbehind_any J cmB (ordL (oc, od)) w' (Nat.le_trans HJB.out (by decide)) (by decide) (Nat.le_trans HOL.out (by decide)))
  rw [show btS cmB = ⟨#[44, 32]⟩ from rfl] at HBH
  have hil : (btS (Lib.itoa (oc + 1))).size ≤ 20 := by rw [btS_size]; exact itoa_le (by omega) (by omega)
  clear hc g0 g1 hfl hjl
  go_wp2_with fail
  refine (rnumber_any (oc + 1) wr (by omega) (by omega)).mono ?_
  rintro e w4 ⟨rfl, hb4⟩
  have HB4 := Lib.hid (HB.out.trans (hb4.mono hsz))
  have c1 : w4.cell? ⟨b, off + j * 2 + 1, none⟩ = some (.bool od) := by rw [hb4.cell (p := ⟨b, off + j * 2 + 1, none⟩) hbl]; exact HC1.out
  have y3 : w4.cell? ⟨S + 1, 3, none⟩ = some (.slice (some ⟨b, off, none⟩) no co) := by rw [HB4.out.cell (p := ⟨S + 1, 3, none⟩) HN1.out.2]; exact HY.out.2.2.2.1
  obtain ⟨Y, hY⟩ : ∃ X, btS (Lib.itoa (oc + 1)) = X := ⟨_, rfl⟩
  have HYY := Lib.hid hY
  rw [hY] at hil ⊢
  clear hb4 hY c0
  rcases od with _ | _
  case false =>
   have HXS : Hid (Y = btS (ordL (oc, false))) := Lib.hid (by rw [ordL_up]; exact HYY.out.symm)
   go_upto_region 34 with fail
   rw [HXS.out]
   clear c1 y3
   go_wp2_with fail
   refine (HBH.out w4).mono ?_
   rintro e w9 ⟨rfl, hb9⟩
   rw [HJS.out]
   have HB9 := Lib.hid (HB4.out.trans (hb9.mono (HSZ.out _ HB4.out)))
   clear hb9 HBH
   go_wp2_with fail
   go_roundg (no - j - 1)
   case measure => have := HQQ.out; omega
   case rel => exact ⟨j + 1, by go_num, by have := HQQ.out; omega, rfl, HB9.out⟩
  case true =>
   have HXS : Hid (Y ++ ⟨#[32, 100, 101, 115, 99]⟩ = btS (ordL (oc, true))) := Lib.hid (by rw [ordL_dn, ← HYY.out]; exact btS_app _ [32, 100, 101, 115, 99])
   go_upto_region 34 with fail
   rw [HXS.out]
   clear c1 y3
   go_wp2_with fail
   refine (HBH.out w4).mono ?_
   rintro e w9 ⟨rfl, hb9⟩
   rw [HJS.out]
   have HB9 := Lib.hid (HB4.out.trans (hb9.mono (HSZ.out _ HB4.out)))
   clear hb9 HBH
   go_wp2_with fail
   go_roundg (no - j - 1)
   case measure => have := HQQ.out; omega
   case rel => exact ⟨j + 1, by go_num, by have := HQQ.out; omega, rfl, HB9.out⟩
 case neg =>
 obtain rfl : no = j := by have := HQQ.out; omega
 obtain ⟨J4, rfl⟩ : ∃ x, x = J := ⟨_, rfl⟩
 have HJ4 : Hid (Lib.join (q.ord.map ordL) cmB = J4 ∧ J4.length ≤ 336) := Lib.hid ⟨by rw [← HJJ.out]; exact (jtk_all _ _ HLN.out.2.2.2).symm, HJB.out⟩
 obtain ⟨w4, rfl⟩ : ∃ x, x = wr := ⟨_, rfl⟩
 have HB4 := HB
 have hz4 := hsz
 clear HB HJJ HJB HQQ hsz hlt
 have y4 : w4.cell? ⟨S + 1, 4, none⟩ = some (.int .i64 lm) := by rw [HB4.out.cell (p := ⟨S + 1, 4, none⟩) HN1.out.2]; exact HY.out.2.2.2.2
 go_upto_if 161 with fail
 clear y3
 go_cut [20] (fun v wx => v = .string (btS (numL lm)) ∧ Below N w0 wx)
 case first =>
  by_cases h0 : 0 < lm
  ·have HNL : Hid (numL lm = Lib.itoa lm) := Lib.hid (by unfold numL; rw [if_pos h0])
   have hl0 : 0 ≤ lm := Int.le_of_lt h0
   go_wp2_with fail
   refine (rnumber_any lm w4 lm0' lm1).mono ?_
   rintro e w5 ⟨rfl, hb5⟩
   have HB5 := Lib.hid (HB4.out.trans (hb5.mono hz4))
   clear hb5
   go_wp2_with fail
   go_meet
   exact ⟨by rw [HNL.out], HB5.out⟩
  ·have HNL : Hid (numL lm = []) := Lib.hid (by unfold numL; rw [if_neg h0])
   go_wp2_with fail
   go_meet
   exact ⟨by rw [HNL.out]; rfl, HB4.out⟩
 case rest =>
 obtain ⟨rfl, hbr⟩ := hcut
 have HB5 := Lib.hid hbr
 clear hbr y4
 obtain ⟨w5, rfl⟩ : ∃ x, x = wc := ⟨_, rfl⟩
 have HNLL : Hid ((numL lm).length ≤ 20) := Lib.hid (by
  unfold numL
  split
  ·exact itoa_le lm0' lm1
  ·exact Nat.zero_le _)
 have HPL : Hid (∀ wd p : List UInt8, (partL wd p).length ≤ wd.length + p.length + 2) := Lib.hid (fun wd p => by
  unfold partL
  split
  ·exact Nat.zero_le _
  ·simp only [List.length_append, List.length_cons, List.length_nil]; omega)
 have HP2 := Lib.hid (fun w' => rpart_any [98, 121] J2 w' (by decide) (Nat.le_trans HJ2B.out (by decide)))
 have HP3 := Lib.hid (fun w' => rpart_any [119, 104, 101, 114, 101] J3 w' (by decide) (Nat.le_trans HJ3.out.2 (by decide)))
 have HP4 := Lib.hid (fun w' => rpart_any [111, 114, 100, 101, 114] J4 w' (by decide) (Nat.le_trans HJ4.out.2 (by decide)))
 have HP5 := Lib.hid (fun w' => rpart_any [108, 105, 109, 105, 116] (numL lm) w' (by decide) (Nat.le_trans HNLL.out (by decide)))
 rw [show btS [98, 121] = ⟨#[98, 121]⟩ from rfl] at HP2
 rw [show btS [119, 104, 101, 114, 101] = ⟨#[119, 104, 101, 114, 101]⟩ from rfl] at HP3
 rw [show btS [111, 114, 100, 101, 114] = ⟨#[111, 114, 100, 101, 114]⟩ from rfl] at HP4
 rw [show btS [108, 105, 109, 105, 116] = ⟨#[108, 105, 109, 105, 116]⟩ from rfl] at HP5
 have s1 : (btS J1).size ≤ 1000 := by rw [btS_size]; exact HJ1.out.2
 have s2 : (btS (partL [98, 121] J2)).size ≤ 1000 := by rw [btS_size]; have h1 := HPL.out [98, 121] J2; have h2 := HJ2B.out; simp only [List.length_cons, List.length_nil] at h1; omega
 have s3 : (btS (partL [119, 104, 101, 114, 101] J3)).size ≤ 3000000 := by rw [btS_size]; have h1 := HPL.out [119, 104, 101, 114, 101] J3; have h2 := HJ3.out.2; simp only [List.length_cons, List.length_nil] at h1; omega
 have s4 : (btS (partL [111, 114, 100, 101, 114] J4)).size ≤ 1000 := by rw [btS_size]; have h1 := HPL.out [111, 114, 100, 101, 114] J4; have h2 := HJ4.out.2; simp only [List.length_cons, List.length_nil] at h1; omega
 have s5 : (btS (partL [108, 105, 109, 105, 116] (numL lm))).size ≤ 1000 := by rw [btS_size]; have h1 := HPL.out [108, 105, 109, 105, 116] (numL lm); have h2 := HNLL.out; simp only [List.length_cons, List.length_nil] at h1; omega
 have HEND : Hid ((⟨#[115, 101, 108, 101, 99, 116, 32]⟩ : ByteArray) ++ btS J1 ++ btS (partL [98, 121] J2) ++ btS (partL [119, 104, 101, 114, 101] J3) ++ btS (partL [111, 114, 100, 101, 114] J4) ++ btS (partL [108, 105, 109, 105, 116] (numL lm)) = showTx s q.qp) := Lib.hid (by
  rw [← shw_end (q := q.qp) OK.out.hs HJ1.out.1 (J2 := J2) (by rw [← HJ2.out, ← HGR.out.1, ← HLN.out.1]; unfold dimN; rw [List.length_map]; rfl) (J3 := J3) (by rw [← HJ3.out.1]; show Lib.join ((q.flts.map fun f => (f.dim, f.codes)).map (condL (dimN s))) andB = _; rw [List.map_map]; rfl) HJ4.out.1,
   show q.qp.limit = lm from HGR.out.2, ← btS_app, ← btS_app, ← btS_app, ← btS_app, ← btS_app]
  rfl)
 obtain ⟨A1, hA1⟩ : ∃ A, btS J1 = A := ⟨_, rfl⟩
 obtain ⟨A2, hA2⟩ : ∃ A, btS (partL [98, 121] J2) = A := ⟨_, rfl⟩
 obtain ⟨A3, hA3⟩ : ∃ A, btS (partL [119, 104, 101, 114, 101] J3) = A := ⟨_, rfl⟩
 obtain ⟨A4, hA4⟩ : ∃ A, btS (partL [111, 114, 100, 101, 114] J4) = A := ⟨_, rfl⟩
 obtain ⟨A5, hA5⟩ : ∃ A, btS (partL [108, 105, 109, 105, 116] (numL lm)) = A := ⟨_, rfl⟩
 rw [hA1] at s1 HEND ⊢
 rw [hA2] at s2 HEND HP2
 rw [hA3] at s3 HEND HP3
 rw [hA4] at s4 HEND HP4
 rw [hA5] at s5 HEND HP5
 clear hA1 hA2 hA3 hA4 hA5
 go_wp2_with fail
 refine (HP2.out _).mono ?_
 rintro e w6 ⟨rfl, hb6⟩
 have HB6 := Lib.hid (HB5.out.trans (hb6.mono (HSZ.out _ HB5.out)))
 clear hb6
 go_wp2_with fail
 refine (HP3.out _).mono ?_
 rintro e w7 ⟨rfl, hb7⟩
 have HB7 := Lib.hid (HB6.out.trans (hb7.mono (HSZ.out _ HB6.out)))
 clear hb7
 go_wp2_with fail
 refine (HP4.out _).mono ?_
 rintro e w8 ⟨rfl, hb8⟩
 have HB8 := Lib.hid (HB7.out.trans (hb8.mono (HSZ.out _ HB7.out)))
 clear hb8
 go_wp2_with fail
 refine (HP5.out _).mono ?_
 rintro e w9 ⟨rfl, hb9⟩
 have HB9 := Lib.hid (HB8.out.trans (hb9.mono (HSZ.out _ HB8.out)))
 clear hb9
 go_wp2_with fail
 go_ret
 refine ⟨ret_st HEND.out, ?_⟩
 rw [HSS.out]
 exact HBW.out.trans (HB9.out.mono (Nat.le_of_lt HN1.out.1))
end Go.Proofs.YtaofjnidniekjaaGreatDoor
