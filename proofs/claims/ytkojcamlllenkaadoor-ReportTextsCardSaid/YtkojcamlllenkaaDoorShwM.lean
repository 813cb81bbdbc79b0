/- The contract of package show's Show: printed by gen_shwm.py. Conditions: those stated; the library's table of powers of ten is as the row lists it. -/
import Derived.Test.YtkojcamlllenkaaDoorMShC
import Derived.Test.YtkojcamlllenkaaDoorLexF
import Derived.Test.YtkojcamlllenkaaDoorMPaD
namespace Go.Proofs.YtkojcamlllenkaaDoor
open Go.RowKit

/-- a query's text -/
def showTx (s : Sch) (q : QP) : ByteArray := btS (showB (dimN s) (measN s) q)
def lxOut (t : ByteArray) : LexR → ByteArray × Int
 | .ok _ => (t, 0)
 | .bad _ _ => (⟨#[]⟩, 4)
/-- what Show says -/
noncomputable def showS (s : Sch) (q : QP) : ByteArray × Int :=
 if qchk s q.qry ≠ 0 then (⟨#[]⟩, (qchk s q.qry : Nat)) else if 999999999 < q.limit then (⟨#[]⟩, 4) else lxOut (showTx s q) (lexAll (showTx s q))
def RShow (w : World) (r : ByteArray × Int) (e : Ending) (w' : World) : Prop := e = .returned (.tuple #[.string r.1, .int .i64 r.2]) ∧ Below w.heap.size w w'
theorem RShow.mk {w w' w0 : World} {r : ByteArray × Int} {t : ByteArray} {er : Int} {S N : Nat} (hr : r = (t, er)) (hS : w.heap.size = S) (hbw : Below S w w0) (hn : S < N) (hb : Below N w0 w') : RShow w r (.returned (.tuple #[.string t, .int .i64 er])) w' := by
 subst hS hr
 exact ⟨rfl, hbw.trans (hb.mono (Nat.le_of_lt hn))⟩
theorem qp_chk (s : Sch) (q : Qry) : qchk s q.qp.qry = qchk s q := (qchk_at s q.qp (fl := q.flts) rfl).symm
theorem colAt_take (cs : List (Int × Int)) (f : Int × Int → Value) {i : Nat} (h : i < cs.length) : (cs.take (i + 1)).map f = (cs.take i).map f ++ [f (colAt cs i)] := take_map f cs (0, 0) h
theorem join_take {α : Type} (l : List α) (E : α → List UInt8) : (l.map fun x => Value.string (btS (E x))) = (l.map E).map fun x => Value.string (btS x) := by rw [List.map_map]; rfl
theorem bits_and_u32 {a b : Nat} (ha : a < 4294967296) (hb : b < 4294967296) : bits .and .u32 (a : Int) (b : Int) = ((a &&& b : Nat) : Int) := by
 have e : bits .and .u32 (a : Int) (b : Int) = IntKind.u32.wrap (((((a : Int) % 4294967296).toNat &&& ((b : Int) % 4294967296).toNat) : Nat) : Int) := by
  show IntKind.u32.wrap ((BitVec.ofInt 32 a &&& BitVec.ofInt 32 b).toNat : Int) = _
  rw [BitVec.toNat_and, BitVec.toNat_ofInt, BitVec.toNat_ofInt]
  rfl
 rw [e, Int.emod_eq_of_lt (by omega) (by omega), Int.emod_eq_of_lt (by omega) (by omega), Int.toNat_natCast, Int.toNat_natCast]
 have h : a &&& b ≤ a := Nat.and_le_left
 exact IntWalk.u32_in _ (by omega)
theorem gr_bit {g : Int} {i : Nat} (h0 : 0 ≤ g) (hg : g ≤ 4294967295) : (bits .and .u32 (g / 2 ^ i) 1 == 1) = decide (g.toNat / 2 ^ i % 2 = 1) := by
 obtain ⟨k, rfl⟩ : ∃ k : Nat, g = (k : Int) := ⟨g.toNat, by omega⟩
 have e1 : (k : Int) / 2 ^ i = ((k / 2 ^ i : Nat) : Int) := by rw [Int.natCast_ediv]; norm_cast
 have h1 : k / 2 ^ i ≤ k := Nat.div_le_self _ _
 have e2 : bits .and .u32 ((k / 2 ^ i : Nat) : Int) 1 = ((k / 2 ^ i &&& 1 : Nat) : Int) := bits_and_u32 (b := 1) (by omega) (by decide)
 rw [e1, e2, Nat.and_one_is_mod, Int.toNat_natCast, Bool.eq_iff_iff, beq_iff_eq, decide_eq_true_eq]
 omega
theorem gList_len (G n : Nat) : (gList G n).length ≤ n := by
 unfold gList
 exact Nat.le_trans (List.length_filter_le _ _) (by rw [List.length_range]; exact Nat.le_refl _)
theorem part_nil (w sep : List UInt8) : partB w sep [] = [] := rfl
theorem part_cons {w sep : List UInt8} {l : List (List UInt8)} (h : l ≠ []) : partB w sep l = w ++ Lib.join l sep := if_neg h
theorem fltAt_take (fs : List Flt) (f : Flt → Value) {i : Nat} (h : i < fs.length) : (fs.take (i + 1)).map f = (fs.take i).map f ++ [f (fltAt fs i)] := take_map f fs _ h
theorem ordAt_take (fs : List (Int × Bool)) (f : Int × Bool → Value) {i : Nat} (h : i < fs.length) : (fs.take (i + 1)).map f = (fs.take i).map f ++ [f (ordAt fs i)] := take_map f fs _ h
theorem shw_tail {s : Sch} {q : QP} {J P2 P3 P4 P5 : List UInt8} (h1 : Lib.join (q.cols.map (colL (measN s))) cmB = J) (h2 : partB byB cmB ((gList q.group.toNat (dimN s).length).map (gL (dimN s))) = P2) (h3 : partB whB andB (q.flts.map (condL (dimN s))) = P3) (h4 : partB orB cmB (q.ord.map ordL) = P4) (h5 : limB q.limit = P5) :
  showTx s q = btS ((((selB ++ J) ++ P2) ++ P3) ++ P4 ++ P5) := by
 unfold showTx showB
 rw [h1, h2, h3, h4, h5]
 simp only [List.append_assoc]

set_option maxRecDepth 100000 in
set_option maxHeartbeats 4000000 in
theorem pshow_any (w : World) (l : SchL) (s : Sch) (m : QryL) (q : Qry) (h : SchAt w l s) (hq : QryAt w m q) (ht : ∀ w', Below w.heap.size w w' → TabS w') :
  Calls Tryd.prog 18 #[l.val, m.val q] w (RShow w (showS s q.qp)) := by
 obtain ⟨ad, nd, cd, ai, ni, ci, an, nn, cn, av, nv, cv⟩ := l
 obtain ⟨af, nf, cf, ac, nc, cc, ao, no, co⟩ := m
 have HLN := Lib.hid (And.intro (show s.dims.length = nd from h.2.1) (And.intro (show q.flts.length = nf from hq.1.2.1) (And.intro (show q.cols.length = nc from hq.2.2.1) (show q.ord.length = no from hq.2.2.2.2.1))))
 obtain ⟨gr, hgr⟩ : ∃ g, q.group = g := ⟨_, rfl⟩
 obtain ⟨lm, hlm⟩ : ∃ g, q.limit = g := ⟨_, rfl⟩
 obtain ⟨gr0, gr1⟩ : 0 ≤ gr ∧ gr ≤ 4294967295 := hgr ▸ hq.2.2.2.2.2.1
 obtain ⟨lm0, lm1⟩ : I64 lm := hlm ▸ hq.2.2.2.2.2.2.1
 unfold SchL.val QryL.val
 simp only
 rw [hgr, hlm]
 obtain ⟨hbx, hby, hbw, hsz⟩ := two_pbox w 26 32 #[.slice ad nd cd, .slice ai ni ci, .slice an nn cn, .slice av nv cv] #[.int .u32 gr, .slice af nf cf, .slice ac nc cc, .slice ao no co, .int .i64 lm]
 have HS := Lib.hid (h.below hbw (Nat.le_refl _))
 have HQ := Lib.hid (hq.below hbw (Nat.le_refl _))
 have HBW := Lib.hid hbw
 have HGR := Lib.hid (And.intro hgr hlm)
 obtain ⟨N, hN⟩ : ∃ N, ((w.alloc (.cells #[.slice ad nd cd, .slice ai ni ci, .slice an nn cn, .slice av nv cv] 26)).alloc (.cells #[.int .u32 gr, .slice af nf cf, .slice ac nc cc, .slice ao no co, .int .i64 lm] 32)).heap.size = N := ⟨_, rfl⟩
 have HN1 : Hid (w.heap.size < N ∧ w.heap.size + 1 < N) := Lib.hid (by rw [← hN, hsz]; omega)
 have HT : Hid (∀ v, Below N ((w.alloc (.cells #[.slice ad nd cd, .slice ai ni ci, .slice an nn cn, .slice av nv cv] 26)).alloc (.cells #[.int .u32 gr, .slice af nf cf, .slice ac nc cc, .slice ao no co, .int .i64 lm] 32)) v → TabS v) := Lib.hid (fun v hv => ht v (hbw.trans (hv.mono (by rw [← hN, hsz]; omega))))
 have e0 := hbx 0
 have e1 := hbx 1
 have e2 := hbx 2
 have e3 := hbx 3
 have y0 := hby 0
 have y1 := hby 1
 have y2 := hby 2
 have y3 := hby 3
 have y4 := hby 4
 simp only [List.getElem?_toArray, List.getElem?_cons_zero, List.getElem?_cons_succ] at e0 e1 e2 e3 y0 y1 y2 y3 y4
 have HE := Lib.hid (And.intro e0 (And.intro e1 (And.intro e2 e3)))
 have HY := Lib.hid (And.intro y0 (And.intro y1 (And.intro y2 (And.intro y3 y4))))
 obtain ⟨K, hK⟩ : ∃ K, qchk s q = K := ⟨_, rfl⟩
 have HK := Lib.hid hK
 have HKP : Hid (qchk s q.qp.qry = K) := Lib.hid (by rw [qp_chk, hK])
 clear h hq hbw hbx hby hsz hK hgr hlm ht
 go_enter Tryd.func18, Tryd.ntmps18
 go_upto_region 1 with fail
 generalize ((w.alloc (.cells #[.slice ad nd cd, .slice ai ni ci, .slice an nn cn, .slice av nv cv] 26)).alloc (.cells #[.int .u32 gr, .slice af nf cf, .slice ac nc cc, .slice ao no co, .int .i64 lm] 32)) = w0 at *
 generalize hS : w.heap.size = S at *
 have HSS := Lib.hid hS
 have HN := Lib.hid hN
 clear hS hN
 have HCK := Lib.hid (qchk_any w0 ⟨ad, nd, cd, ai, ni, ci, an, nn, cn, av, nv, cv⟩ s ⟨af, nf, cf, ac, nc, cc, ao, no, co⟩ q HS.out HQ.out)
 unfold SchL.val QryL.val RErr at HCK
 dsimp only at HCK
 rw [HGR.out.1, HGR.out.2, HK.out, HN.out] at HCK
 go_wp2_with fail
 refine HCK.out.mono ?_
 rintro e w1 ⟨rfl, hb1⟩
 have HB1 := Lib.hid hb1
 clear hb1 e0 e1 e2 e3 y0 y1 y2 y3 y4 HCK
 by_cases hk0 : K = 0
 case neg =>
  have t1 : ((K : Int) != 0) = true := by simp; omega
  have HC : Hid (showS s q.qp = (⟨#[]⟩, (K : Int))) := Lib.hid (by unfold showS; rw [HKP.out, if_pos hk0])
  clear hk0
  go_wp2_with fail
  exact bodyPost_ret (v := .tuple #[.string ⟨#[]⟩, .int .i64 (K : Int)]) (by simp [results, Tryd.results18, go_sem]) rfl (RShow.mk HC.out HSS.out HBW.out HN1.out.1 HB1.out)
 case pos =>
 subst hk0
 have OK := Lib.hid (shw_ok HK.out)
 have y4 : w1.cell? ⟨S + 1, 4, none⟩ = some (.int .i64 lm) := by rw [HB1.out.cell (p := ⟨S + 1, 4, none⟩) HN1.out.2]; exact HY.out.2.2.2.2
 by_cases hl : 999999999 < lm
 case pos =>
  have t1 : decide ((999999999 : Int) < lm) = true := decide_eq_true hl
  have HC : Hid (showS s q.qp = (⟨#[]⟩, 4)) := Lib.hid (by unfold showS; rw [if_neg (by rw [HKP.out]; decide), if_pos (show 999999999 < q.qp.limit by show 999999999 < q.limit; rw [HGR.out.2]; exact hl)])
  clear hl
  go_wp2_with fail
  exact bodyPost_ret (v := .tuple #[.string ⟨#[]⟩, .int .i64 4]) (by simp [results, Tryd.results18, go_sem]) rfl (RShow.mk HC.out HSS.out HBW.out HN1.out.1 HB1.out)
 case neg =>
 have t1 : decide ((999999999 : Int) < lm) = false := decide_eq_false hl
 have HLM : Hid (q.qp.limit ≤ 999999999) := Lib.hid (show q.limit ≤ 999999999 by rw [HGR.out.2]; omega)
 have hc16 : nc ≤ 16 := by rw [← HLN.out.2.2.1]; exact OK.out.nc.2
 have hc0 : 0 < nc := by rw [← HLN.out.2.2.1]; exact OK.out.nc.1
 have hd6 : nd ≤ 6 := by rw [← HLN.out.1]; exact OK.out.nd
 have hf20 : nf ≤ 20 := by rw [← HLN.out.2.1]; exact OK.out.nf
 have ho8 : no ≤ 8 := by rw [← HLN.out.2.2.2]; exact OK.out.no
 have HSO : Hid (∀ v, Below N w0 v → SchAt v ⟨ad, nd, cd, ai, ni, ci, an, nn, cn, av, nv, cv⟩ s) := Lib.hid (fun v hv => HS.out.below hv (Nat.le_of_eq HN.out))
 have HQO : Hid (∀ v, Below N w0 v → QryAt v ⟨af, nf, cf, ac, nc, cc, ao, no, co⟩ q) := Lib.hid (fun v hv => HQ.out.below hv (Nat.le_of_eq HN.out))
 have HSZ : Hid (∀ v, Below N w0 v → N ≤ v.heap.size) := Lib.hid (fun v hv => by have := hv.size; rw [HN.out] at this; exact this)
 clear hl
 have y2 : w1.cell? ⟨S + 1, 2, none⟩ = some (.slice ac nc cc) := by rw [HB1.out.cell (p := ⟨S + 1, 2, none⟩) HN1.out.2]; exact HY.out.2.2.1
 go_wp2_with fail
 clear y2 y4 t1
 go_loopg [7, 36] nc (fun g v iu wr => ∃ (j : Nat), iu = .int .i64 j ∧ j + g = nc ∧ wr.ownsRow N 9 1 v j ((q.cols.take j).map fun c => Value.string (btS (colL (measN s) c))) ∧ Below N w0 wr)
 case atStart => exact ⟨0, rfl, by omega, World.ownsRow_nil _ _ _ _, HB1.out⟩
 case round =>
 obtain ⟨j, rfl, hqq, hown, hb⟩ := hrel
 have HQQ := Lib.hid hqq
 have HOW := Lib.hid hown
 have HB := Lib.hid hb
 have hsz : N ≤ wr.heap.size := HSZ.out _ hb
 clear hqq hown hb
 by_cases hlt : j < nc
 case pos =>
  obtain ⟨b, off, e, hbl, hc⟩ := (HQO.out _ HB.out).2.1.at (by show 0 < nc; omega)
  simp only at e
  subst e
  have c0 := hc (j * 2) (by show j * 2 < nc * 2; omega)
  have c1 := hc (j * 2 + 1) (by show j * 2 + 1 < nc * 2; omega)
  obtain ⟨g0, g1⟩ := colCells_get (ds := q.cols) (i := j) (by rw [HLN.out.2.2.1]; exact hlt)
  rw [g0] at c0
  rw [g1, ← Nat.add_assoc] at c1
  have HTK := Lib.hid (colAt_take q.cols (fun c => Value.string (btS (colL (measN s) c))) (i := j) (by rw [HLN.out.2.2.1]; exact hlt))
  have HCO := Lib.hid (OK.out.col j (by rw [HLN.out.2.2.1]; exact hlt))
  obtain ⟨⟨ck, cm⟩, hcl⟩ : ∃ f, colAt q.cols j = f := ⟨_, rfl⟩
  rw [hcl] at c0 c1 HTK HCO
  simp only at c0 c1 HCO
  clear hc g0 g1 hcl
  have e0 : wr.cell? ⟨S, 0, none⟩ = some (.slice ad nd cd) := by rw [HB.out.cell (p := ⟨S, 0, none⟩) HN1.out.1]; exact HE.out.1
  have e1 : wr.cell? ⟨S, 1, none⟩ = some (.slice ai ni ci) := by rw [HB.out.cell (p := ⟨S, 1, none⟩) HN1.out.1]; exact HE.out.2.1
  have e2 : wr.cell? ⟨S, 2, none⟩ = some (.slice an nn cn) := by rw [HB.out.cell (p := ⟨S, 2, none⟩) HN1.out.1]; exact HE.out.2.2.1
  have e3 : wr.cell? ⟨S, 3, none⟩ = some (.slice av nv cv) := by rw [HB.out.cell (p := ⟨S, 3, none⟩) HN1.out.1]; exact HE.out.2.2.2
  have hSw : S < wr.heap.size := Nat.lt_of_lt_of_le HN1.out.1 hsz
  go_upto_region 10 with fail
  have hw2 : Below N w0 (wr.alloc (.cells #[.int .i64 ck, .int .i64 cm] 61)) := HB.out.alloc hsz _
  have hk2 := Blk.new wr 61 #[.int .i64 ck, .int .i64 cm]
  have hz2 : N ≤ (wr.alloc (.cells #[.int .i64 ck, .int .i64 cm] 61)).heap.size := HSZ.out _ hw2
  have HOW1 : Hid ((wr.alloc (.cells #[.int .i64 ck, .int .i64 cm] 61)).ownsRow N 9 1 u7 j ((q.cols.take j).map fun c => Value.string (btS (colL (measN s) c)))) := Lib.hid (World.ownsRow.alloc HOW.out _)
  clear c0 c1 e0 e1 e2 e3 hSw
  generalize (wr.alloc (.cells #[.int .i64 ck, .int .i64 cm] 61)) = w2 at *
  generalize wr.heap.size = T at hk2 hsz ⊢
  have HB2 := Lib.hid hw2
  have f0 : w2.cell? ⟨T, 0, none⟩ = some (.int .i64 ck) := hk2.cell 0
  have f1 : w2.cell? ⟨T, 1, none⟩ = some (.int .i64 cm) := hk2.cell 1
  have e0 : w2.cell? ⟨S, 0, none⟩ = some (.slice ad nd cd) := by rw [HB2.out.cell (p := ⟨S, 0, none⟩) HN1.out.1]; exact HE.out.1
  have e1 : w2.cell? ⟨S, 1, none⟩ = some (.slice ai ni ci) := by rw [HB2.out.cell (p := ⟨S, 1, none⟩) HN1.out.1]; exact HE.out.2.1
  have e2 : w2.cell? ⟨S, 2, none⟩ = some (.slice an nn cn) := by rw [HB2.out.cell (p := ⟨S, 2, none⟩) HN1.out.1]; exact HE.out.2.2.1
  have e3 : w2.cell? ⟨S, 3, none⟩ = some (.slice av nv cv) := by rw [HB2.out.cell (p := ⟨S, 3, none⟩) HN1.out.1]; exact HE.out.2.2.2
  obtain ⟨L0, hL0⟩ : ∃ L, ((q.cols.take j).map fun c => Value.string (btS (colL (measN s) c))) = L := ⟨_, rfl⟩
  rw [hL0] at HTK HOW1
  clear hw2 hk2 hL0 HOW
  go_wp2_with fail
  refine (pcolumn_any w2 ⟨ad, nd, cd, ai, ni, ci, an, nn, cn, av, nv, cv⟩ s (HSO.out _ HB2.out) OK.out.hs ck cm HCO.out).mono ?_
  rintro e w3 ⟨rfl, hb3⟩
  obtain ⟨X, hX⟩ : ∃ X, btS (colL (measN s) (ck, cm)) = X := ⟨_, rfl⟩
  rw [hX] at HTK ⊢
  clear hX
  have HB3 := Lib.hid (HB2.out.trans (hb3.mono hz2))
  have hz3 : N ≤ w3.heap.size := HSZ.out _ HB3.out
  have HOW3 := Lib.hid (own_below HOW1.out hb3 (Nat.le_refl _))
  clear hb3 f0 f1 e0 e1 e2 e3 HOW1
  go_wp2_with (at_builtin; refine wpList_append_oneG (z := .string ByteArray.empty) (sz := 1) (bytes := 16) info_string rfl (by decide) Tryd.underlying23 rfl _ _ rfl w3 _ #[.string X] N u7 j L0 w3.heap.size rfl rfl rfl rfl HOW3.out (fun u hu => by simp at hu; subst hu; rfl) (by omega) (by unfold maxLen; omega) hz3 ?_)
  intro v' w' h2 h3 h4
  have HOW4 : Hid (w'.ownsRow N 9 1 v' (j + 1) ((q.cols.take (j + 1)).map fun c => Value.string (btS (colL (measN s) c)))) := Lib.hid (by rw [HTK.out]; exact h2)
  have HB4 := Lib.hid (h4 w0 HB3.out)
  clear h2 h3 h4
  go_wp2_with fail
  go_roundg (nc - j - 1)
  case measure => have := HQQ.out; omega
  case rel => exact ⟨j + 1, by go_num, by have := HQQ.out; omega, HOW4.out, HB4.out⟩
 case neg =>
 obtain rfl : nc = j := by have := HQQ.out; omega
 have hown := HOW.out
 rw [List.take_of_length_le (by rw [HLN.out.2.2.1]; exact Nat.le_refl _), join_take] at hown
 obtain ⟨a3, c3, rfl⟩ := own_form hown
 have hjl : (Lib.join (q.cols.map (colL (measN s))) cmB).length ≤ 672 := join_le (K := 40) (N := 16) (fun x hx => by
  obtain ⟨c, -, rfl⟩ := List.mem_map.1 hx
  exact colL_le OK.out.hs c) (by rw [List.length_map, HLN.out.2.2.1]; exact hc16)
 have HJN := Lib.hid (join_own ⟨#[44, 32]⟩ hown (by show (Lib.join (q.cols.map (colL (measN s))) cmB).length ≤ _; omega) (by rw [List.length_map, HLN.out.2.2.1]; omega))
 obtain ⟨J1, hJ1⟩ : ∃ J, Lib.join (q.cols.map (colL (measN s))) cmB = J := ⟨_, rfl⟩
 have HJ1 := Lib.hid hJ1
 rw [hJ1] at hjl
 rw [show Lib.join (q.cols.map (colL (measN s))) (ByteArray.mk #[44, 32]).data.toList = J1 from hJ1] at HJN
 clear hown hJ1 HOW
 go_wp2_with fail
 refine HJN.out.mono ?_; rintro e w2 ⟨rfl, hb2⟩
 have HB2 := Lib.hid (HB.out.trans (hb2.mono hsz))
 clear hb2 HJN HB HQQ hsz hlt
 have hX : (btS J1).size ≤ 672 := by rw [btS_size]; exact hjl
 obtain ⟨X, hXX⟩ : ∃ X, btS J1 = X := ⟨_, rfl⟩
 have HO1 : Hid ((⟨#[115, 101, 108, 101, 99, 116, 32]⟩ : ByteArray) ++ X = btS (selB ++ J1) ∧ (selB ++ J1).length ≤ 1000) := Lib.hid ⟨by rw [← hXX]; exact btS_app selB J1, by rw [List.length_append]; have : selB.length = 7 := rfl; omega⟩
 rw [hXX] at hX ⊢
 clear hXX hjl
 go_upto_region 13 with fail
 rw [HO1.out.1]
 obtain ⟨O1, hO1⟩ : ∃ O, selB ++ J1 = O := ⟨_, rfl⟩
 have HOE1 : Hid (O1 = selB ++ J1 ∧ O1.length ≤ 1000) := Lib.hid ⟨hO1.symm, by rw [← hO1]; exact HO1.out.2⟩
 rw [hO1]
 clear hO1 HO1 hX
 have e0 : w2.cell? ⟨S, 0, none⟩ = some (.slice ad nd cd) := by rw [HB2.out.cell (p := ⟨S, 0, none⟩) HN1.out.1]; exact HE.out.1
 go_wp2_with fail
 clear e0
 go_loopg [8, 53] nd (fun g v iu wr => ∃ (j : Nat), iu = .int .i64 j ∧ j + g = nd ∧ wr.ownsRow N 9 1 v (gList gr.toNat j).length ((gList gr.toNat j).map fun d => Value.string (btS (gL (dimN s) d))) ∧ Below N w0 wr)
 case atStart => exact ⟨0, rfl, by omega, World.ownsRow_nil _ _ _ _, HB2.out⟩
 case round =>
 obtain ⟨i, rfl, hqq, hown, hb⟩ := hrel
 have HQQ := Lib.hid hqq
 have HOW := Lib.hid hown
 have HB := Lib.hid hb
 have hsz : N ≤ wr.heap.size := HSZ.out _ hb
 clear hqq hown hb
 by_cases hlt : i < nd
 case pos =>
  obtain ⟨b, off, e, hbl, hc⟩ := (HSO.out _ HB.out).1.at (by show 0 < nd; omega)
  simp only at e
  subst e
  have c0 := hc (i * 2) (by show i * 2 < nd * 2; omega)
  have c1 := hc (i * 2 + 1) (by show i * 2 + 1 < nd * 2; omega)
  obtain ⟨g0, g1⟩ := dimCells_get (ds := s.dims) (i := i) (by rw [HLN.out.1]; exact hlt)
  rw [g0] at c0
  rw [g1, ← Nat.add_assoc] at c1
  have HGS := Lib.hid (gList_succ gr.toNat i)
  have HNM : Hid (gL (dimN s) i = (dimAt s.dims i).1.data.toList) := Lib.hid (by
   unfold gL dimN dimAt
   rw [List.getD_eq_getElem?_getD, List.getElem?_map, List.getD_eq_getElem?_getD, List.getElem?_eq_getElem (by rw [HLN.out.1]; exact hlt)]
   rfl)
  obtain ⟨nm, hnm⟩ : ∃ x, (dimAt s.dims i).1 = x := ⟨_, rfl⟩
  obtain ⟨dz, hdz⟩ : ∃ x, (dimAt s.dims i).2 = x := ⟨_, rfl⟩
  rw [hnm] at c0 HNM
  rw [hdz] at c1
  clear hc g0 g1 hnm hdz
  have y0 : wr.cell? ⟨S + 1, 0, none⟩ = some (.int .u32 gr) := by rw [HB.out.cell (p := ⟨S + 1, 0, none⟩) HN1.out.2]; exact HY.out.1
  have hSw : S + 1 < wr.heap.size := Nat.lt_of_lt_of_le HN1.out.2 hsz
  go_upto_region 16 with fail
  have hw2 : Below N w0 (wr.alloc (.cells #[.string nm, .int .i64 dz] 59)) := HB.out.alloc hsz _
  have hk2 := Blk.new wr 59 #[.string nm, .int .i64 dz]
  have hz2 : N ≤ (wr.alloc (.cells #[.string nm, .int .i64 dz] 59)).heap.size := HSZ.out _ hw2
  have HOW1 : Hid ((wr.alloc (.cells #[.string nm, .int .i64 dz] 59)).ownsRow N 9 1 u8 (gList gr.toNat i).length ((gList gr.toNat i).map fun d => Value.string (btS (gL (dimN s) d)))) := Lib.hid (World.ownsRow.alloc HOW.out _)
  clear c0 c1 y0 hSw
  generalize (wr.alloc (.cells #[.string nm, .int .i64 dz] 59)) = w3 at *
  generalize wr.heap.size = T at hk2 hsz ⊢
  have HB3 := Lib.hid hw2
  have HK3 := Lib.hid hk2
  have y0 : w3.cell? ⟨S + 1, 0, none⟩ = some (.int .u32 gr) := by rw [HB3.out.cell (p := ⟨S + 1, 0, none⟩) HN1.out.2]; exact HY.out.1
  clear hw2 hk2 HOW
  go_upto_if 63 with fail
  have HBT := Lib.hid (gr_bit (i := i) gr0 gr1)
  have HGL := Lib.hid (gList_len gr.toNat i)
  by_cases hbit : gr.toNat / 2 ^ i % 2 = 1
  case pos =>
   have t1 : (bits BinOp.and IntKind.u32 (gr / 2 ^ i) 1 == 1) = true := by rw [HBT.out]; exact decide_eq_true hbit
   have HG2 : Hid (gList gr.toNat (i + 1) = gList gr.toNat i ++ [i]) := Lib.hid (by rw [HGS.out, if_pos hbit])
   have f0 : w3.cell? ⟨T, 0, none⟩ = some (.string nm) := HK3.out.cell 0
   obtain ⟨ng, hng⟩ : ∃ n, (gList gr.toNat i).length = n := ⟨_, rfl⟩
   obtain ⟨L0, hL0⟩ : ∃ L, ((gList gr.toNat i).map fun d => Value.string (btS (gL (dimN s) d))) = L := ⟨_, rfl⟩
   have HLL := Lib.hid (And.intro hng hL0)
   have hng6 : ng ≤ i := by rw [← hng]; exact HGL.out
   rw [hng, hL0] at HOW1
   clear hbit hng hL0 y0
   go_wp2_with (at_builtin; refine wpList_append_oneG (z := .string ByteArray.empty) (sz := 1) (bytes := 16) info_string rfl (by decide) Tryd.underlying23 rfl _ _ rfl w3 _ #[.string nm] N u8 ng L0 w3.heap.size rfl rfl rfl rfl HOW1.out (fun u hu => by simp at hu; subst hu; rfl) (by omega) (by unfold maxLen; omega) hz2 ?_)
   intro v' w' h2 h3 h4
   have HOW4 : Hid (w'.ownsRow N 9 1 v' (gList gr.toNat (i + 1)).length ((gList gr.toNat (i + 1)).map fun d => Value.string (btS (gL (dimN s) d)))) := Lib.hid (by
    rw [HG2.out, List.length_append, HLL.out.1, List.map_append, HLL.out.2]
    simp only [List.map_cons, List.map_nil]
    rw [HNM.out, btS_of]
    exact h2)
   have HB4 := Lib.hid (h4 w0 HB3.out)
   clear h2 h3 h4
   go_wp2_with fail
   go_roundg (nd - i - 1)
   case measure => have := HQQ.out; omega
   case rel => exact ⟨i + 1, by go_num, by have := HQQ.out; omega, HOW4.out, HB4.out⟩
  case neg =>
   have t1 : (bits BinOp.and IntKind.u32 (gr / 2 ^ i) 1 == 1) = false := by rw [HBT.out]; exact decide_eq_false hbit
   have HG2 : Hid (gList gr.toNat (i + 1) = gList gr.toNat i) := Lib.hid (by rw [HGS.out, if_neg hbit, List.append_nil])
   clear hbit y0
   go_wp2_with fail
   go_roundg (nd - i - 1)
   case measure => have := HQQ.out; omega
   case rel => exact ⟨i + 1, by go_num, by have := HQQ.out; omega, by rw [HG2.out]; exact HOW1.out, HB3.out⟩
 case neg =>
 obtain rfl : nd = i := by have := HQQ.out; omega
 have HGL := Lib.hid (gList_len gr.toNat nd)
 obtain ⟨ng, hng⟩ : ∃ n, (gList gr.toNat nd).length = n := ⟨_, rfl⟩
 have HNG := Lib.hid hng
 have hng6 : ng ≤ nd := by rw [← hng]; exact HGL.out
 rw [hng] at HOW
 clear hng
 obtain ⟨a8, c8, rfl⟩ := own_form HOW.out
 have hown := HOW.out
 rw [join_take] at hown
 have hpl : (partB byB cmB ((gList gr.toNat nd).map (gL (dimN s)))).length ≤ 1000 := part_le (K := 16) (N := 6) (fun x hx => by
  obtain ⟨d, -, rfl⟩ := List.mem_map.1 hx
  exact gL_le OK.out.hs d) (by rw [List.length_map]; rw [HNG.out]; omega) (by decide)
 obtain ⟨P2, hP⟩ : ∃ P, partB byB cmB ((gList gr.toNat nd).map (gL (dimN s))) = P := ⟨_, rfl⟩
 have HP2 := Lib.hid hP
 rw [hP] at hpl
 have HPL := Lib.hid hpl
 have HJN := Lib.hid (fun hl => join_own ⟨#[44, 32]⟩ hown hl (by rw [List.length_map]; rw [HNG.out]; omega))
 clear hown hP hpl HOW
 go_upto_if 72 with fail
 go_cut [13] (fun v wx => v = .string (btS (O1 ++ P2)) ∧ Below N w0 wx)
 case first =>
  by_cases h0 : ng = 0
  ·have t1 : ¬ 0 < ng := by omega
   have HPE : Hid (P2 = []) := Lib.hid (by rw [← HP2.out, show ((gList gr.toNat nd).map (gL (dimN s))) = [] from List.length_eq_zero_iff.1 (by rw [List.length_map]; rw [HNG.out]; exact h0), part_nil])
   clear h0
   go_wp2_with fail
   go_meet
   exact ⟨by rw [HPE.out, List.append_nil], HB.out⟩
  ·have t1 : 0 < ng := by omega
   have HPE : Hid (P2 = byB ++ Lib.join ((gList gr.toNat nd).map (gL (dimN s))) cmB) := Lib.hid (by rw [← HP2.out]; exact part_cons (fun h => h0 (by have h := congrArg List.length h; rw [List.length_map] at h; rw [HNG.out] at h; exact h)))
   have hjl : (Lib.join ((gList gr.toNat nd).map (gL (dimN s))) cmB).length ≤ 1000 := by have h := HPL.out; rw [HPE.out, List.length_append] at h; omega
   have HJ2 := Lib.hid (HJN.out (by show (Lib.join ((gList gr.toNat nd).map (gL (dimN s))) cmB).length ≤ _; omega))
   obtain ⟨J, hJ⟩ : ∃ J, Lib.join ((gList gr.toNat nd).map (gL (dimN s))) cmB = J := ⟨_, rfl⟩
   rw [hJ] at HPE hjl
   rw [show Lib.join ((gList gr.toNat nd).map (gL (dimN s))) (ByteArray.mk #[44, 32]).data.toList = J from hJ] at HJ2
   clear h0 hJ HJN
   go_wp2_with fail
   refine HJ2.out.mono ?_; rintro e w8 ⟨rfl, hb8⟩
   have HB8 := Lib.hid (HB.out.trans (hb8.mono hsz))
   have hX : (btS J).size ≤ 1000 := by rw [btS_size]; exact hjl
   have hY : (btS O1).size ≤ 1000 := by rw [btS_size]; exact HOE1.out.2
   clear hb8 HJ2
   go_wp2_with fail
   go_meet
   refine ⟨congrArg Value.string ?_, HB8.out⟩
   rw [HPE.out]
   exact (congrArg (fun z => btS O1 ++ z) (btS_app byB J)).trans (btS_app O1 (byB ++ J))
 case rest =>
 obtain ⟨rfl, hbr⟩ := hcut
 have HB2 := Lib.hid hbr
 clear hbr HJN HB HQQ hsz hlt
 obtain ⟨w2, rfl⟩ : ∃ x, x = wc := ⟨_, rfl⟩
 obtain ⟨O2, hO⟩ : ∃ O, O1 ++ P2 = O := ⟨_, rfl⟩
 have HOE2 : Hid (O2 = O1 ++ P2 ∧ O2.length ≤ 2000) := Lib.hid ⟨hO.symm, by have h1 := HOE1.out.2; have h2 := HPL.out; rw [← hO, List.length_append]; omega⟩
 rw [hO]
 clear hO HPL
 have y1 : w2.cell? ⟨S + 1, 1, none⟩ = some (.slice af nf cf) := by rw [HB2.out.cell (p := ⟨S + 1, 1, none⟩) HN1.out.2]; exact HY.out.2.1
 go_wp2_with fail
 clear y1
 go_loopg [9, 81] nf (fun g v iu wr => ∃ (j : Nat), iu = .int .i64 j ∧ j + g = nf ∧ wr.ownsRow N 9 1 v j ((q.flts.take j).map fun c => Value.string (btS (condL (dimN s) (c.dim, c.codes)))) ∧ Below N w0 wr)
 case atStart => exact ⟨0, rfl, by omega, World.ownsRow_nil _ _ _ _, HB2.out⟩
 case round =>
 obtain ⟨j, rfl, hqq, hown, hb⟩ := hrel
 have HQQ := Lib.hid hqq
 have HOW := Lib.hid hown
 have HB := Lib.hid hb
 have hsz : N ≤ wr.heap.size := HSZ.out _ hb
 clear hqq hown hb
 by_cases hlt : j < nf
 case pos =>
  have HFA := Lib.hid (HQO.out _ HB.out).1
  obtain ⟨b, off, e, hbl, hc⟩ := HFA.out.1.at (by show 0 < nf; omega)
  simp only at e
  subst e
  have c0 := hc (j * 2) (by show j * 2 < nf * 2; omega)
  have c1 := hc (j * 2 + 1) (by show j * 2 + 1 < nf * 2; omega)
  have hjl : j < q.flts.length := by rw [HLN.out.2.1]; exact hlt
  obtain ⟨g0, g1⟩ := fltCells_get (fs := q.flts) (i := j) hjl
  rw [g0] at c0
  rw [g1, ← Nat.add_assoc] at c1
  have HTK := Lib.hid (fltAt_take q.flts (fun c => Value.string (btS (condL (dimN s) (c.dim, c.codes)))) (i := j) hjl)
  have HM := Lib.hid (HFA.out.2.2 (fltAt q.flts j) (fltAt_mem hjl))
  have HDM := Lib.hid (OK.out.dim j hjl)
  have HCD := Lib.hid (OK.out.cod j hjl)
  have HNU := Lib.hid (OK.out.num j hjl)
  obtain ⟨⟨fd, fcs, ka, kn, kc⟩, hfl⟩ : ∃ f, fltAt q.flts j = f := ⟨_, rfl⟩
  rw [hfl] at c0 c1 HTK HM HDM HCD HNU
  simp only at c0 c1 HTK HM HDM HCD HNU
  have HNU2 : Hid (∀ n ∈ fcs, 0 ≤ n ∧ n ≤ 9223372036854775807) := Lib.hid (fun n hn => by
   obtain ⟨k, hk, e2⟩ := List.getElem_of_mem hn
   have h5 := HNU.out k hk
   rw [List.getD_eq_getElem?_getD, List.getElem?_eq_getElem hk, e2] at h5
   exact ⟨h5, (HM.out.2.2.2 n hn).2⟩)
  clear hc g0 g1 hfl hjl
  have e0 : wr.cell? ⟨S, 0, none⟩ = some (.slice ad nd cd) := by rw [HB.out.cell (p := ⟨S, 0, none⟩) HN1.out.1]; exact HE.out.1
  have e1 : wr.cell? ⟨S, 1, none⟩ = some (.slice ai ni ci) := by rw [HB.out.cell (p := ⟨S, 1, none⟩) HN1.out.1]; exact HE.out.2.1
  have e2 : wr.cell? ⟨S, 2, none⟩ = some (.slice an nn cn) := by rw [HB.out.cell (p := ⟨S, 2, none⟩) HN1.out.1]; exact HE.out.2.2.1
  have e3 : wr.cell? ⟨S, 3, none⟩ = some (.slice av nv cv) := by rw [HB.out.cell (p := ⟨S, 3, none⟩) HN1.out.1]; exact HE.out.2.2.2
  have hSw : S < wr.heap.size := Nat.lt_of_lt_of_le HN1.out.1 hsz
  go_upto_region 24 with fail
  have hw2 : Below N w0 (wr.alloc (.cells #[.int .i64 fd, .slice ka kn kc] 79)) := HB.out.alloc hsz _
  have hk2 := Blk.new wr 79 #[.int .i64 fd, .slice ka kn kc]
  have hz2 : N ≤ (wr.alloc (.cells #[.int .i64 fd, .slice ka kn kc] 79)).heap.size := HSZ.out _ hw2
  have HKC : Hid (RowK .i64 (wr.alloc (.cells #[.int .i64 fd, .slice ka kn kc] 79)) ka kn kc fcs) := Lib.hid (HM.out.1.below (Below.alloc (Below.refl _ _) (Nat.le_refl _) _) (Nat.le_refl _))
  have HOW1 : Hid ((wr.alloc (.cells #[.int .i64 fd, .slice ka kn kc] 79)).ownsRow N 9 1 u9 j ((q.flts.take j).map fun c => Value.string (btS (condL (dimN s) (c.dim, c.codes))))) := Lib.hid (World.ownsRow.alloc HOW.out _)
  clear c0 c1 e0 e1 e2 e3 hSw
  generalize (wr.alloc (.cells #[.int .i64 fd, .slice ka kn kc] 79)) = w3 at *
  generalize wr.heap.size = T at hk2 hsz ⊢
  have HB3 := Lib.hid hw2
  have f0 : w3.cell? ⟨T, 0, none⟩ = some (.int .i64 fd) := hk2.cell 0
  have f1 : w3.cell? ⟨T, 1, none⟩ = some (.slice ka kn kc) := hk2.cell 1
  have e0 : w3.cell? ⟨S, 0, none⟩ = some (.slice ad nd cd) := by rw [HB3.out.cell (p := ⟨S, 0, none⟩) HN1.out.1]; exact HE.out.1
  have e1 : w3.cell? ⟨S, 1, none⟩ = some (.slice ai ni ci) := by rw [HB3.out.cell (p := ⟨S, 1, none⟩) HN1.out.1]; exact HE.out.2.1
  have e2 : w3.cell? ⟨S, 2, none⟩ = some (.slice an nn cn) := by rw [HB3.out.cell (p := ⟨S, 2, none⟩) HN1.out.1]; exact HE.out.2.2.1
  have e3 : w3.cell? ⟨S, 3, none⟩ = some (.slice av nv cv) := by rw [HB3.out.cell (p := ⟨S, 3, none⟩) HN1.out.1]; exact HE.out.2.2.2
  obtain ⟨L0, hL0⟩ : ∃ L, ((q.flts.take j).map fun c => Value.string (btS (condL (dimN s) (c.dim, c.codes)))) = L := ⟨_, rfl⟩
  rw [hL0] at HTK HOW1
  clear hw2 hk2 hL0 HOW
  go_wp2_with fail
  refine (pcondn_any w3 ⟨ad, nd, cd, ai, ni, ci, an, nn, cn, av, nv, cv⟩ s (HSO.out _ HB3.out) OK.out.hs fd fcs ka kn kc HKC.out HDM.out HCD.out HNU2.out (fun v hv => HT.out v (HB3.out.trans (hv.mono hz2)))).mono ?_
  rintro e w4 ⟨rfl, hb4⟩
  obtain ⟨X, hX⟩ : ∃ X, btS (condL (dimN s) (fd, fcs)) = X := ⟨_, rfl⟩
  rw [hX] at HTK ⊢
  clear hX
  have HB4 := Lib.hid (HB3.out.trans (hb4.mono hz2))
  have hz4 : N ≤ w4.heap.size := HSZ.out _ HB4.out
  have HOW4 := Lib.hid (own_below HOW1.out hb4 (Nat.le_refl _))
  clear hb4 f0 f1 e0 e1 e2 e3 HOW1
  go_wp2_with (at_builtin; refine wpList_append_oneG (z := .string ByteArray.empty) (sz := 1) (bytes := 16) info_string rfl (by decide) Tryd.underlying23 rfl _ _ rfl w4 _ #[.string X] N u9 j L0 w4.heap.size rfl rfl rfl rfl HOW4.out (fun u hu => by simp at hu; subst hu; rfl) (by omega) (by unfold maxLen; omega) hz4 ?_)
  intro v' w' h2 h3 h4
  have HOW5 : Hid (w'.ownsRow N 9 1 v' (j + 1) ((q.flts.take (j + 1)).map fun c => Value.string (btS (condL (dimN s) (c.dim, c.codes))))) := Lib.hid (by rw [HTK.out]; exact h2)
  have HB5 := Lib.hid (h4 w0 HB4.out)
  clear h2 h3 h4
  go_wp2_with fail
  go_roundg (nf - j - 1)
  case measure => have := HQQ.out; omega
  case rel => exact ⟨j + 1, by go_num, by have := HQQ.out; omega, HOW5.out, HB5.out⟩
 case neg =>
 obtain rfl : nf = j := by have := HQQ.out; omega
 have HOW : Hid (wr.ownsRow N 9 1 u9 nf (q.flts.map fun c => Value.string (btS (condL (dimN s) (c.dim, c.codes))))) := Lib.hid (by
  have h := HOW.out
  rw [List.take_of_length_le (by rw [HLN.out.2.1]; exact Nat.le_refl _)] at h
  exact h)
 obtain ⟨a9, c9, rfl⟩ := own_form HOW.out
 have hown := HOW.out
 rw [join_take] at hown
 have hpl : (partB whB andB (q.flts.map fun c => condL (dimN s) (c.dim, c.codes))).length ≤ 3000000 := part_le (K := 100000) (N := 20) (fun x hx => by
  obtain ⟨f, hf, rfl⟩ := List.mem_map.1 hx
  obtain ⟨k, hk, e2⟩ := List.getElem_of_mem hf
  have e3 : fltAt q.flts k = f := by unfold fltAt; rw [List.getD_eq_getElem?_getD, List.getElem?_eq_getElem hk, e2]; rfl
  have h1 := OK.out.cod k hk
  have h2 := OK.out.num k hk
  rw [e3] at h1 h2
  refine condL_le OK.out.hs h1 (fun n hn => ?_)
  obtain ⟨k2, hk2, e4⟩ := List.getElem_of_mem hn
  have h5 := h2 k2 hk2
  rw [List.getD_eq_getElem?_getD, List.getElem?_eq_getElem hk2, e4] at h5
  exact ⟨h5, ((HQO.out _ HB.out).1.2.2 f hf).2.2.2 n hn |>.2⟩) (by rw [List.length_map]; rw [HLN.out.2.1]; omega) (by decide)
 obtain ⟨P3, hP⟩ : ∃ P, partB whB andB (q.flts.map fun c => condL (dimN s) (c.dim, c.codes)) = P := ⟨_, rfl⟩
 have HP3 := Lib.hid hP
 rw [hP] at hpl
 have HPL := Lib.hid hpl
 have HJN := Lib.hid (fun hl => join_own ⟨#[32, 97, 110, 100, 32]⟩ hown hl (by rw [List.length_map]; rw [HLN.out.2.1]; omega))
 clear hown hP hpl HOW
 go_upto_if 94 with fail
 go_cut [13] (fun v wx => v = .string (btS (O2 ++ P3)) ∧ Below N w0 wx)
 case first =>
  by_cases h0 : nf = 0
  ·have t1 : ¬ 0 < nf := by omega
   have HPE : Hid (P3 = []) := Lib.hid (by rw [← HP3.out, show (q.flts.map fun c => condL (dimN s) (c.dim, c.codes)) = [] from List.length_eq_zero_iff.1 (by rw [List.length_map]; rw [HLN.out.2.1]; exact h0), part_nil])
   clear h0
   go_wp2_with fail
   go_meet
   exact ⟨by rw [HPE.out, List.append_nil], HB.out⟩
  ·have t1 : 0 < nf := by omega
   have HPE : Hid (P3 = whB ++ Lib.join (q.flts.map fun c => condL (dimN s) (c.dim, c.codes)) andB) := Lib.hid (by rw [← HP3.out]; exact part_cons (fun h => h0 (by have h := congrArg List.length h; rw [List.length_map] at h; rw [HLN.out.2.1] at h; exact h)))
   have hjl : (Lib.join (q.flts.map fun c => condL (dimN s) (c.dim, c.codes)) andB).length ≤ 3000000 := by have h := HPL.out; rw [HPE.out, List.length_append] at h; omega
   have HJ2 := Lib.hid (HJN.out (by show (Lib.join (q.flts.map fun c => condL (dimN s) (c.dim, c.codes)) andB).length ≤ _; omega))
   obtain ⟨J, hJ⟩ : ∃ J, Lib.join (q.flts.map fun c => condL (dimN s) (c.dim, c.codes)) andB = J := ⟨_, rfl⟩
   rw [hJ] at HPE hjl
   rw [show Lib.join (q.flts.map fun c => condL (dimN s) (c.dim, c.codes)) (ByteArray.mk #[32, 97, 110, 100, 32]).data.toList = J from hJ] at HJ2
   clear h0 hJ HJN
   go_wp2_with fail
   refine HJ2.out.mono ?_; rintro e w8 ⟨rfl, hb8⟩
   have HB8 := Lib.hid (HB.out.trans (hb8.mono hsz))
   have hX : (btS J).size ≤ 3000000 := by rw [btS_size]; exact hjl
   have hY : (btS O2).size ≤ 2000 := by rw [btS_size]; exact HOE2.out.2
   clear hb8 HJ2
   go_wp2_with fail
   go_meet
   refine ⟨congrArg Value.string ?_, HB8.out⟩
   rw [HPE.out]
   exact (congrArg (fun z => btS O2 ++ z) (btS_app whB J)).trans (btS_app O2 (whB ++ J))
 case rest =>
 obtain ⟨rfl, hbr⟩ := hcut
 have HB3 := Lib.hid hbr
 clear hbr HJN HB HQQ hsz hlt
 obtain ⟨w3, rfl⟩ : ∃ x, x = wc := ⟨_, rfl⟩
 obtain ⟨O3, hO⟩ : ∃ O, O2 ++ P3 = O := ⟨_, rfl⟩
 have HOE3 : Hid (O3 = O2 ++ P3 ∧ O3.length ≤ 4000000) := Lib.hid ⟨hO.symm, by have h1 := HOE2.out.2; have h2 := HPL.out; rw [← hO, List.length_append]; omega⟩
 rw [hO]
 clear hO HPL
 have y3 : w3.cell? ⟨S + 1, 3, none⟩ = some (.slice ao no co) := by rw [HB3.out.cell (p := ⟨S + 1, 3, none⟩) HN1.out.2]; exact HY.out.2.2.2.1
 go_wp2_with fail
 clear y3
 go_loopg [10, 103] no (fun g v iu wr => ∃ (j : Nat), iu = .int .i64 j ∧ j + g = no ∧ wr.ownsRow N 9 1 v j ((q.ord.take j).map fun c => Value.string (btS (ordL c))) ∧ Below N w0 wr)
 case atStart => exact ⟨0, rfl, by omega, World.ownsRow_nil _ _ _ _, HB3.out⟩
 case round =>
 obtain ⟨j, rfl, hqq, hown, hb⟩ := hrel
 have HQQ := Lib.hid hqq
 have HOW := Lib.hid hown
 have HB := Lib.hid hb
 have hsz : N ≤ wr.heap.size := HSZ.out _ hb
 clear hqq hown hb
 by_cases hlt : j < no
 case pos =>
  have HFA := Lib.hid (HQO.out _ HB.out).2.2.2.1
  obtain ⟨b, off, e, hbl, hc⟩ := HFA.out.at (by show 0 < no; omega)
  simp only at e
  subst e
  have c0 := hc (j * 2) (by show j * 2 < no * 2; omega)
  have c1 := hc (j * 2 + 1) (by show j * 2 + 1 < no * 2; omega)
  have hjl : j < q.ord.length := by rw [HLN.out.2.2.2]; exact hlt
  obtain ⟨g0, g1⟩ := ordCells_get (ds := q.ord) (i := j) hjl
  rw [g0] at c0
  rw [g1, ← Nat.add_assoc] at c1
  have HTK := Lib.hid (ordAt_take q.ord (fun c => Value.string (btS (ordL c))) (i := j) hjl)
  obtain ⟨oc0, oc1⟩ := OK.out.ord j hjl
  obtain ⟨⟨oc, od⟩, hfl⟩ : ∃ f, ordAt q.ord j = f := ⟨_, rfl⟩
  rw [hfl] at c0 c1 HTK oc0 oc1
  simp only at c0 c1 HTK oc0 oc1
  clear hc g0 g1 hfl hjl
  go_upto_region 31 with fail
  have hw2 : Below N w0 (wr.alloc (.cells #[.int .i64 oc, .bool od] 90)) := HB.out.alloc hsz _
  have hk2 := Blk.new wr 90 #[.int .i64 oc, .bool od]
  have hz2 : N ≤ (wr.alloc (.cells #[.int .i64 oc, .bool od] 90)).heap.size := HSZ.out _ hw2
  have HOW1 : Hid ((wr.alloc (.cells #[.int .i64 oc, .bool od] 90)).ownsRow N 9 1 u10 j ((q.ord.take j).map fun c => Value.string (btS (ordL c)))) := Lib.hid (World.ownsRow.alloc HOW.out _)
  clear c0 c1
  generalize (wr.alloc (.cells #[.int .i64 oc, .bool od] 90)) = w5 at *
  generalize wr.heap.size = T at hk2 hsz ⊢
  have HB5 := Lib.hid hw2
  have HK5 := Lib.hid hk2
  have f0 : w5.cell? ⟨T, 0, none⟩ = some (.int .i64 oc) := hk2.cell 0
  obtain ⟨L0, hL0⟩ : ∃ L, ((q.ord.take j).map fun c => Value.string (btS (ordL c))) = L := ⟨_, rfl⟩
  rw [hL0] at HTK HOW1
  clear hw2 hk2 hL0 HOW
  go_wp2_with fail
  refine (sitoa_any (oc + 1) w5 (by omega) (by omega) (HT.out _ HB5.out)).mono ?_
  rintro e w6 ⟨rfl, hb6⟩
  have hil : (btS (Lib.itoa (oc + 1))).size ≤ 20 := by rw [btS_size]; exact itoa_le (by omega) (by omega)
  obtain ⟨Y, hY⟩ : ∃ X, btS (Lib.itoa (oc + 1)) = X := ⟨_, rfl⟩
  have HYY := Lib.hid hY
  rw [hY] at hil ⊢
  clear hY
  have HB6 := Lib.hid (HB5.out.trans (hb6.mono hz2))
  have hz6 : N ≤ w6.heap.size := HSZ.out _ HB6.out
  have HOW6 := Lib.hid (own_below HOW1.out hb6 (Nat.le_refl _))
  have HLT : Hid (T < w5.heap.size) := Lib.hid HK5.out.lt
  have f1 : w6.cell? ⟨T, 1, none⟩ = some (.bool od) := (HK5.out.below hb6 HLT.out).cell 1
  clear hb6 f0 HOW1
  rcases od with _ | _
  case false =>
   have HX : Hid (btS (ordL (oc, false)) = Y) := Lib.hid (by rw [ordL_up]; exact HYY.out)
   go_wp2_with (at_builtin; refine wpList_append_oneG (z := .string ByteArray.empty) (sz := 1) (bytes := 16) info_string rfl (by decide) Tryd.underlying23 rfl _ _ rfl w6 _ #[.string Y] N u10 j L0 w6.heap.size rfl rfl rfl rfl HOW6.out (fun u hu => by simp at hu; subst hu; rfl) (by omega) (by unfold maxLen; omega) hz6 ?_)
   intro v' w' h2 h3 h4
   have HOW7 : Hid (w'.ownsRow N 9 1 v' (j + 1) ((q.ord.take (j + 1)).map fun c => Value.string (btS (ordL c)))) := Lib.hid (by rw [HTK.out, HX.out]; exact h2)
   have HB7 := Lib.hid (h4 w0 HB6.out)
   clear h2 h3 h4
   go_wp2_with fail
   go_roundg (no - j - 1)
   case measure => have := HQQ.out; omega
   case rel => exact ⟨j + 1, by go_num, by have := HQQ.out; omega, HOW7.out, HB7.out⟩
  case true =>
   have HX : Hid (btS (ordL (oc, true)) = Y ++ ⟨#[32, 100, 101, 115, 99]⟩) := Lib.hid (by rw [ordL_dn, ← HYY.out]; exact (btS_app _ [32, 100, 101, 115, 99]).symm)
   go_upto_region 34 with fail
   obtain ⟨Z, hZ⟩ : ∃ Z, Y ++ (⟨#[32, 100, 101, 115, 99]⟩ : ByteArray) = Z := ⟨_, rfl⟩
   rw [hZ] at HX ⊢
   clear hZ
   go_wp2_with (at_builtin; refine wpList_append_oneG (z := .string ByteArray.empty) (sz := 1) (bytes := 16) info_string rfl (by decide) Tryd.underlying23 rfl _ _ rfl w6 _ #[.string Z] N u10 j L0 w6.heap.size rfl rfl rfl rfl HOW6.out (fun u hu => by simp at hu; subst hu; rfl) (by omega) (by unfold maxLen; omega) hz6 ?_)
   intro v' w' h2 h3 h4
   have HOW7 : Hid (w'.ownsRow N 9 1 v' (j + 1) ((q.ord.take (j + 1)).map fun c => Value.string (btS (ordL c)))) := Lib.hid (by rw [HTK.out, HX.out]; exact h2)
   have HB7 := Lib.hid (h4 w0 HB6.out)
   clear h2 h3 h4
   go_wp2_with fail
   go_roundg (no - j - 1)
   case measure => have := HQQ.out; omega
   case rel => exact ⟨j + 1, by go_num, by have := HQQ.out; omega, HOW7.out, HB7.out⟩
 case neg =>
 obtain rfl : no = j := by have := HQQ.out; omega
 have HOW : Hid (wr.ownsRow N 9 1 u10 no (q.ord.map fun c => Value.string (btS (ordL c)))) := Lib.hid (by
  have h := HOW.out
  rw [List.take_of_length_le (by rw [HLN.out.2.2.2]; exact Nat.le_refl _)] at h
  exact h)
 obtain ⟨a10, c10, rfl⟩ := own_form HOW.out
 have hown := HOW.out
 rw [join_take] at hown
 have hpl : (partB orB cmB (q.ord.map ordL)).length ≤ 1000 := part_le (K := 40) (N := 8) (fun x hx => by
  obtain ⟨f, hf, rfl⟩ := List.mem_map.1 hx
  obtain ⟨k, hk, e2⟩ := List.getElem_of_mem hf
  have e3 : ordAt q.ord k = f := by unfold ordAt; rw [List.getD_eq_getElem?_getD, List.getElem?_eq_getElem hk, e2]; rfl
  have h1 := OK.out.ord k hk
  rw [e3] at h1
  exact ordL_le h1.1 (by omega)) (by rw [List.length_map]; rw [HLN.out.2.2.2]; omega) (by decide)
 obtain ⟨P4, hP⟩ : ∃ P, partB orB cmB (q.ord.map ordL) = P := ⟨_, rfl⟩
 have HP4 := Lib.hid hP
 rw [hP] at hpl
 have HPL := Lib.hid hpl
 have HJN := Lib.hid (fun hl => join_own ⟨#[44, 32]⟩ hown hl (by rw [List.length_map]; rw [HLN.out.2.2.2]; omega))
 clear hown hP hpl HOW
 go_upto_if 122 with fail
 go_cut [13] (fun v wx => v = .string (btS (O3 ++ P4)) ∧ Below N w0 wx)
 case first =>
  by_cases h0 : no = 0
  ·have t1 : ¬ 0 < no := by omega
   have HPE : Hid (P4 = []) := Lib.hid (by rw [← HP4.out, show (q.ord.map ordL) = [] from List.length_eq_zero_iff.1 (by rw [List.length_map]; rw [HLN.out.2.2.2]; exact h0), part_nil])
   clear h0
   go_wp2_with fail
   go_meet
   exact ⟨by rw [HPE.out, List.append_nil], HB.out⟩
  ·have t1 : 0 < no := by omega
   have HPE : Hid (P4 = orB ++ Lib.join (q.ord.map ordL) cmB) := Lib.hid (by rw [← HP4.out]; exact part_cons (fun h => h0 (by have h := congrArg List.length h; rw [List.length_map] at h; rw [HLN.out.2.2.2] at h; exact h)))
   have hjl : (Lib.join (q.ord.map ordL) cmB).length ≤ 1000 := by have h := HPL.out; rw [HPE.out, List.length_append] at h; omega
   have HJ2 := Lib.hid (HJN.out (by show (Lib.join (q.ord.map ordL) cmB).length ≤ _; omega))
   obtain ⟨J, hJ⟩ : ∃ J, Lib.join (q.ord.map ordL) cmB = J := ⟨_, rfl⟩
   rw [hJ] at HPE hjl
   rw [show Lib.join (q.ord.map ordL) (ByteArray.mk #[44, 32]).data.toList = J from hJ] at HJ2
   clear h0 hJ HJN
   go_wp2_with fail
   refine HJ2.out.mono ?_; rintro e w8 ⟨rfl, hb8⟩
   have HB8 := Lib.hid (HB.out.trans (hb8.mono hsz))
   have hX : (btS J).size ≤ 1000 := by rw [btS_size]; exact hjl
   have hY : (btS O3).size ≤ 4000000 := by rw [btS_size]; exact HOE3.out.2
   clear hb8 HJ2
   go_wp2_with fail
   go_meet
   refine ⟨congrArg Value.string ?_, HB8.out⟩
   rw [HPE.out]
   exact (congrArg (fun z => btS O3 ++ z) (btS_app orB J)).trans (btS_app O3 (orB ++ J))
 case rest =>
 obtain ⟨rfl, hbr⟩ := hcut
 have HB4 := Lib.hid hbr
 clear hbr HJN HB HQQ hsz hlt
 obtain ⟨w4, rfl⟩ : ∃ x, x = wc := ⟨_, rfl⟩
 obtain ⟨O4, hO⟩ : ∃ O, O3 ++ P4 = O := ⟨_, rfl⟩
 have HOE4 : Hid (O4 = O3 ++ P4 ∧ O4.length ≤ 5000000) := Lib.hid ⟨hO.symm, by have h1 := HOE3.out.2; have h2 := HPL.out; rw [← hO, List.length_append]; omega⟩
 rw [hO]
 clear hO HPL
 have y4 : w4.cell? ⟨S + 1, 4, none⟩ = some (.int .i64 lm) := by rw [HB4.out.cell (p := ⟨S + 1, 4, none⟩) HN1.out.2]; exact HY.out.2.2.2.2
 obtain ⟨P5, hP5⟩ : ∃ P, limB lm = P := ⟨_, rfl⟩
 have HP5 := Lib.hid hP5
 have hpl : (limB lm).length ≤ 27 := limB_le lm1
 rw [hP5] at hpl
 have HPL := Lib.hid hpl
 clear hP5 hpl
 go_upto_if 130 with fail
 go_cut [13] (fun v wx => v = .string (btS (O4 ++ P5)) ∧ Below N w0 wx)
 case first =>
  by_cases h0 : 0 < lm
  ·have HPE : Hid (P5 = [32, 108, 105, 109, 105, 116, 32] ++ Lib.itoa lm) := Lib.hid (by rw [← HP5.out]; unfold limB; rw [if_pos h0])
   have hil : (btS (Lib.itoa lm)).size ≤ 20 := by rw [btS_size]; exact itoa_le (by omega) lm1
   have hY : (btS O4).size ≤ 5000000 := by rw [btS_size]; exact HOE4.out.2
   have hz4 : N ≤ w4.heap.size := HSZ.out _ HB4.out
   go_wp2_with fail
   refine (sitoa_any lm w4 (by omega) lm1 (HT.out _ HB4.out)).mono ?_
   rintro e w5 ⟨rfl, hb5⟩
   have HB5 := Lib.hid (HB4.out.trans (hb5.mono hz4))
   clear hb5
   go_wp2_with fail
   go_meet
   refine ⟨congrArg Value.string ?_, HB5.out⟩
   rw [HPE.out]
   exact (congrArg (fun z => btS O4 ++ z) (btS_app [32, 108, 105, 109, 105, 116, 32] (Lib.itoa lm))).trans (btS_app O4 ([32, 108, 105, 109, 105, 116, 32] ++ Lib.itoa lm))
  ·have HPE : Hid (P5 = []) := Lib.hid (by rw [← HP5.out]; unfold limB; rw [if_neg h0])
   go_wp2_with fail
   go_meet
   exact ⟨by rw [HPE.out, List.append_nil], HB4.out⟩
 case rest =>
 obtain ⟨rfl, hbr⟩ := hcut
 have HB5 := Lib.hid hbr
 clear hbr y4
 obtain ⟨w5, rfl⟩ : ∃ x, x = wc := ⟨_, rfl⟩
 obtain ⟨t, hO⟩ : ∃ t, btS (O4 ++ P5) = t := ⟨_, rfl⟩
 have HTX : Hid (showTx s q.qp = t) := Lib.hid (by
  rw [← hO, HOE4.out.1, HOE3.out.1, HOE2.out.1, HOE1.out.1]
  refine shw_tail HJ1.out (by rw [← HP2.out, ← HGR.out.1, ← HLN.out.1]; unfold dimN; rw [List.length_map]; rfl) (by rw [← HP3.out]; show partB whB andB ((q.flts.map fun f => (f.dim, f.codes)).map (condL (dimN s))) = _; rw [List.map_map]; rfl) HP4.out (by rw [← HP5.out, ← HGR.out.2]; rfl))
 have htl : t.size ≤ maxLen := by
  rw [← hO, btS_size, List.length_append]
  have h1 := HOE4.out.2
  have h2 := HPL.out
  unfold maxLen
  omega
 have HLX := Lib.hid (ltok_any t w5 htl)
 have hz5 : N ≤ w5.heap.size := HSZ.out _ HB5.out
 rw [hO]
 obtain ⟨R, hR⟩ : ∃ R, lexAll t = R := ⟨_, rfl⟩
 rw [hR] at HLX
 have HC : Hid (showS s q.qp = lxOut t R) := Lib.hid (by unfold showS; rw [if_neg (by rw [HKP.out]; decide), if_neg (Int.not_lt.2 HLM.out), HTX.out, hR])
 clear hO htl hR
 go_wp2_with fail
 refine HLX.out.mono ?_
 rintro e w6 (⟨l, v, rfl, rfl, -, hb6⟩ | ⟨a, er, rfl, her, rfl, hb6⟩)
 ·have HB6 := Lib.hid (HB5.out.trans (hb6.mono hz5))
  clear hb6 HLX
  go_wp2_with fail
  exact bodyPost_ret (v := .tuple #[.string t, .int .i64 0]) (by simp [results, Tryd.results18, go_sem]) rfl (RShow.mk HC.out HSS.out HBW.out HN1.out.1 HB6.out)
 ·have HB6 := Lib.hid (HB5.out.trans (hb6.mono hz5))
  have t1 : (er != 0) = true := by rw [bne_iff_ne]; exact her
  clear hb6 HLX her
  go_wp2_with fail
  exact bodyPost_ret (v := .tuple #[.string ⟨#[]⟩, .int .i64 4]) (by simp [results, Tryd.results18, go_sem]) rfl (RShow.mk HC.out HSS.out HBW.out HN1.out.1 HB6.out)
end Go.Proofs.YtkojcamlllenkaaDoor
