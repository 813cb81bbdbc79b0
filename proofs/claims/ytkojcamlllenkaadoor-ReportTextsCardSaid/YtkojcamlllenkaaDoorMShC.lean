/- Contracts of Go's library at this program lie in the text ShlfRR. No conditions. -/
import Derived.Test.YtkojcamlllenkaaDoorShlfRR
import Derived.Test.YtkojcamlllenkaaDoorMShB
namespace Go.Proofs.YtkojcamlllenkaaDoor
end Go.Proofs.YtkojcamlllenkaaDoor
/- The contract of package show's condition. Conditions: those stated; the library's table of powers of ten is as the row lists it. -/
namespace Go.Proofs.YtkojcamlllenkaaDoor
open Go.RowKit

/-- the library's table is as its initialiser lays it -/
def TabS (w : World) : Prop := Lib.TabIs Tryd.prog w "internal/strconv.uint64pow10" .u64 Lib.pow10Tab
theorem grow_bel (w : World) (k : Nat) (os : Array Obj) : Below w.heap.size w (Sort.grow (w.drewN k) os) :=
 ⟨rfl, rfl, rfl, by show w.heap.size ≤ (w.heap ++ os).size; rw [Array.size_append]; omega, fun j hj => by
  show (w.heap ++ os)[j]? = w.heap[j]?
  exact Array.getElem?_append_left hj⟩
theorem sitoa_any (x : Int) (w : World) (h0 : -9223372036854775808 ≤ x) (h1 : x ≤ 9223372036854775807) (ht : TabS w) : Calls Tryd.prog 25 #[.int .i64 x] w fun e w' => e = .returned (.string (btS (Lib.itoa x))) ∧ Below w.heap.size w w' := by
 refine (Tryd.strconv_Itoa x h0 h1 w ht).mono ?_
 rintro e w' ⟨rfl, k, os, rfl⟩
 exact ⟨rfl, grow_bel w k os⟩
theorem join_own {w : World} {B n c : Nat} {e : TypeId} {a : Option Addr} {xs : List (List UInt8)} (sep : ByteArray) (h : w.ownsRow B e 1 (.slice a n c) n (xs.map fun x => Value.string (btS x))) (hl : (Lib.join xs sep.data.toList).length ≤ 140737488355328) (hn : xs.length ≤ 140737488355328) :
  Calls Tryd.prog 20 #[.slice a n c, .string sep] w fun e w' => e = .returned (.string (btS (Lib.join xs sep.data.toList))) ∧ Below w.heap.size w w' := by
 have hr := RowG.of_own h
 have hln : xs.length = n := by have := hr.1; rw [List.length_map] at this; omega
 by_cases h0 : n = 0
 ·subst h0
  obtain rfl := List.length_eq_zero_iff.1 hln
  refine (Tryd.strings_Join_none a c sep w).mono ?_
  rintro e w' ⟨rfl, rfl⟩
  exact ⟨rfl, Below.refl _ _⟩
 ·obtain ⟨b, off, rfl, hb, hc⟩ := hr.at (by omega)
  have hm : (xs.map btS).map (fun x => x.data.toList) = xs := by
   rw [List.map_map]
   exact (List.map_congr_left fun x _ => rfl).trans (List.map_id _)
  have hx : (xs.map btS).length = n := by rw [List.length_map]; exact hln
  have hj := Tryd.strings_Join b off c (xs.map btS) sep w (fun j x hj => by
   have hjn : j < n := by
    rcases Nat.lt_or_ge j n with h | h
    ·exact h
    ·rw [List.getElem?_eq_none (by omega)] at hj; cases hj
   rw [hc j (by omega), List.getD_eq_getElem?_getD]
   rw [List.getElem?_map] at hj ⊢
   cases hxj : xs[j]? with
   | none => rw [hxj] at hj; cases hj
   | some y => rw [hxj] at hj; injection hj with hj; subst hj; rfl) hb (by rw [hx]; omega) (by rw [hx]; exact hr.2.1) (by rw [hm]; exact hl)
  rw [hx, hm] at hj
  exact hj
theorem take_map {α : Type} (f : α → Value) (l : List α) (d : α) {i : Nat} (h : i < l.length) : (l.take (i + 1)).map f = (l.take i).map f ++ [f (l.getD i d)] := by
 rw [List.take_add_one, List.getElem?_eq_getElem h, List.map_append, List.getD_eq_getElem?_getD, List.getElem?_eq_getElem h]
 rfl

set_option maxRecDepth 100000 in
set_option maxHeartbeats 4000000 in
theorem pcondn_any (w : World) (l : SchL) (s : Sch) (h : SchAt w l s) (hs : chkS s = 0) (d : Int) (cs : List Int) (ka : Option Addr) (kn kc : Nat) (hk : RowK .i64 w ka kn kc cs) (hd : 0 ≤ d ∧ d < s.dims.length) (hl : cs.length ≤ 4096) (hc : ∀ n ∈ cs, 0 ≤ n ∧ n ≤ 9223372036854775807)
  (ht : ∀ w', Below w.heap.size w w' → TabS w') :
  Calls Tryd.prog 37 #[l.val, .agg #[.int .i64 d, .slice ka kn kc]] w fun e w' => e = .returned (.string (btS (condL (dimN s) (d, cs)))) ∧ Below w.heap.size w w' := by
 obtain ⟨ad, nd, cd, ai, ni, ci, an, nn, cn, av, nv, cv⟩ := l
 have ld : s.dims.length = nd := h.2.1
 rw [ld] at hd
 obtain ⟨hbx, hby, hbw, hsz⟩ := two_pbox w 26 79 #[.slice ad nd cd, .slice ai ni ci, .slice an nn cn, .slice av nv cv] #[.int .i64 d, .slice ka kn kc]
 have HS := Lib.hid (h.below hbw (Nat.le_refl _))
 have HK := Lib.hid (hk.below hbw (Nat.le_refl _))
 have HBW := Lib.hid hbw
 have e0 := hbx 0
 have y0 := hby 0
 have y1 := hby 1
 simp only [List.getElem?_toArray, List.getElem?_cons_zero, List.getElem?_cons_succ] at e0 y0 y1
 obtain ⟨N, hN⟩ : ∃ N, ((w.alloc (.cells #[.slice ad nd cd, .slice ai ni ci, .slice an nn cn, .slice av nv cv] 26)).alloc (.cells #[.int .i64 d, .slice ka kn kc] 79)).heap.size = N := ⟨_, rfl⟩
 have HN1 : Hid (w.heap.size < N ∧ w.heap.size + 1 < N) := Lib.hid (by rw [← hN, hsz]; omega)
 have HT : Hid (∀ v, Below N ((w.alloc (.cells #[.slice ad nd cd, .slice ai ni ci, .slice an nn cn, .slice av nv cv] 26)).alloc (.cells #[.int .i64 d, .slice ka kn kc] 79)) v → TabS v) := Lib.hid (fun v hv => ht v (hbw.trans (hv.mono (by rw [← hN, hsz]; omega))))
 have HC := Lib.hid hc
 clear h hbw hbx hby hsz hk ht hc
 obtain ⟨i, rfl⟩ : ∃ i : Nat, d = (i : Int) := ⟨d.toNat, by omega⟩
 have hi : i < nd := by omega
 have HIN := Lib.hid hi
 obtain ⟨b, off, e, hbl, hcc⟩ := (HS.out.1).at (by show 0 < nd; omega)
 simp only at e
 subst e
 have c0 := hcc (i * 2) (by show i * 2 < nd * 2; omega)
 obtain ⟨g0, -⟩ := dimCells_get (ds := s.dims) (i := i) (by omega)
 rw [g0] at c0
 have hdn : (dimN s).getD i ByteArray.empty = (dimAt s.dims i).1 := by
  unfold dimN dimAt
  rw [List.getD_eq_getElem?_getD, List.getElem?_map, List.getD_eq_getElem?_getD, List.getElem?_eq_getElem (by omega)]
  rfl
 have hnm : (dimAt s.dims i).1.size ≤ 16 := by rw [← hdn]; exact dim_le hs i
 obtain ⟨nm, hnn⟩ : ∃ x, (dimAt s.dims i).1 = x := ⟨_, rfl⟩
 rw [hnn] at c0 hdn hnm
 have HD := Lib.hid hdn
 have mk : kn ≤ 9223372036854775807 := by have h1 := HK.out.2.1; have h2 := HK.out.2.2.1; unfold maxLen at h2; omega
 have lc : cs.length = kn := HK.out.1
 have HLC := Lib.hid lc
 rw [lc] at hl
 have HY1 := Lib.hid y1
 clear hcc hnn hdn hd ld hs g0 lc
 unfold SchL.val
 go_enter Tryd.func37, Tryd.ntmps37
 go_upto_region 1 with fail
 generalize ((w.alloc (.cells #[.slice (some ⟨b, off, none⟩) nd cd, .slice ai ni ci, .slice an nn cn, .slice av nv cv] 26)).alloc (.cells #[.int .i64 i, .slice ka kn kc] 79)) = w0 at *
 generalize hS : w.heap.size = S at *
 have HSS := Lib.hid hS
 have HN := Lib.hid hN
 clear hS hN
 by_cases h1 : kn = 1
 ·subst h1
  obtain ⟨x, rfl⟩ := List.length_eq_one_iff.1 HLC.out
  obtain ⟨kb, ko, rfl, hkl, hkc⟩ := rowk_at HK.out (by omega)
  have k0 : w0.cell? ⟨kb, ko, none⟩ = some (.int .i64 x) := hkc 0 (by omega)
  have hx := HC.out x (by simp)
  obtain ⟨hx0, hx1⟩ := hx
  have hil : (btS (Lib.itoa x)).size ≤ 20 := by rw [btS_size]; exact itoa_le hx0 hx1
  clear hkc
  go_wp2_with fail
  refine (sitoa_any x _ (by omega) hx1 (HT.out _ (Below.refl _ _))).mono ?_; rintro e w1 ⟨rfl, hb1⟩
  rw [HN.out] at hb1
  obtain ⟨T, hT⟩ : ∃ T, btS (Lib.itoa x) = T := ⟨_, rfl⟩
  have HTT := Lib.hid hT
  rw [hT] at hil ⊢
  clear hT
  have HB1 := Lib.hid hb1
  clear hb1
  go_wp2_with fail
  go_ret
  refine ⟨ret_st ?_, ?_⟩
  ·apply bt_eq
   rw [condL_one, dl_app, dl_app, ← HTT.out, Int.toNat_natCast, HD.out]
   simp only [List.append_assoc]
   rfl
  ·rw [HSS.out]; exact HBW.out.trans (HB1.out.mono (Nat.le_of_lt HN1.out.1))
 ·have t1 : ((kn : Int) == 1) = false := by simp; omega
  have HK1 : Hid (cs.length ≠ 1) := Lib.hid (by rw [HLC.out]; exact h1)
  clear h1
  go_wp2_with fail
  clear t1 y1 e0 c0
  go_loopg [6, 31] kn (fun q v iu wr => ∃ (j : Nat), iu = .int .i64 j ∧ j + q = kn ∧ wr.ownsRow N 9 1 v j ((cs.take j).map fun n => Value.string (btS (Lib.itoa n))) ∧ Below N w0 wr)
  case atStart => exact ⟨0, rfl, by omega, World.ownsRow_nil _ _ _ _, Below.refl _ _⟩
  case round =>
   obtain ⟨j, rfl, hq, hown, hb⟩ := hrel
   have HQ := Lib.hid hq
   have HOW := Lib.hid hown
   have HB := Lib.hid hb
   have hsz : N ≤ wr.heap.size := by have := hb.size; rw [HN.out] at this; exact this
   clear hq hown hb
   by_cases hlt : j < kn
   ·obtain ⟨kb, ko, rfl, hkl, hkc⟩ := rowk_at (HK.out.below HB.out (Nat.le_of_eq HN.out)) (by omega)
    have k0 := hkc j hlt
    have hx := HC.out (cs.getD j 0) (geti_mem (by rw [HLC.out]; exact hlt))
    have HTK := Lib.hid (take_map (fun n => Value.string (btS (Lib.itoa n))) cs 0 (i := j) (by rw [HLC.out]; exact hlt))
    obtain ⟨x, hxx⟩ : ∃ x, cs.getD j 0 = x := ⟨_, rfl⟩
    rw [hxx] at k0 hx HTK
    obtain ⟨hx0, hx1⟩ := hx
    clear hkc hxx
    go_wp2_with fail
    refine (sitoa_any x _ (by omega) hx1 (HT.out _ HB.out)).mono ?_; rintro e w1 ⟨rfl, hb1⟩
    obtain ⟨T, hT⟩ : ∃ T, btS (Lib.itoa x) = T := ⟨_, rfl⟩
    rw [hT] at HTK ⊢
    clear hT
    have HB1 := Lib.hid (HB.out.trans (hb1.mono hsz))
    have hsz1 : N ≤ w1.heap.size := Nat.le_trans hsz hb1.size
    have HOW1 := Lib.hid (own_below HOW.out hb1 (Nat.le_refl _))
    obtain ⟨L0, hL0⟩ : ∃ L, ((cs.take j).map fun n => Value.string (btS (Lib.itoa n))) = L := ⟨_, rfl⟩
    rw [hL0] at HTK HOW1
    clear hb1 hL0 HOW k0 hkl hx0 hx1
    go_wp2_with (at_builtin; refine wpList_append_oneG (z := .string ByteArray.empty) (sz := 1) (bytes := 16) info_string rfl (by decide) Tryd.underlying23 rfl _ _ rfl w1 _ #[.string T] N u6 j L0 w1.heap.size rfl rfl rfl rfl HOW1.out (fun u hu => by simp at hu; subst hu; rfl) (by omega) (by unfold maxLen; omega) hsz1 ?_)
    intro v' w' h2 h3 h4
    have HOW2 : Hid (w'.ownsRow N 9 1 v' (j + 1) ((cs.take (j + 1)).map fun n => Value.string (btS (Lib.itoa n)))) := Lib.hid (by rw [HTK.out]; exact h2)
    have HB2 := Lib.hid (h4 w0 HB1.out)
    clear h2 h3 h4
    go_wp2_with fail
    go_roundg (kn - j - 1)
    case measure => have := HQ.out; omega
    case rel => exact ⟨j + 1, by go_num, by have := HQ.out; omega, HOW2.out, HB2.out⟩
   ·obtain rfl : j = kn := by have := HQ.out; omega
    have hown := HOW.out
    rw [List.take_of_length_le (by rw [HLC.out]; exact Nat.le_refl _), show (cs.map fun n => Value.string (btS (Lib.itoa n))) = (cs.map Lib.itoa).map (fun x => Value.string (btS x)) from by rw [List.map_map]; rfl] at hown
    obtain ⟨a3, c3, rfl⟩ := own_form hown
    have hjl := codesJ_le (by rw [HLC.out]; exact hl) HC.out
    have HJN := Lib.hid (join_own ⟨#[44, 32]⟩ hown (by show (Lib.join (cs.map Lib.itoa) cmB).length ≤ _; omega) (by rw [List.length_map, HLC.out]; omega))
    obtain ⟨T, hT⟩ : ∃ T, btS (Lib.join (cs.map Lib.itoa) cmB) = T := ⟨_, rfl⟩
    have hTl : T.size ≤ 90112 := by rw [← hT, btS_size]; exact hjl
    have HTT := Lib.hid hT
    clear hjl hown hT HOW
    go_wp2_with fail
    refine HJN.out.mono ?_; rintro e w1 ⟨rfl, hb1⟩
    rw [show btS (Lib.join (cs.map Lib.itoa) (ByteArray.mk #[44, 32]).data.toList) = T from HTT.out]
    have HB1 := Lib.hid (HB.out.trans (hb1.mono hsz))
    clear hb1 HJN
    go_wp2_with fail
    go_ret
    refine ⟨ret_st ?_, ?_⟩
    ·apply bt_eq
     rw [condL_many _ _ _ HK1.out, dl_app, dl_app, dl_app, ← HTT.out, Int.toNat_natCast, HD.out]
     simp only [List.append_assoc]
     rfl
    ·rw [HSS.out]; exact HBW.out.trans (HB1.out.mono (Nat.le_of_lt HN1.out.1))
end Go.Proofs.YtkojcamlllenkaaDoor
