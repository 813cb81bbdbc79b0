/- Contracts of Go's library at this program: laid by the kit's shelf, in plain words. No conditions but those stated. -/
import Derived.Test.YtaofjnidniekjaaGreatDoorProg
import Derived.Test.YtaofjnidniekjaaGreatDoorMShB
import Derived.Shelf.Strings.Builder1
import Derived.Shelf.Strings.Builder2
import Derived.Shelf.Strings.OnBuilder
import Derived.Shelf.Strings.BuilderF
import Derived.Shelf.Strings.BuilderK
import Derived.Shelf.Strings.Builder2Cap
import Derived.Shelf.Strconv.Itoa0
import Derived.Shelf.Strconv.Itoa1
import Derived.Shelf.LaysM
import Derived.Shelf.Strconv.Itoa2
import Derived.Shelf.Strconv.Itoa3
import Derived.Shelf.Strings.BuilderCap
namespace Go.Proofs.YtaofjnidniekjaaGreatDoor
open Go.Shelf
def Tryz.lays156_ren : Go.Shelf.Ren := ⟨fun | 156 => 18 | 165 => 33 | 166 => 34 | 169 => 35 | 240 => 74 | 241 => 75 | 276 => 91 | 277 => 92 | n => n, fun | 31 => 23 | 9 => 9 | 3 => 3 | 4 => 4 | 0 => 0 | 20 => 20 | 72 => 90 | 76 => 94 | 70 => 87 | 37 => 88 | 75 => 93 | 127 => 131 | 164 => 144 | 5 => 5 | 80 => 96 | n => n, fun | n => n⟩
theorem Tryz.lays156 : Go.Proofs.Lays.n156 Tryz.prog Tryz.lays156_ren := {
 mixed := by kernel_rfl
 f156 := Tryz.func18.trans (congrArg some (by kernel_rfl))
 f165 := Tryz.func33.trans (congrArg some (by kernel_rfl))
 f166 := Tryz.func34.trans (congrArg some (by kernel_rfl))
 f169 := Tryz.func35.trans (congrArg some (by kernel_rfl))
 f240 := Tryz.func74.trans (congrArg some (by kernel_rfl))
 f241 := Tryz.func75.trans (congrArg some (by kernel_rfl))
 f276 := Tryz.func91.trans (congrArg some (by kernel_rfl))
 f277 := Tryz.func92.trans (congrArg some (by kernel_rfl))
 t0 := Tryz.underlying0
 a0 := Tryz.isAgg0
 z0 := Tryz.sizeOf0
 v0 := Tryz.zeroValue0
 t3 := Tryz.underlying3
 a3 := Tryz.isAgg3
 z3 := Tryz.sizeOf3
 v3 := Tryz.zeroValue3
 t4 := Tryz.underlying4
 a4 := Tryz.isAgg4
 z4 := Tryz.sizeOf4
 v4 := Tryz.zeroValue4
 t9 := Tryz.underlying9
 a9 := Tryz.isAgg9
 z9 := Tryz.sizeOf9
 v9 := Tryz.zeroValue9
 t20 := Tryz.underlying20
 a20 := Tryz.isAgg20
 z20 := Tryz.sizeOf20
 v20 := Tryz.zeroValue20
 t31 := Tryz.underlying23
 a31 := Tryz.isAgg23
 z31 := Tryz.sizeOf23
 v31 := Tryz.zeroValue23
 t37 := Tryz.underlying88
 a37 := Tryz.isAgg88
 z37 := Tryz.sizeOf88
 v37 := Tryz.zeroValue88
 t70 := Tryz.underlying87
 a70 := Tryz.isAgg87
 z70 := Tryz.sizeOf87
 v70 := Tryz.zeroValue87
 t72 := Tryz.underlying90
 a72 := Tryz.isAgg90
 z72 := Tryz.sizeOf90
 v72 := Tryz.zeroValue90
 t75 := Tryz.underlying93
 a75 := Tryz.isAgg93
 z75 := Tryz.sizeOf93
 v75 := Tryz.zeroValue93
 t76 := Tryz.underlying94
 a76 := Tryz.isAgg94
 z76 := Tryz.sizeOf94
 v76 := Tryz.zeroValue94
 t127 := Tryz.underlying131
 a127 := Tryz.isAgg131
 z127 := Tryz.sizeOf131
 v127 := Tryz.zeroValue131
 t164 := Tryz.underlying144
 a164 := Tryz.isAgg144
 z164 := Tryz.sizeOf144
 v164 := Tryz.zeroValue144 }
theorem Tryz.Builder_Extra_156 : Builder.Extra Tryz.prog Tryz.lays156_ren := {
 sizeBuilder := by kernel_rfl
 liesBuilder := by kernel_rfl
 t5 := Tryz.underlying5
 a5 := Tryz.isAgg5
 z5 := Tryz.sizeOf5
 v5 := Tryz.zeroValue5
 infoByte := by kernel_rfl
 cellsByte := by kernel_rfl
 sizeByte := by kernel_rfl
 neB5 := by decide }
open Go.RowKit in
/-- No element: the empty string; the world is as it was. (Whatever the slice's address and capacity: a nil slice too.) (LAID: no walk: one application.) -/
theorem Tryz.strings_Join_none (a : Option Addr) (c : Nat) (sep : ByteArray) (w : World) :
  Calls Tryz.prog 18 #[.slice a 0 c, .string sep] w fun e w' => e = .returned (.string ⟨#[]⟩) ∧ w' = w := Any.strings_Join_none Tryz.lays156 Tryz.Builder_Extra_156 a c sep w
open Go.RowKit in
/-- strings.Join: "Join concatenates the elements of its first argument to create a single string. The separator string sep is placed between elements in the resulting string.": HOWEVER MANY ELEMENTS. Below the heap's end the world is as it was. (LAID: no walk: one application.) -/
theorem Tryz.strings_Join (bk o c : Nat) (xs : List ByteArray) (sep : ByteArray) (w : World) (hcells : ∀ (j : Nat) x, xs[j]? = some x → w.cell? ⟨bk, o + j, none⟩ = some (.string x)) (hbk : bk < w.heap.size) (hN : xs.length ≤ 140737488355328) (hcap : xs.length ≤ c) (hlen : (Lib.join (xs.map (·.data.toList)) sep.data.toList).length ≤ 140737488355328) :
  Calls Tryz.prog 18 #[.slice (some ⟨bk, o, none⟩) xs.length c, .string sep] w fun e w' => e = .returned (.string ⟨(Lib.join (xs.map (·.data.toList)) sep.data.toList).toArray⟩) ∧ Below w.heap.size w w' := Any.strings_Join Tryz.lays156 Tryz.Builder_Extra_156 bk o c xs sep w hcells hbk hN hcap hlen
def Tryz.laysM171_ren : Go.Shelf.Ren := ⟨fun | 171 => 20 | 243 => 36 | 246 => 76 | 283 => 93 | 284 => 94 | 285 => 95 | 286 => 96 | 129 => 108 | 317 => 107 | 318 => 109 | 319 => 110 | 320 => 111 | 337 => 119 | 338 => 120 | n => n, fun | 3 => 3 | 9 => 9 | 2 => 2 | 4 => 4 | 171 => 147 | 0 => 0 | 53 => 148 | 37 => 88 | 5 => 5 | 173 => 151 | 212 => 160 | 51 => 27 | 20 => 20 | 213 => 161 | 46 => 163 | 232 => 172 | 233 => 173 | n => n, fun | 17 => 1 | 18 => 2 | 19 => 3 | n => n⟩
theorem Tryz.laysM171 : Go.Proofs.LaysM.n171 Tryz.prog Tryz.laysM171_ren := {
 mixed := by kernel_rfl
 f129 := Tryz.func108.trans (congrArg some (by kernel_rfl))
 f171 := Tryz.func20.trans (congrArg some (by kernel_rfl))
 f243 := Tryz.func36.trans (congrArg some (by kernel_rfl))
 f246 := Tryz.func76.trans (congrArg some (by kernel_rfl))
 f283 := Tryz.func93.trans (congrArg some (by kernel_rfl))
 f284 := Tryz.func94.trans (congrArg some (by kernel_rfl))
 f285 := Tryz.func95.trans (congrArg some (by kernel_rfl))
 f286 := Tryz.func96.trans (congrArg some (by kernel_rfl))
 f317 := Tryz.func107.trans (congrArg some (by kernel_rfl))
 f318 := Tryz.func109.trans (congrArg some (by kernel_rfl))
 f319 := Tryz.func110.trans (congrArg some (by kernel_rfl))
 f320 := Tryz.func111.trans (congrArg some (by kernel_rfl))
 f337 := Tryz.func119.trans (congrArg some (by kernel_rfl))
 f338 := Tryz.func120.trans (congrArg some (by kernel_rfl))
 t0 := Tryz.underlying0
 a0 := Tryz.isAgg0
 z0 := Tryz.sizeOf0
 v0 := Tryz.zeroValue0
 t2 := Tryz.underlying2
 a2 := Tryz.isAgg2
 z2 := Tryz.sizeOf2
 v2 := Tryz.zeroValue2
 t3 := Tryz.underlying3
 a3 := Tryz.isAgg3
 z3 := Tryz.sizeOf3
 v3 := Tryz.zeroValue3
 t4 := Tryz.underlying4
 a4 := Tryz.isAgg4
 z4 := Tryz.sizeOf4
 v4 := Tryz.zeroValue4
 t5 := Tryz.underlying5
 a5 := Tryz.isAgg5
 z5 := Tryz.sizeOf5
 v5 := Tryz.zeroValue5
 t9 := Tryz.underlying9
 a9 := Tryz.isAgg9
 z9 := Tryz.sizeOf9
 v9 := Tryz.zeroValue9
 t20 := Tryz.underlying20
 a20 := Tryz.isAgg20
 z20 := Tryz.sizeOf20
 v20 := Tryz.zeroValue20
 t37 := Tryz.underlying88
 a37 := Tryz.isAgg88
 z37 := Tryz.sizeOf88
 v37 := Tryz.zeroValue88
 t46 := Tryz.underlying163
 a46 := Tryz.isAgg163
 z46 := Tryz.sizeOf163
 v46 := Tryz.zeroValue163
 t51 := Tryz.underlying27
 a51 := Tryz.isAgg27
 z51 := Tryz.sizeOf27
 v51 := Tryz.zeroValue27
 t53 := Tryz.underlying148
 a53 := Tryz.isAgg148
 z53 := Tryz.sizeOf148
 v53 := Tryz.zeroValue148
 t171 := Tryz.underlying147
 a171 := Tryz.isAgg147
 z171 := Tryz.sizeOf147
 v171 := Tryz.zeroValue147
 t173 := Tryz.underlying151
 a173 := Tryz.isAgg151
 z173 := Tryz.sizeOf151
 v173 := Tryz.zeroValue151
 t212 := Tryz.underlying160
 a212 := Tryz.isAgg160
 z212 := Tryz.sizeOf160
 v212 := Tryz.zeroValue160
 t213 := Tryz.underlying161
 a213 := Tryz.isAgg161
 z213 := Tryz.sizeOf161
 t232 := Tryz.underlying172
 a232 := Tryz.isAgg172
 z232 := Tryz.sizeOf172
 v232 := Tryz.zeroValue172
 t233 := Tryz.underlying173
 a233 := Tryz.isAgg173
 z233 := Tryz.sizeOf173
 v233 := Tryz.zeroValue173
 g17 := by kernel_rfl
 g18 := by kernel_rfl
 g19 := by kernel_rfl
 i0 := by kernel_rfl
 i2 := by kernel_rfl
 i3 := by kernel_rfl
 i4 := by kernel_rfl
 i5 := by kernel_rfl
 i9 := by kernel_rfl
 i20 := by kernel_rfl
 i37 := by kernel_rfl
 i46 := by kernel_rfl
 i51 := by kernel_rfl
 i53 := by kernel_rfl
 i171 := by kernel_rfl
 i173 := by kernel_rfl
 i212 := by kernel_rfl
 i232 := by kernel_rfl
 i233 := by kernel_rfl
 m17 := by kernel_rfl
 m18 := by kernel_rfl
 m19 := by kernel_rfl }
open Go.RowKit Go.Sort Go.Lib in
/-- strconv.Itoa: "Itoa is equivalent to FormatInt(int64(i), 10).": i's DECIMAL NUMERAL ('Lib.itoa': a '-' where i is negative, then the digits), FOR EVERY int. The world behind the call: the world before it, new blocks behind the heap (the library's 'var a [24]byte'), draws. (LAID: no walk: one application.) -/
theorem Tryz.strconv_Itoa (n : Int) (h0 : -9223372036854775808 ≤ n) (h1 : n ≤ 9223372036854775807) (w : World) (htab : Lib.TabIs Tryz.prog w "internal/strconv.uint64pow10" .u64 Lib.pow10Tab) :
  Calls Tryz.prog 20 #[.int .i64 n] w fun e w' => e = .returned (.string ⟨(Lib.itoa n).toArray⟩) ∧ ∃ k os, w' = grow (w.drewN k) os := Any.strconv_Itoa Tryz.laysM171 n h0 h1 w htab
end Go.Proofs.YtaofjnidniekjaaGreatDoor
/- The contract of package show's condition. Conditions: those stated; the library's table of powers of ten is as the row lists it. -/
namespace Go.Proofs.YtaofjnidniekjaaGreatDoor
open Go.RowKit

/-- the library's table is as its initialiser lays it -/
def TabS (w : World) : Prop := Lib.TabIs Tryz.prog w "internal/strconv.uint64pow10" .u64 Lib.pow10Tab
theorem grow_bel (w : World) (k : Nat) (os : Array Obj) : Below w.heap.size w (Sort.grow (w.drewN k) os) :=
 ⟨rfl, rfl, rfl, by show w.heap.size ≤ (w.heap ++ os).size; rw [Array.size_append]; omega, fun j hj => by
  show (w.heap ++ os)[j]? = w.heap[j]?
  exact Array.getElem?_append_left hj⟩
theorem sitoa_any (x : Int) (w : World) (h0 : -9223372036854775808 ≤ x) (h1 : x ≤ 9223372036854775807) (ht : TabS w) : Calls Tryz.prog 20 #[.int .i64 x] w fun e w' => e = .returned (.string (btS (Lib.itoa x))) ∧ Below w.heap.size w w' := by
 refine (Tryz.strconv_Itoa x h0 h1 w ht).mono ?_
 rintro e w' ⟨rfl, k, os, rfl⟩
 exact ⟨rfl, grow_bel w k os⟩
theorem join_own {w : World} {B n c : Nat} {e : TypeId} {a : Option Addr} {xs : List (List UInt8)} (sep : ByteArray) (h : w.ownsRow B e 1 (.slice a n c) n (xs.map fun x => Value.string (btS x))) (hl : (Lib.join xs sep.data.toList).length ≤ 140737488355328) (hn : xs.length ≤ 140737488355328) :
  Calls Tryz.prog 18 #[.slice a n c, .string sep] w fun e w' => e = .returned (.string (btS (Lib.join xs sep.data.toList))) ∧ Below w.heap.size w w' := by
 have hr := RowG.of_own h
 have hln : xs.length = n := by have := hr.1; rw [List.length_map] at this; omega
 by_cases h0 : n = 0
 ·subst h0
  obtain rfl := List.length_eq_zero_iff.1 hln
  refine (Tryz.strings_Join_none a c sep w).mono ?_
  rintro e w' ⟨rfl, rfl⟩
  exact ⟨rfl, Below.refl _ _⟩
 ·obtain ⟨b, off, rfl, hb, hc⟩ := hr.at (by omega)
  have hm : (xs.map btS).map (fun x => x.data.toList) = xs := by
   rw [List.map_map]
   exact (List.map_congr_left fun x _ => rfl).trans (List.map_id _)
  have hx : (xs.map btS).length = n := by rw [List.length_map]; exact hln
  have hj := Tryz.strings_Join b off c (xs.map btS) sep w (fun j x hj => by
   have hjn : j < n := by
    rcases Nat.lt_or_ge j n with h | h
    ·exact h
    ·rw [List.getElem?_eq_none (by omega)] at hj; cases hj
   rw [hc j (by omega), List.getD_eq_getElem?_getD]
   rw [List.getElem?_map] at hj ⊢
   cases hxj : xs[j]? with
   | none => rw [hxj] at hj; cases hj
   | some y => rw [hxj] at hj; injection hj with hj; subst hj; rfl) hb (by rw [hx]; omega) (by rw [hx]; exact hr.2.1) (by rw [hm]; exact hl)
  rw [hx, hm] at hj
  exact hj
theorem take_map {α : Type} (f : α → Value) (l : List α) (d : α) {i : Nat} (h : i < l.length) : (l.take (i + 1)).map f = (l.take i).map f ++ [f (l.getD i d)] := by
 rw [List.take_add_one, List.getElem?_eq_getElem h, List.map_append, List.getD_eq_getElem?_getD, List.getElem?_eq_getElem h]
 rfl

set_option maxRecDepth 100000 in
set_option maxHeartbeats 4000000 in
theorem pcondn_any (w : World) (l : SchL) (s : Sch) (h : SchAt w l s) (hs : chkS s = 0) (d : Int) (cs : List Int) (ka : Option Addr) (kn kc : Nat) (hk : RowK .i64 w ka kn kc cs) (hd : 0 ≤ d ∧ d < s.dims.length) (hl : cs.length ≤ 4096) (hc : ∀ n ∈ cs, 0 ≤ n ∧ n ≤ 9223372036854775807)
  (ht : ∀ w', Below w.heap.size w w' → TabS w') :
  Calls Tryz.prog 19 #[l.val, .agg #[.int .i64 d, .slice ka kn kc]] w fun e w' => e = .returned (.string (btS (condL (dimN s) (d, cs)))) ∧ Below w.heap.size w w' := by
 obtain ⟨ad, nd, cd, ai, ni, ci, an, nn, cn, av, nv, cv⟩ := l
 have ld : s.dims.length = nd := h.2.1
 rw [ld] at hd
 obtain ⟨hbx, hby, hbw, hsz⟩ := two_pbox w 26 61 #[.slice ad nd cd, .slice ai ni ci, .slice an nn cn, .slice av nv cv] #[.int .i64 d, .slice ka kn kc]
 have HS := Lib.hid (h.below hbw (Nat.le_refl _))
 have HK := Lib.hid (hk.below hbw (Nat.le_refl _))
 have HBW := Lib.hid hbw
 have e0 := hbx 0
 have y0 := hby 0
 have y1 := hby 1
 simp only [List.getElem?_toArray, List.getElem?_cons_zero, List.getElem?_cons_succ] at e0 y0 y1
 obtain ⟨N, hN⟩ : ∃ N, ((w.alloc (.cells #[.slice ad nd cd, .slice ai ni ci, .slice an nn cn, .slice av nv cv] 26)).alloc (.cells #[.int .i64 d, .slice ka kn kc] 61)).heap.size = N := ⟨_, rfl⟩
 have HN1 : Hid (w.heap.size < N ∧ w.heap.size + 1 < N) := Lib.hid (by rw [← hN, hsz]; omega)
 have HT : Hid (∀ v, Below N ((w.alloc (.cells #[.slice ad nd cd, .slice ai ni ci, .slice an nn cn, .slice av nv cv] 26)).alloc (.cells #[.int .i64 d, .slice ka kn kc] 61)) v → TabS v) := Lib.hid (fun v hv => ht v (hbw.trans (hv.mono (by rw [← hN, hsz]; omega))))
 have HC := Lib.hid hc
 clear h hbw hbx hby hsz hk ht hc
 obtain ⟨i, rfl⟩ : ∃ i : Nat, d = (i : Int) := ⟨d.toNat, by omega⟩
 have hi : i < nd := by omega
 have HIN := Lib.hid hi
 obtain ⟨b, off, e, hbl, hcc⟩ := (HS.out.1).at (by show 0 < nd; omega)
 simp only at e
 subst e
 have c0 := hcc (i * 2) (by show i * 2 < nd * 2; omega)
 obtain ⟨g0, -⟩ := dimCells_get (ds := s.dims) (i := i) (by omega)
 rw [g0] at c0
 have hdn : (dimN s).getD i ByteArray.empty = (dimAt s.dims i).1 := by
  unfold dimN dimAt
  rw [List.getD_eq_getElem?_getD, List.getElem?_map, List.getD_eq_getElem?_getD, List.getElem?_eq_getElem (by omega)]
  rfl
 have hnm : (dimAt s.dims i).1.size ≤ 16 := by rw [← hdn]; exact dim_le hs i
 obtain ⟨nm, hnn⟩ : ∃ x, (dimAt s.dims i).1 = x := ⟨_, rfl⟩
 rw [hnn] at c0 hdn hnm
 have HD := Lib.hid hdn
 have mk : kn ≤ 9223372036854775807 := by have h1 := HK.out.2.1; have h2 := HK.out.2.2.1; unfold maxLen at h2; omega
 have lc : cs.length = kn := HK.out.1
 have HLC := Lib.hid lc
 rw [lc] at hl
 have HY1 := Lib.hid y1
 clear hcc hnn hdn hd ld hs g0 lc
 unfold SchL.val
 go_enter Tryz.func19, Tryz.ntmps19
 go_upto_region 1 with fail
 generalize ((w.alloc (.cells #[.slice (some ⟨b, off, none⟩) nd cd, .slice ai ni ci, .slice an nn cn, .slice av nv cv] 26)).alloc (.cells #[.int .i64 i, .slice ka kn kc] 61)) = w0 at *
 generalize hS : w.heap.size = S at *
 have HSS := Lib.hid hS
 have HN := Lib.hid hN
 clear hS hN
 by_cases h1 : kn = 1
 ·subst h1
  obtain ⟨x, rfl⟩ := List.length_eq_one_iff.1 HLC.out
  obtain ⟨kb, ko, rfl, hkl, hkc⟩ := rowk_at HK.out (by omega)
  have k0 : w0.cell? ⟨kb, ko, none⟩ = some (.int .i64 x) := hkc 0 (by omega)
  have hx := HC.out x (by simp)
  obtain ⟨hx0, hx1⟩ := hx
  have hil : (btS (Lib.itoa x)).size ≤ 20 := by rw [btS_size]; exact itoa_le hx0 hx1
  clear hkc
  go_wp2_with fail
  refine (sitoa_any x _ (by omega) hx1 (HT.out _ (Below.refl _ _))).mono ?_; rintro e w1 ⟨rfl, hb1⟩
  rw [HN.out] at hb1
  obtain ⟨T, hT⟩ : ∃ T, btS (Lib.itoa x) = T := ⟨_, rfl⟩
  have HTT := Lib.hid hT
  rw [hT] at hil ⊢
  clear hT
  have HB1 := Lib.hid hb1
  clear hb1
  go_wp2_with fail
  go_ret
  refine ⟨ret_st ?_, ?_⟩
  ·apply bt_eq
   rw [condL_one, dl_app, dl_app, ← HTT.out, Int.toNat_natCast, HD.out]
   simp only [List.append_assoc]
   rfl
  ·rw [HSS.out]; exact HBW.out.trans (HB1.out.mono (Nat.le_of_lt HN1.out.1))
 ·have t1 : ((kn : Int) == 1) = false := by simp; omega
  have HK1 : Hid (cs.length ≠ 1) := Lib.hid (by rw [HLC.out]; exact h1)
  clear h1
  go_wp2_with fail
  clear t1 y1 e0 c0
  go_loopg [6, 31] kn (fun q v iu wr => ∃ (j : Nat), iu = .int .i64 j ∧ j + q = kn ∧ wr.ownsRow N 9 1 v j ((cs.take j).map fun n => Value.string (btS (Lib.itoa n))) ∧ Below N w0 wr)
  case atStart => exact ⟨0, rfl, by omega, World.ownsRow_nil _ _ _ _, Below.refl _ _⟩
  case round =>
   obtain ⟨j, rfl, hq, hown, hb⟩ := hrel
   have HQ := Lib.hid hq
   have HOW := Lib.hid hown
   have HB := Lib.hid hb
   have hsz : N ≤ wr.heap.size := by have := hb.size; rw [HN.out] at this; exact this
   clear hq hown hb
   by_cases hlt : j < kn
   ·obtain ⟨kb, ko, rfl, hkl, hkc⟩ := rowk_at (HK.out.below HB.out (Nat.le_of_eq HN.out)) (by omega)
    have k0 := hkc j hlt
    have hx := HC.out (cs.getD j 0) (geti_mem (by rw [HLC.out]; exact hlt))
    have HTK := Lib.hid (take_map (fun n => Value.string (btS (Lib.itoa n))) cs 0 (i := j) (by rw [HLC.out]; exact hlt))
    obtain ⟨x, hxx⟩ : ∃ x, cs.getD j 0 = x := ⟨_, rfl⟩
    rw [hxx] at k0 hx HTK
    obtain ⟨hx0, hx1⟩ := hx
    clear hkc hxx
    go_wp2_with fail
    refine (sitoa_any x _ (by omega) hx1 (HT.out _ HB.out)).mono ?_; rintro e w1 ⟨rfl, hb1⟩
    obtain ⟨T, hT⟩ : ∃ T, btS (Lib.itoa x) = T := ⟨_, rfl⟩
    rw [hT] at HTK ⊢
    clear hT
    have HB1 := Lib.hid (HB.out.trans (hb1.mono hsz))
    have hsz1 : N ≤ w1.heap.size := Nat.le_trans hsz hb1.size
    have HOW1 := Lib.hid (own_below HOW.out hb1 (Nat.le_refl _))
    obtain ⟨L0, hL0⟩ : ∃ L, ((cs.take j).map fun n => Value.string (btS (Lib.itoa n))) = L := ⟨_, rfl⟩
    rw [hL0] at HTK HOW1
    clear hb1 hL0 HOW k0 hkl hx0 hx1
    go_wp2_with (at_builtin; refine wpList_append_oneG (z := .string ByteArray.empty) (sz := 1) (bytes := 16) info_string rfl (by decide) Tryz.underlying23 rfl _ _ rfl w1 _ #[.string T] N u6 j L0 w1.heap.size rfl rfl rfl rfl HOW1.out (fun u hu => by simp at hu; subst hu; rfl) (by omega) (by unfold maxLen; omega) hsz1 ?_)
    intro v' w' h2 h3 h4
    have HOW2 : Hid (w'.ownsRow N 9 1 v' (j + 1) ((cs.take (j + 1)).map fun n => Value.string (btS (Lib.itoa n)))) := Lib.hid (by rw [HTK.out]; exact h2)
    have HB2 := Lib.hid (h4 w0 HB1.out)
    clear h2 h3 h4
    go_wp2_with fail
    go_roundg (kn - j - 1)
    case measure => have := HQ.out; omega
    case rel => exact ⟨j + 1, by go_num, by have := HQ.out; omega, HOW2.out, HB2.out⟩
   ·obtain rfl : j = kn := by have := HQ.out; omega
    have hown := HOW.out
    rw [List.take_of_length_le (by rw [HLC.out]; exact Nat.le_refl _), show (cs.map fun n => Value.string (btS (Lib.itoa n))) = (cs.map Lib.itoa).map (fun x => Value.string (btS x)) from by rw [List.map_map]; rfl] at hown
    obtain ⟨a3, c3, rfl⟩ := own_form hown
    have hjl := codesJ_le (by rw [HLC.out]; exact hl) HC.out
    have HJN := Lib.hid (join_own ⟨#[44, 32]⟩ hown (by show (Lib.join (cs.map Lib.itoa) cmB).length ≤ _; omega) (by rw [List.length_map, HLC.out]; omega))
    obtain ⟨T, hT⟩ : ∃ T, btS (Lib.join (cs.map Lib.itoa) cmB) = T := ⟨_, rfl⟩
    have hTl : T.size ≤ 90112 := by rw [← hT, btS_size]; exact hjl
    have HTT := Lib.hid hT
    clear hjl hown hT HOW
    go_wp2_with fail
    refine HJN.out.mono ?_; rintro e w1 ⟨rfl, hb1⟩
    rw [show btS (Lib.join (cs.map Lib.itoa) (ByteArray.mk #[44, 32]).data.toList) = T from HTT.out]
    have HB1 := Lib.hid (HB.out.trans (hb1.mono hsz))
    clear hb1 HJN
    go_wp2_with fail
    go_ret
    refine ⟨ret_st ?_, ?_⟩
    ·apply bt_eq
     rw [condL_many _ _ _ HK1.out, dl_app, dl_app, dl_app, ← HTT.out, Int.toNat_natCast, HD.out]
     simp only [List.append_assoc]
     rfl
    ·rw [HSS.out]; exact HBW.out.trans (HB1.out.mono (Nat.le_of_lt HN1.out.1))
end Go.Proofs.YtaofjnidniekjaaGreatDoor
