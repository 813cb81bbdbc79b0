/- Package bushelref11: names and Light: their contracts. No conditions but those stated. -/
import Derived.Test.YtehmompbmnejkaaGreatSchA
import Derived.Test.YtehmompbmnejkaaGreatMReg
import Derived.Test.YtehmompbmnejkaaGreatMNum
import Derived.Test.YtehmompbmnejkaaGreatSchB
import Derived.Test.YtehmompbmnejkaaGreatMDbE
import Derived.Test.YtehmompbmnejkaaGreatMNames
import Derived.WalkKit
namespace Go.Proofs.YtehmompbmnejkaaGreat
open Go.RowKit

/-- at a step of a region that draws -/
theorem step_append_rowG {t e : TypeId} {z : Value} {sz bytes : Nat} (hinfo : (Tryz.prog.info? e).map (fun i => (i.zero, i.size, i.bytes)) = some (some z, sz, bytes)) (hzs : z.cells.size = sz) (hsz : 0 < sz) (ht : Tryz.prog.underlying t = some (.slice e))
  {ops : Array Oper} {o : Oper} {a : Act} {K : Act → World → Prop} {Q : Exit → Act → World → Prop} {E : Prop} (hgd : o.guard = none) (s x : Operand)
  (ho : o.op = .call { callee := .builtin .append, args := #[s, x], argTypes := #[t, t] })
  (w : World) (B : Nat) (v : Value) (n : Nat) (cs : List Value) (na : Option Addr) (m c : Nat) (ds : List Value) (hs : a.eval s = v) (hx : a.eval x = .slice na m c) (hown : w.ownsRow B e sz v n cs) (hr : RowG sz w na m c ds) (h1 : ∀ u ∈ ds, u.oneCell' = true) (hlen : (n + m) * bytes ≤ 140737488355328) (hmx : n + m ≤ maxLen) (hB : B ≤ w.heap.size)
  (h : ∀ v' w', w'.ownsRow B e sz v' (n + m) (cs ++ ds) → w.grownBy w' v.ownBlock → (∀ w0, Below B w0 w → Below B w0 w') → K (a.put o.dst v') w') :
  if Region.wanted o (yielded ops a.tmps) = true then Oper.wp Tryz.prog o a w K Q else E := by
 have hw : Region.wanted o (yielded ops a.tmps) = true := by simp [Region.wanted, hgd]
 rw [if_pos hw]
 obtain ⟨v', w', hrun, h2, h3⟩ := run_append_rowG hinfo hzs hsz ht o.type w B v n cs hown na m c ds hr h1 hlen hmx hB
 unfold Oper.wp execOp
 simp only [ho, resolve, invoke, builtin, Sem.run_bind, Sem.run_pure, Result.andThen_ok, List.map_toArray, List.map_cons, List.map_nil, hs, hx, hrun]
 exact h v' w' h2 h3 fun w0 hb => hb.grown h3 hB fun k' hk => (World.ownsRow.lt hown k' hk).1

set_option maxRecDepth 100000 in
set_option maxHeartbeats 4000000 in
theorem rnames_any (w : World) (l : SchL) (s : Sch) (h : SchAt w l s) (hd : l.nd ≤ 1000) (hi : l.ni ≤ 1000) (hn : l.nn ≤ 1000) :
  Calls Tryz.prog 9 #[l.val] w (RetStrs w s.names) := by
 obtain ⟨ad, nd, cd, ai, ni, ci, an, nn, cn, av, nv, cv⟩ := l
 simp only at hd hi hn
 obtain ⟨hbx, hbw, hsz⟩ := boxed w 26 #[.slice ad nd cd, .slice ai ni ci, .slice an nn cn, .slice av nv cv]
 have HS := Lib.hid (h.below hbw (Nat.le_refl _))
 have HBW := Lib.hid hbw
 obtain ⟨N, hN⟩ : ∃ N, (w.alloc (.cells #[.slice ad nd cd, .slice ai ni ci, .slice an nn cn, .slice av nv cv] 26)).heap.size = N := ⟨_, rfl⟩
 have HN1 : Hid (w.heap.size < N) := Lib.hid (by rw [← hN, hsz]; omega)
 have e0 := hbx 0
 have e1 := hbx 1
 have e2 := hbx 2
 simp only [List.getElem?_toArray, List.getElem?_cons_zero, List.getElem?_cons_succ] at e0 e1 e2
 have HE1 := Lib.hid e1
 have HE2 := Lib.hid e2
 clear h hbw hbx hsz e1 e2
 unfold SchL.val
 go_enter Tryz.func9, Tryz.ntmps9
 go_upto_region 1 with fail
 generalize (w.alloc (.cells #[.slice ad nd cd, .slice ai ni ci, .slice an nn cn, .slice av nv cv] 26)) = w0 at *
 generalize hS : w.heap.size = S at *
 have HSS := Lib.hid hS
 clear hS
 have HN := Lib.hid hN
 clear hN
 have HE0 := Lib.hid e0
 clear e0
 go_wp2_with fail
 go_loopg [3, 4] nd (fun q v iu wr => ∃ (i : Nat), iu = .int .i64 i ∧ i + q = nd ∧ wr.ownsRow N 9 1 v i (((s.dims.map (·.1)).take i).map Value.string) ∧ Below N w0 wr)
 case atStart => exact ⟨0, rfl, by omega, World.ownsRow_nil _ _ _ _, Below.refl _ _⟩
 case round =>
  obtain ⟨i, rfl, hq, hown, hb⟩ := hrel
  have HQ := Lib.hid hq
  have HOW := Lib.hid hown
  have HB := Lib.hid hb
  have hsz : N ≤ wr.heap.size := by have := hb.size; rw [HN.out] at this; exact this
  have e0 : wr.cell? ⟨S, 0, none⟩ = some (.slice ad nd cd) := by rw [hb.cell (p := ⟨S, 0, none⟩) HN1.out]; exact HE0.out
  clear hq hown hb
  by_cases hlt : i < nd
  ·obtain ⟨b, off, e, hbl, hc⟩ := (HS.out.1.below HB.out (Nat.le_of_eq HN.out)).at (by show 0 < nd; omega)
   simp only at e
   subst e
   have hlen : s.dims.length = nd := HS.out.2.1
   have c0 := hc (i * 2) (by show i * 2 < nd * 2; omega)
   obtain ⟨g0, -⟩ := dimCells_get (ds := s.dims) (i := i) (by omega)
   rw [g0] at c0
   have HT := Lib.hid (dim_take (ds := s.dims) (i := i) (by omega))
   obtain ⟨nm, hnm⟩ : ∃ x, (dimAt s.dims i).1 = x := ⟨_, rfl⟩
   rw [hnm] at c0 HT
   obtain ⟨L0, hL0⟩ : ∃ L, ((s.dims.map (·.1)).take i).map Value.string = L := ⟨_, rfl⟩
   have hown := HOW.out
   rw [hL0] at hown HT
   have HOW1 := Lib.hid hown
   clear hc g0 hnm hlen hown hL0 HOW
   go_wp2_with (at_builtin; refine wpList_append_oneG (z := .string ByteArray.empty) (sz := 1) (bytes := 16) info_string rfl (by decide) Tryz.underlying23 rfl _ _ rfl wr _ #[.string nm] N u3 i L0 wr.heap.size rfl rfl rfl rfl HOW1.out (fun u hu => by simp at hu; subst hu; rfl) (by omega) (by unfold maxLen; omega) hsz ?_)
   intro v' w' h2 h3 h4
   have HOW2 : Hid (w'.ownsRow N 9 1 v' (i + 1) (((s.dims.map (·.1)).take (i + 1)).map Value.string)) := Lib.hid (by rw [HT.out]; exact h2)
   have HB2 := Lib.hid (h4 w0 HB.out)
   clear h2 h3 h4 c0 e0
   go_wp2_with fail
   go_roundg (nd - i - 1)
   case measure => have := HQ.out; omega
   case rel => exact ⟨i + 1, by go_num, by have := HQ.out; omega, HOW2.out, HB2.out⟩
  ·obtain rfl : i = nd := by have := HQ.out; omega
   have hlen : s.dims.length = i := HS.out.2.1
   have hown := HOW.out
   rw [List.take_of_length_le (by rw [List.length_map, hlen]; exact Nat.le_refl _)] at hown
   have li : s.ints.length = ni := HS.out.2.2.1.1
   have ln : s.nums.length = nn := HS.out.2.2.2.1.1
   have HNL : Hid (s.names.length = i + ni + nn) := Lib.hid (by unfold Sch.names; rw [List.length_append, List.length_append, List.length_map, hlen, li, ln])
   have HNM : Hid (s.names.map Value.string = (s.dims.map (·.1)).map Value.string ++ s.ints.map Value.string ++ s.nums.map Value.string) := Lib.hid (by unfold Sch.names; rw [List.map_append, List.map_append])
   have HI := Lib.hid ((HS.out.2.2.1).below HB.out (Nat.le_of_eq HN.out)).g
   obtain ⟨L1, hL1⟩ : ∃ L, (s.dims.map (·.1)).map Value.string = L := ⟨_, rfl⟩
   obtain ⟨L2, hL2⟩ : ∃ L, s.ints.map Value.string = L := ⟨_, rfl⟩
   obtain ⟨L3, hL3⟩ : ∃ L, s.nums.map Value.string = L := ⟨_, rfl⟩
   have H12 : Hid (∀ u ∈ L2, u.oneCell' = true) := Lib.hid (by rw [← hL2]; exact str_cells)
   have H13 : Hid (∀ u ∈ L3, u.oneCell' = true) := Lib.hid (by rw [← hL3]; exact str_cells)
   rw [hL1] at hown HNM
   rw [hL2] at HI HNM
   have HL3 := Lib.hid hL3
   rw [hL3] at HNM
   have HOW1 := Lib.hid hown
   have e1 : wr.cell? ⟨S, 1, none⟩ = some (.slice ai ni ci) := by rw [HB.out.cell (p := ⟨S, 1, none⟩) HN1.out]; exact HE1.out
   have e2 : wr.cell? ⟨S, 2, none⟩ = some (.slice an nn cn) := by rw [HB.out.cell (p := ⟨S, 2, none⟩) HN1.out]; exact HE2.out
   clear hown hlen li ln hL1 hL2 hL3 HOW
   go_upto_region 6 with fail
   refine wp_regionN (fun w' => w'.cell? ⟨S, 1, none⟩ = some (.slice ai ni ci) ∧ w'.cell? ⟨S, 2, none⟩ = some (.slice an nn cn)) [] (by kernel_rfl) (by exact ⟨e1, e2⟩) (fun hHeld => ?_)
   refine wpAnyN_u 0 ⟨some 21, _, _, _, _, _⟩ _ rfl ?_
   try simp only [Act.put, putA, putB, putC]
   refine wpAnyN_u 1 ⟨some 22, _, _, _, _, _⟩ _ rfl ?_
   try simp only [Act.put, putA, putB, putC]
   refine wpAnyN_u 2 ⟨some 23, _, _, _, _, _⟩ _ rfl ?_
   try simp only [Act.put, putA, putB, putC]
   refine wpAnyN_u 4 ⟨some 25, _, _, _, _, _⟩ _ rfl ?_
   try simp only [Act.put, putA, putB, putC]
   refine wpAnyN_u 5 ⟨some 26, _, _, _, _, _⟩ _ rfl ?_
   try simp only [Act.put, putA, putB, putC]
   refine wpAnyN_one (i := 3) (o := ⟨some 24, _, _, _, _, _⟩) (by kernel_rfl) rfl (fun K hK => ?_)
   refine step_append_rowG (z := .string ByteArray.empty) (sz := 1) (bytes := 16) info_string rfl (by decide) Tryz.underlying23 rfl _ _ (by rfl) _ N u3 i _ ai ni ci L2 (by rfl) (by rfl) HOW1.out HI.out H12.out (by omega) (by unfold maxLen; omega) hsz ?_
   intro v' w' h2 h3 h4
   have HOW2 := Lib.hid h2
   have HB2 := Lib.hid (h4 w0 HB.out.drew)
   clear h2 h3 h4
   refine hK.out _ _ (by exact ⟨by rw [HB2.out.cell (p := ⟨S, 1, none⟩) HN1.out]; exact HE1.out, by rw [HB2.out.cell (p := ⟨S, 2, none⟩) HN1.out]; exact HE2.out⟩) ?_
   clear hK K hHeld
   intro hHeld
   try simp only [Act.put, putA, putB, putC]
   refine wpAnyN_one (i := 6) (o := ⟨some 27, _, _, _, _, _⟩) (by kernel_rfl) rfl (fun K hK => ?_)
   have hsz2 : N ≤ w'.heap.size := by have := HB2.out.size; rw [HN.out] at this; exact this
   have hr := ((HS.out.2.2.2.1).below HB2.out (Nat.le_of_eq HN.out)).g
   rw [HL3.out] at hr
   refine step_append_rowG (z := .string ByteArray.empty) (sz := 1) (bytes := 16) info_string rfl (by decide) Tryz.underlying23 rfl _ _ (by rfl) _ N v' (i + ni) _ an nn cn L3 (by rfl) (by rfl) HOW2.out hr H13.out (by omega) (by unfold maxLen; omega) hsz2 ?_
   intro v3 w3 h2 h3 h4
   obtain ⟨a3, c3, rfl⟩ := own_form h2
   have HOW3 := Lib.hid h2
   have HB3 := Lib.hid (h4 w0 HB2.out)
   clear h2 h3 h4 hr
   refine hK.out _ _ (by exact ⟨by rw [HB3.out.cell (p := ⟨S, 1, none⟩) HN1.out]; exact HE1.out, by rw [HB3.out.cell (p := ⟨S, 2, none⟩) HN1.out]; exact HE2.out⟩) ?_
   clear hK K hHeld
   intro hHeld
   try simp only [Act.put, putA, putB, putC]
   refine wpAnyN_u 7 ⟨some 2, _, _, _, _, _⟩ _ rfl ?_
   try simp only [Act.put, putA, putB, putC]
   refine wpAnyN_end (by kernel_rfl) ?_
   go_wp2_with fail
   go_ret
   have hg := RowG.of_own HOW3.out
   rw [← HNM.out] at hg
   have hnl := HNL.out
   refine ⟨a3, c3, by rw [hnl]; rfl, by rw [hnl]; exact RowS.of_g hg, ?_⟩
   rw [HSS.out]
   exact HBW.out.trans (HB3.out.mono (Nat.le_of_lt HN1.out))
/-- a schema that is light -/
def LightP (s : Sch) : Prop := s.dims.length ≤ 100 ∧ s.ints.length ≤ 100 ∧ s.nums.length ≤ 100 ∧ s.views.length ≤ 100 ∧ ∀ x ∈ s.names, x.size ≤ 100
def RLight (P : Prop) (w : World) (e : Ending) (w' : World) : Prop := ∃ b : Bool, e = .returned (.bool b) ∧ (b = true → P) ∧ Below w.heap.size w w'
theorem RLight.no {P : Prop} {w w0 w1 : World} {S N : Nat} (hS : w.heap.size = S) (hbw : Below S w w0) (hn : S < N) (hb : Below N w0 w1) : RLight P w (.returned (.bool false)) w1 := by
 subst hS
 exact ⟨false, rfl, (fun h => by cases h), hbw.trans (hb.mono (Nat.le_of_lt hn))⟩
theorem RLight.yes {P : Prop} {w w0 w1 : World} {S N : Nat} (hp : P) (hS : w.heap.size = S) (hbw : Below S w w0) (hn : S < N) (hb : Below N w0 w1) : RLight P w (.returned (.bool true)) w1 := by
 subst hS
 exact ⟨true, rfl, fun _ => hp, hbw.trans (hb.mono (Nat.le_of_lt hn))⟩
theorem str_mem {xs : List ByteArray} {i : Nat} (h : i < xs.length) : xs.getD i ByteArray.empty ∈ xs := by
 rw [List.getD_eq_getElem?_getD, List.getElem?_eq_getElem h]; exact List.getElem_mem h
set_option maxRecDepth 100000 in
set_option maxHeartbeats 4000000 in
theorem rlight_any (w : World) (l : SchL) (s : Sch) (h : SchAt w l s) :
  Calls Tryz.prog 4 #[l.val] w (RLight (LightP s) w) := by
 have mx := show l.nd ≤ maxLen ∧ l.ni ≤ maxLen ∧ l.nn ≤ maxLen ∧ l.nv ≤ maxLen from ⟨Nat.le_trans h.1.2.1 h.1.2.2.1, Nat.le_trans h.2.2.1.2.1 h.2.2.1.2.2.1, Nat.le_trans h.2.2.2.1.2.1 h.2.2.2.1.2.2.1, Nat.le_trans h.2.2.2.2.1.2.1 h.2.2.2.2.1.2.2.1⟩
 have HZ := Lib.hid (fun x (hx : x ∈ s.names) => show x.size ≤ maxLen by
  unfold Sch.names at hx
  rw [List.mem_append, List.mem_append] at hx
  rcases hx with (hx | hx) | hx
  ·obtain ⟨d, hd, rfl⟩ := List.mem_map.1 hx; exact (h.2.2.2.2.2.1 d hd).1
  ·exact h.2.2.2.2.2.2.1 x hx
  ·exact h.2.2.2.2.2.2.2.1 x hx)
 obtain ⟨ad, nd, cd, ai, ni, ci, an, nn, cn, av, nv, cv⟩ := l
 simp only at mx
 unfold maxLen at mx
 obtain ⟨mx1, mx2, mx3, mx4⟩ := mx
 have HLN := Lib.hid (And.intro (show s.dims.length = nd from h.2.1) (And.intro (show s.ints.length = ni from h.2.2.1.1) (And.intro (show s.nums.length = nn from h.2.2.2.1.1) (show s.views.length = nv from h.2.2.2.2.1.1))))
 obtain ⟨hbx, hbw, hsz⟩ := boxed w 26 #[.slice ad nd cd, .slice ai ni ci, .slice an nn cn, .slice av nv cv]
 have HS := Lib.hid (h.below hbw (Nat.le_refl _))
 have HBW := Lib.hid hbw
 obtain ⟨N, hN⟩ : ∃ N, (w.alloc (.cells #[.slice ad nd cd, .slice ai ni ci, .slice an nn cn, .slice av nv cv] 26)).heap.size = N := ⟨_, rfl⟩
 have HN1 : Hid (w.heap.size < N) := Lib.hid (by rw [← hN, hsz]; omega)
 have e0 := hbx 0
 have e1 := hbx 1
 have e2 := hbx 2
 have e3 := hbx 3
 simp only [List.getElem?_toArray, List.getElem?_cons_zero, List.getElem?_cons_succ] at e0 e1 e2 e3
 clear h hbw hbx hsz
 unfold SchL.val
 go_enter Tryz.func4, Tryz.ntmps4
 go_upto_region 1 with fail
 generalize (w.alloc (.cells #[.slice ad nd cd, .slice ai ni ci, .slice an nn cn, .slice av nv cv] 26)) = w0 at *
 generalize hS : w.heap.size = S at *
 have HSS := Lib.hid hS
 have HN := Lib.hid hN
 clear hS hN
 by_cases h0 : 100 < nd
 ·have t0 : decide ((100 : Int) < (nd : Int)) = true := decide_eq_true (by omega)
  clear h0
  go_wp2_with fail
  go_ret
  exact RLight.no HSS.out HBW.out HN1.out (Below.refl _ _)
 have t0 : decide ((100 : Int) < (nd : Int)) = false := decide_eq_false (by omega)
 by_cases h1 : 100 < ni
 ·have t1 : decide ((100 : Int) < (ni : Int)) = true := decide_eq_true (by omega)
  clear h1
  go_wp2_with fail
  go_ret
  exact RLight.no HSS.out HBW.out HN1.out (Below.refl _ _)
 have t1 : decide ((100 : Int) < (ni : Int)) = false := decide_eq_false (by omega)
 by_cases h2 : 100 < nn
 ·have t2 : decide ((100 : Int) < (nn : Int)) = true := decide_eq_true (by omega)
  clear h2
  go_wp2_with fail
  go_ret
  exact RLight.no HSS.out HBW.out HN1.out (Below.refl _ _)
 have t2 : decide ((100 : Int) < (nn : Int)) = false := decide_eq_false (by omega)
 by_cases h3 : 100 < nv
 ·have t3 : decide ((100 : Int) < (nv : Int)) = true := decide_eq_true (by omega)
  clear h3
  go_wp2_with fail
  go_ret
  exact RLight.no HSS.out HBW.out HN1.out (Below.refl _ _)
 have t3 : decide ((100 : Int) < (nv : Int)) = false := decide_eq_false (by omega)
 have HC := Lib.hid (fun w' hs => rnames_any w' ⟨ad, nd, cd, ai, ni, ci, an, nn, cn, av, nv, cv⟩ s hs (by show nd ≤ 1000; omega) (by show ni ≤ 1000; omega) (by show nn ≤ 1000; omega))
 have HLE := Lib.hid (And.intro (Nat.not_lt.1 h0) (And.intro (Nat.not_lt.1 h1) (And.intro (Nat.not_lt.1 h2) (Nat.not_lt.1 h3))))
 clear h0 h1 h2 h3
 go_wp2_with fail
 refine (HC.out _ HS.out).mono ?_
 rintro e w1 ⟨na, nc, rfl, hr, hb1⟩
 have HR := Lib.hid hr
 have HB1 : Hid (Below N w0 w1) := Lib.hid (by rw [← HN.out]; exact hb1)
 obtain ⟨M, hM⟩ : ∃ M, s.names.length = M := ⟨_, rfl⟩
 have hMb : M ≤ 100000 := by rw [← hM]; unfold Sch.names; rw [List.length_append, List.length_append, List.length_map, HLN.out.1, HLN.out.2.1, HLN.out.2.2.1]; have := HLE.out; omega
 rw [hM] at HR
 rw [hM]
 have HM := Lib.hid hM
 clear hr hb1 hM e0 e1 e2 e3 t0 t1 t2 t3 HC
 go_wp2_with fail
 go_loop [4] (fun iu => ∃ i : Nat, iu = .int .i64 i ∧ i ≤ M ∧ ∀ j, j < i → (s.names.getD j ByteArray.empty).size ≤ 100) (fun iu => M - (intOf iu).toNat)
 case atStart => exact ⟨0, rfl, by omega, fun j hj => by omega⟩
 case round =>
  obtain ⟨i, rfl, hi, hall⟩ := hrel
  have HA := Lib.hid hall
  clear hall
  by_cases hlt : i < M
  ·have hr := HR.out
   rcases hr.2.2.2 with h0 | ⟨b, off, rfl, hbl, hc⟩
   ·have := hr.2.1; omega
   have c0 := hc i hlt
   have HX := Lib.hid (HZ.out _ (str_mem (xs := s.names) (i := i) (by rw [HM.out]; exact hlt)))
   obtain ⟨nm, hnm⟩ : ∃ x, s.names.getD i ByteArray.empty = x := ⟨_, rfl⟩
   rw [hnm] at c0 HX
   have HNM := Lib.hid hnm
   have hx := HX.out
   unfold maxLen at hx
   clear hc hr hnm
   by_cases hsz : 100 < nm.size
   ·have t1 : decide ((100 : Int) < (nm.size : Int)) = true := decide_eq_true (by omega)
    clear hsz
    go_wp2_with fail
    go_ret
    exact RLight.no HSS.out HBW.out HN1.out HB1.out
   ·have t1 : decide ((100 : Int) < (nm.size : Int)) = false := decide_eq_false (by omega)
    have HSZ := Lib.hid (Nat.not_lt.1 hsz)
    clear hsz
    go_wp2_with fail
    go_round
    case rel =>
     refine ⟨i + 1, by go_num, by omega, fun j hj => ?_⟩
     rcases Nat.lt_or_ge j i with h5 | h5
     ·exact HA.out j h5
     ·obtain rfl : j = i := by omega
      rw [HNM.out]; exact HSZ.out
    case measure => simp [intOf]; omega
  ·have HP : Hid (LightP s) := Lib.hid ⟨by rw [HLN.out.1]; exact HLE.out.1, by rw [HLN.out.2.1]; exact HLE.out.2.1, by rw [HLN.out.2.2.1]; exact HLE.out.2.2.1, by rw [HLN.out.2.2.2]; exact HLE.out.2.2.2, fun x hx => by
    obtain ⟨j, hj, rfl⟩ := List.getElem_of_mem hx
    have := HA.out j (by have := HM.out; omega)
    rw [List.getD_eq_getElem?_getD, List.getElem?_eq_getElem hj] at this
    exact this⟩
   go_wp2_with fail
   go_ret
   exact RLight.yes HP.out HSS.out HBW.out HN1.out HB1.out
end Go.Proofs.YtehmompbmnejkaaGreat
/- Package bushelref11: Two, In, Sub: their contracts. Conditions: an exponent from 0 to 31. -/
namespace Go.Proofs.YtehmompbmnejkaaGreat
open Go.RowKit

theorem ret_bl {a b : Bool} (h : a = b) : Ending.returned (.bool b) = .returned (.bool a) := by rw [h]
theorem two_small {n : Nat} (h : n ≤ 31) : (1 : Int) ≤ 2 ^ n ∧ (2 : Int) ^ n ≤ 2147483648 := by
 have h1 : (2 : Nat) ^ n ≤ 2 ^ 31 := Nat.pow_le_pow_right (by decide) h
 have h2 := Nat.two_pow_pos n
 have e : ((2 ^ n : Nat) : Int) = 2 ^ n := by rw [Int.natCast_pow]; rfl
 omega
set_option maxHeartbeats 1000000 in
theorem rtwo_any (n : Nat) (w : World) (h : n ≤ 31) : Calls Tryz.prog 26 #[.int .i64 (n : Int)] w fun e w' => e = .returned (.int .u32 ((2 : Int) ^ n)) ∧ w = w' := by
 go_enter Tryz.func26, Tryz.ntmps26
 go_wp2_with fail
 go_loop [3, 4] (fun x iu => ∃ i : Nat, iu = .int .i64 i ∧ i ≤ n ∧ x = .int .u32 ((2 : Int) ^ i)) (fun _ iu => n - (intOf iu).toNat)
 case atStart => exact ⟨0, rfl, Nat.zero_le _, rfl⟩
 case round =>
  obtain ⟨i, rfl, hi, rfl⟩ := hrel
  by_cases hlt : i < n
  ·obtain ⟨P, hP⟩ : ∃ P, (2 : Int) ^ i = P := ⟨_, rfl⟩
   have hb := two_small (n := i) (by omega)
   have hb2 := two_small (n := i + 1) (by omega)
   have HS : Hid ((2 : Int) ^ (i + 1) = 2 * P) := Lib.hid (by rw [Int.pow_succ, hP]; omega)
   rw [hP] at hb ⊢
   obtain ⟨hb1, hb3⟩ := hb
   have hb4 : 2 * P ≤ 2147483648 := by have := HS.out; omega
   clear hb2 hP
   go_wp2_with fail
   go_round
   case rel => exact ⟨i + 1, by go_num, by omega, by rw [HS.out]⟩
   case measure => simp [intOf]; omega
  ·obtain rfl : i = n := by omega
   go_wp2_with fail
   go_ret
   exact ⟨rfl, rfl⟩
/-- is i in the set m? -/
def inM (m : Int) (i : Nat) : Bool := decide (m / 2 ^ i % 2 = 1)
set_option maxHeartbeats 1000000 in
theorem rin_any (m : Int) (i : Nat) (w : World) (h : i ≤ 31) (h0 : 0 ≤ m) (h1 : m ≤ 4294967295) : Calls Tryz.prog 27 #[.int .u32 m, .int .i64 (i : Int)] w fun e w' => e = .returned (.bool (inM m i)) ∧ w = w' := by
 have HT := Lib.hid (fun w => rtwo_any i w h)
 obtain ⟨b1, b2⟩ := two_small h
 have HR : Hid (inM m i = decide (m / 2 ^ i % 2 = 1)) := Lib.hid rfl
 obtain ⟨P, hP⟩ : ∃ P, (2 : Int) ^ i = P := ⟨_, rfl⟩
 rw [hP] at HT b1 b2 HR
 have q0 : 0 ≤ m / P := Int.ediv_nonneg h0 (by omega)
 have q1 : m / P ≤ 4294967295 := Int.le_trans (Int.ediv_le_self _ h0) h1
 clear hP h
 obtain ⟨B, hB⟩ : ∃ B, inM m i = B := ⟨_, rfl⟩
 rw [hB] at HR ⊢
 clear hB
 go_enter Tryz.func27, Tryz.ntmps27
 go_wp2_with fail
 refine (HT.out _).mono ?_; rintro e w1 ⟨rfl, rfl⟩
 go_wp2_with fail
 go_ret
 refine ⟨?_, rfl⟩
 rw [HR.out]
 congr 2
/-- is the set a in the set b? -/
def SubP (a b : Int) : Prop := ∀ i, i < 32 → inM a i = true → inM b i = true
noncomputable def subB (a b : Int) : Bool := @decide (SubP a b) (Classical.propDecidable _)
theorem subB_iff {a b : Int} : subB a b = true ↔ SubP a b := by unfold subB; simp
set_option maxHeartbeats 1000000 in
theorem rsub_any (a b : Int) (w : World) (a0 : 0 ≤ a) (a1 : a ≤ 4294967295) (b0 : 0 ≤ b) (b1 : b ≤ 4294967295) : Calls Tryz.prog 12 #[.int .u32 a, .int .u32 b] w fun e w' => e = .returned (.bool (subB a b)) ∧ w = w' := by
 obtain ⟨R, hR⟩ : ∃ R, subB a b = R := ⟨_, rfl⟩
 have HR : Hid (R = true ↔ SubP a b) := Lib.hid (by rw [← hR]; exact subB_iff)
 rw [hR]
 have HA := Lib.hid (fun i (h : i ≤ 31) w => rin_any a i w h a0 a1)
 have HB := Lib.hid (fun i (h : i ≤ 31) w => rin_any b i w h b0 b1)
 clear hR a0 a1 b0 b1
 go_enter Tryz.func12, Tryz.ntmps12
 go_wp2_with fail
 go_loop [5] (fun iu => ∃ i : Nat, iu = .int .i64 i ∧ i ≤ 32 ∧ ∀ j, j < i → inM a j = true → inM b j = true) (fun iu => 32 - (intOf iu).toNat)
 case atStart => exact ⟨0, rfl, by omega, fun j hj => by omega⟩
 case round =>
  obtain ⟨i, rfl, hi, hall⟩ := hrel
  have HL := Lib.hid hall
  clear hall
  by_cases hlt : i < 32
  ·have HA1 := Lib.hid (HA.out i (by omega))
   have HB1 := Lib.hid (HB.out i (by omega))
   obtain ⟨x, hx⟩ : ∃ x, inM a i = x := ⟨_, rfl⟩
   obtain ⟨y, hy⟩ : ∃ y, inM b i = y := ⟨_, rfl⟩
   rw [hx] at HA1
   rw [hy] at HB1
   have HX := Lib.hid hx
   have HY := Lib.hid hy
   clear hx hy
   have HN : Hid ((x = true → y = true) → ∀ j, j < i + 1 → inM a j = true → inM b j = true) := Lib.hid (fun h j hj hj2 => by
    rcases Nat.lt_or_ge j i with h5 | h5
    ·exact HL.out j h5 hj2
    ·obtain rfl : j = i := by omega
     rw [HY.out]; exact h (by rw [← HX.out]; exact hj2))
   rcases x with _ | _
   ·go_wp2_with fail
    refine (HA1.out _).mono ?_; rintro e w1 ⟨rfl, rfl⟩
    go_wp2_with fail
    go_round
    case rel => exact ⟨i + 1, by go_num, by omega, HN.out (fun h => by cases h)⟩
    case measure => simp [intOf]; omega
   ·go_wp2_with fail
    refine (HA1.out _).mono ?_; rintro e w1 ⟨rfl, rfl⟩
    go_wp2_with fail
    refine (HB1.out _).mono ?_; rintro e w1 ⟨rfl, rfl⟩
    rcases y with _ | _
    ·have HF : Hid (R = false) := Lib.hid (by rw [← Bool.not_eq_true, HR.out]; intro h; have := h i hlt HX.out; rw [HY.out] at this; cases this)
     go_wp2_with fail
     go_ret
     exact ⟨ret_bl HF.out, rfl⟩
    ·go_wp2_with fail
     go_round
     case rel => exact ⟨i + 1, by go_num, by omega, HN.out (fun _ => by trivial)⟩
     case measure => simp [intOf]; omega
  ·obtain rfl : i = 32 := by omega
   have HF : Hid (R = true) := Lib.hid (HR.out.2 HL.out)
   go_wp2_with fail
   go_ret
   exact ⟨ret_bl HF.out, rfl⟩
theorem inM_nat (m i : Nat) : inM (m : Int) i = m.testBit i := by
 unfold inM
 rw [Nat.testBit_eq_decide_div_mod_eq, decide_eq_decide, show ((2 : Int) ^ i) = ((2 ^ i : Nat) : Int) from by rw [Int.natCast_pow]; rfl]
 omega
/-- in the set of the first n -/
theorem sub_full {a : Int} {n : Nat} (h0 : 0 ≤ a) (h1 : a ≤ 4294967295) (_ : n ≤ 31) : subB a (2 ^ n - 1) = decide (a < 2 ^ n) := by
 obtain ⟨m, rfl⟩ : ∃ m : Nat, a = m := ⟨a.toNat, by omega⟩
 have hp := Nat.two_pow_pos n
 have e : (2 : Int) ^ n - 1 = ((2 ^ n - 1 : Nat) : Int) := by
  have : ((2 ^ n : Nat) : Int) = 2 ^ n := by rw [Int.natCast_pow]; rfl
  omega
 have e2 : (2 : Int) ^ n = ((2 ^ n : Nat) : Int) := by rw [Int.natCast_pow]; rfl
 rw [Bool.eq_iff_iff, subB_iff, decide_eq_true_eq, e, e2]
 constructor
 ·intro h
  have : m < 2 ^ n := Nat.lt_pow_two_of_testBit m fun i hi => by
   rcases Nat.lt_or_ge i 32 with h2 | h2
   ·rcases hb : m.testBit i with _ | _
    ·rfl
    ·have h3 := h i h2 (by rw [inM_nat]; exact hb)
     rw [inM_nat, Nat.testBit_two_pow_sub_one] at h3
     simp at h3; omega
   ·exact Nat.testBit_lt_two_pow (Nat.lt_of_lt_of_le (show m < 2 ^ 32 by omega) (Nat.pow_le_pow_right (by decide) h2))
  omega
 ·intro h i _ hi
  rw [inM_nat] at hi ⊢
  rw [Nat.testBit_two_pow_sub_one]
  rcases Nat.lt_or_ge i n with h2 | h2
  ·simp [h2]
  ·rw [Nat.testBit_lt_two_pow (Nat.lt_of_lt_of_le (show m < 2 ^ n by omega) (Nat.pow_le_pow_right (by decide) h2))] at hi
   cases hi
end Go.Proofs.YtehmompbmnejkaaGreat
/- The contract of package bushelref11's Check. No conditions but those stated. -/
namespace Go.Proofs.YtehmompbmnejkaaGreat
open Go.RowKit

set_option maxRecDepth 100000 in
set_option maxHeartbeats 8000000 in
theorem rchk_any (w : World) (l : SchL) (s : Sch) (h : SchAt w l s) :
  Calls Tryz.prog 11 #[l.val] w (RChk s w) := by
 obtain ⟨ad, nd, cd, ai, ni, ci, an, nn, cn, av, nv, cv⟩ := l
 have hnd : s.dims.length = nd := h.2.1
 have hni : s.ints.length = ni := h.2.2.1.1
 have hnn : s.nums.length = nn := h.2.2.2.1.1
 have hnv : s.views.length = nv := h.2.2.2.2.1.1
 have m1 : nd ≤ 9223372036854775807 := by have h1 := h.1.2.1; have h2 := h.1.2.2.1; simp only at h1 h2; unfold maxLen at h2; omega
 have m2 : ni ≤ 9223372036854775807 := by have h1 := h.2.2.1.2.1; have h2 := h.2.2.1.2.2.1; simp only at h1 h2; unfold maxLen at h2; omega
 have m3 : nn ≤ 9223372036854775807 := by have h1 := h.2.2.2.1.2.1; have h2 := h.2.2.2.1.2.2.1; simp only at h1 h2; unfold maxLen at h2; omega
 have m4 : nv ≤ 9223372036854775807 := by have h1 := h.2.2.2.2.1.2.1; have h2 := h.2.2.2.2.1.2.2.1; simp only at h1 h2; unfold maxLen at h2; omega
 obtain ⟨hbx, hbw, hsz⟩ := boxed w 26 #[.slice ad nd cd, .slice ai ni ci, .slice an nn cn, .slice av nv cv]
 have HS := Lib.hid (h.below hbw (Nat.le_refl _))
 have HBW := Lib.hid hbw
 obtain ⟨N, hN⟩ : ∃ N, (w.alloc (.cells #[.slice ad nd cd, .slice ai ni ci, .slice an nn cn, .slice av nv cv] 26)).heap.size = N := ⟨_, rfl⟩
 have HN1 : Hid (w.heap.size < N) := Lib.hid (by rw [← hN, hsz]; omega)
 have e0 := hbx 0
 have e1 := hbx 1
 have e2 := hbx 2
 have e3 := hbx 3
 simp only [List.getElem?_toArray, List.getElem?_cons_zero, List.getElem?_cons_succ] at e0 e1 e2 e3
 have HE0 := Lib.hid e0
 have HE1 := Lib.hid e1
 have HE2 := Lib.hid e2
 have HE3 := Lib.hid e3
 clear h hbw hbx hsz
 obtain ⟨A, hA⟩ : ∃ D, decide ((nd : Int) < 1) = D := ⟨_, rfl⟩
 obtain ⟨B, hB⟩ : ∃ D, decide ((6 : Int) < (nd : Int)) = D := ⟨_, rfl⟩
 obtain ⟨C, hC⟩ : ∃ D, decide ((3 : Int) < (ni : Int)) = D := ⟨_, rfl⟩
 obtain ⟨D, hD⟩ : ∃ D, decide ((2 : Int) < (nn : Int)) = D := ⟨_, rfl⟩
 obtain ⟨E, hE⟩ : ∃ D, decide ((15 : Int) < (nv : Int)) = D := ⟨_, rfl⟩
 have HCN : Hid (cntB s = (A || (B || (C || (D || E))))) := Lib.hid (by
  unfold cntB
  rw [hnd, hni, hnn, hnv, ← hA, ← hB, ← hC, ← hD, ← hE]
  congr 1
  ·rw [decide_eq_decide]; omega
  congr 1
  ·rw [decide_eq_decide]; omega
  congr 1
  ·rw [decide_eq_decide]; omega
  congr 1
  ·rw [decide_eq_decide]; omega
  ·rw [decide_eq_decide]; omega)
 have HLN := Lib.hid (And.intro hnd (And.intro hni (And.intro hnn hnv)))
 clear hnd hni hnn hnv
 unfold SchL.val
 go_enter Tryz.func11, Tryz.ntmps11
 go_upto_region 1 with fail
 generalize (w.alloc (.cells #[.slice ad nd cd, .slice ai ni ci, .slice an nn cn, .slice av nv cv] 26)) = w0 at *
 generalize hS : w.heap.size = S at *
 have HSS := Lib.hid hS
 have HN := Lib.hid hN
 clear hS hN
 go_cut [37] (fun v wx => v = .bool (cntB s) ∧ w0 = wx)
 case first =>
  as_aux_lemma =>
   have hcase : A = true ∨ (A = false ∧ B = true) ∨ (A = false ∧ B = false ∧ C = true) ∨ (A = false ∧ B = false ∧ C = false ∧ D = true) ∨ (A = false ∧ B = false ∧ C = false ∧ D = false) := by
    cases A <;> cases B <;> cases C <;> cases D <;> simp
   rcases hcase with rfl | ⟨rfl, rfl⟩ | ⟨rfl, rfl, rfl⟩ | ⟨rfl, rfl, rfl, rfl⟩ | ⟨rfl, rfl, rfl, rfl⟩
   all_goals
    go_wp2_with fail
    go_meet
    exact ⟨by rw [HCN.out]; rfl, rfl⟩
 case rest =>
  obtain ⟨rfl, rfl⟩ := hcut
  clear hA hB hC hD hE e0 e1 e2 e3
  rcases hq : cntB s with _ | _
  case true =>
   have HC := Lib.hid (chk_cnt hq)
   clear hq
   go_wp2_with fail
   go_ret
   exact RChk.mk HC.out HSS.out HBW.out HN1.out (Below.refl _ _)
  case false =>
   have HQ := Lib.hid hq
   have hbd : nd ≠ 0 ∧ nd ≤ 6 ∧ ni ≤ 3 ∧ nn ≤ 2 ∧ nv ≤ 15 := by
    unfold cntB at hq
    rw [HLN.out.1, HLN.out.2.1, HLN.out.2.2.1, HLN.out.2.2.2] at hq
    simp only [Bool.or_eq_false_iff, decide_eq_false_iff_not] at hq
    omega
   obtain ⟨b0, b1, b2, b3, b4⟩ := hbd
   have b0' : 0 < nd := by omega
   have e0 := HE0.out
   have e1 := HE1.out
   have e2 := HE2.out
   have e3 := HE3.out
   clear hq b0
   go_wp2_with fail
   refine (rnames_any _ ⟨ad, nd, cd, ai, ni, ci, an, nn, cn, av, nv, cv⟩ s HS.out (by show nd ≤ 1000; omega) (by show ni ≤ 1000; omega) (by show nn ≤ 1000; omega)).mono ?_
   rintro e w1 ⟨al, cl, rfl, hrow, hb1⟩
   have HB1 : Hid (Below N w0 w1) := Lib.hid (by rw [← HN.out]; exact hb1)
   have HML : Hid (s.names.length ≤ 11) := Lib.hid (by unfold Sch.names; rw [List.length_append, List.length_append, List.length_map, HLN.out.1, HLN.out.2.1, HLN.out.2.2.1]; omega)
   obtain ⟨M, hM⟩ : ∃ M, s.names.length = M := ⟨_, rfl⟩
   rw [hM] at hrow HML ⊢
   have HM := Lib.hid hM
   have HR1 := Lib.hid hrow
   have hml := HML.out
   clear hrow hb1 hM e0 e1 e2 e3
   go_wp2_with fail
   go_loopg [4] M (fun q iu wr => ∃ (i : Nat), iu = .int .i64 i ∧ i + q = M ∧ namesN s.names q i = namesN s.names M 0 ∧ Below N w0 wr ∧ RowS wr al M cl s.names)
   case atStart => exact ⟨0, rfl, by omega, rfl, HB1.out, HR1.out⟩
   case round =>
    obtain ⟨i, rfl, hq, hnn, hb, hr⟩ := hrel
    have HQ2 := Lib.hid hq
    have HNN := Lib.hid hnn
    have HB2 := Lib.hid hb
    have HR2 := Lib.hid hr
    clear hq hnn hb hr
    by_cases hlt : i < M
    ·obtain ⟨gk2, hgk⟩ : ∃ g, gk = g + 1 := ⟨gk - 1, by have := HQ2.out; omega⟩
     have HNX : Hid (namesN s.names M 0 = if nameB (s.names.getD i ByteArray.empty) = false then false else namesN s.names gk2 (i + 1)) := Lib.hid (by rw [← HNN.out, hgk]; rfl)
     have HG2 := Lib.hid hgk
     obtain ⟨b, off, rfl, hbl, hc⟩ : ∃ b off, al = some ⟨b, off, none⟩ ∧ b < wr.heap.size ∧ ∀ i, i < M → wr.cell? ⟨b, off + i, none⟩ = some (.string (s.names.getD i ByteArray.empty)) := by
      rcases HR2.out.2.2.2 with h0 | h0
      ·have := HR2.out.2.1; omega
      ·exact h0
     have c0 := hc i hlt
     obtain ⟨x, hx⟩ : ∃ x, s.names.getD i ByteArray.empty = x := ⟨_, rfl⟩
     rw [hx] at c0 HNX
     obtain ⟨bx, hbx⟩ : ∃ bx, nameB x = bx := ⟨_, rfl⟩
     have HIS : Hid (∀ w', Calls Tryz.prog 24 #[.string x] w' fun e w'' => e = .returned (.bool bx) ∧ Below w'.heap.size w' w'') := Lib.hid (fun w' => by rw [← hbx]; exact ris_any x w')
     rw [hbx] at HNX
     clear hgk hc hx hbx
     go_wp2_with fail
     refine (HIS.out _).mono ?_; rintro e w2 ⟨rfl, hb2⟩
     have HB3 := Lib.hid (HB2.out.trans (hb2.mono (by have := HB2.out.size; rw [HN.out] at this; exact this)))
     have HR3 := Lib.hid (HR2.out.below hb2 (Nat.le_refl _))
     clear hb2 c0
     rcases bx with _ | _
     ·have HC := Lib.hid (chk_name HQ.out (by rw [HM.out, HNX.out]; rfl))
      go_wp2_with fail
      go_ret
      exact RChk.mk HC.out HSS.out HBW.out HN1.out HB3.out
     ·have HN3 : Hid (namesN s.names gk2 (i + 1) = namesN s.names M 0) := Lib.hid (by rw [HNX.out]; rfl)
      go_wp2_with fail
      go_roundg gk2
      case measure => have := HG2.out; omega
      case rel => exact ⟨i + 1, by go_num, by have := HQ2.out; have := HG2.out; omega, HN3.out, HB3.out, HR3.out⟩
    ·obtain rfl : i = M := by have := HQ2.out; omega
     have HNT : Hid (namesN s.names s.names.length 0 = true) := Lib.hid (by
      have h1 : gk = 0 := by have := HQ2.out; omega
      rw [HM.out, ← HNN.out, h1]; rfl)
     obtain ⟨r, hr⟩ : ∃ r, twR s.names = r := ⟨_, rfl⟩
     have HTW : Hid (TwiceIs s.names r) := Lib.hid (by rw [← hr]; exact twR_is _)
     have HTR := Lib.hid hr
     clear hr
     go_wp2_with fail
     refine (rtwice_any al i cl s.names r _ HR2.out HTW.out).mono ?_
     rintro e w3 ⟨rfl, hb3⟩
     have HB4 := Lib.hid (HB2.out.trans (hb3.mono (by have := HB2.out.size; rw [HN.out] at this; exact this)))
     clear hb3
     by_cases hr0 : 0 ≤ r
     ·have HC := Lib.hid (chk_twice HQ.out HNT.out (by rw [HTR.out]; exact hr0))
      go_wp2_with fail
      go_ret
      exact RChk.mk HC.out HSS.out HBW.out HN1.out HB4.out
     have HTN : Hid (twR s.names < 0) := Lib.hid (by rw [HTR.out]; exact Int.not_le.1 hr0)
     have hr0' : r < 0 := by omega
     have HE1' := HB4
     clear hr0 HTW HTR HNN HR2 HB2 HB1 HR1 HQ2
     go_wp2_with fail
     go_loopg [5, 6] nd (fun q ku iu wx => ∃ (j : Nat) (k : Int), ku = .int .i64 k ∧ iu = .int .i64 j ∧ j + q = nd ∧ 1 ≤ k ∧ k ≤ 1099511627776 ∧ keysOk s.dims q j k = keysOk s.dims nd 0 1 ∧ Below N w0 wx)
     case atStart => exact ⟨0, 1, rfl, rfl, by omega, by decide, by decide, rfl, HB4.out⟩
     case round =>
      obtain ⟨j, k, rfl, rfl, hq, hk1, hk2, hko, hb⟩ := hrel
      have HQ5 := Lib.hid hq
      have HKO := Lib.hid hko
      have HB5 := Lib.hid hb
      have e0 : wr.cell? ⟨S, 0, none⟩ = some (.slice ad nd cd) := by rw [hb.cell (p := ⟨S, 0, none⟩) HN1.out]; exact HE0.out
      clear hq hko hb
      by_cases hlt : j < nd
      ·obtain ⟨gk2, hgk⟩ : ∃ g, gk = g + 1 := ⟨gk - 1, by have := HQ5.out; omega⟩
       have HG2 := Lib.hid hgk
       obtain ⟨b, off, e, hbl, hc⟩ := (HS.out.1.below HB5.out (Nat.le_of_eq HN.out)).at (by show 0 < nd; omega)
       simp only at e
       subst e
       have c0 := hc (j * 2) (by show j * 2 < nd * 2; omega)
       have c1 := hc (j * 2 + 1) (by show j * 2 + 1 < nd * 2; omega)
       obtain ⟨g0, g1⟩ := dimCells_get (ds := s.dims) (i := j) (by rw [HLN.out.1]; exact hlt)
       rw [g1, ← Nat.add_assoc] at c1
       obtain ⟨nm, hnm⟩ : ∃ x, (dimAt s.dims j).1 = x := ⟨_, rfl⟩
       obtain ⟨z, hz⟩ : ∃ x, (dimAt s.dims j).2 = x := ⟨_, rfl⟩
       clear c0
       rw [hz] at c1
       have HKX : Hid (keysOk s.dims nd 0 1 = if z < 1 ∨ 4096 < z ∨ 1099511627776 / z < k then false else keysOk s.dims gk2 (j + 1) (k * z)) := Lib.hid (by rw [← HKO.out, hgk, keysOk_succ, hz])
       have HZB : Hid (-9223372036854775808 ≤ z ∧ z ≤ 9223372036854775807) := Lib.hid (by
        have := HS.out.2.2.2.2.2.1 (dimAt s.dims j) (by unfold dimAt; rw [List.getD_eq_getElem?_getD, List.getElem?_eq_getElem (by rw [HLN.out.1]; exact hlt)]; exact List.getElem_mem _)
        rw [hz] at this; exact this.2)
       clear hgk hc g0 g1 hnm hz
       by_cases hz1 : z < 1
       ·have HC := Lib.hid (chk_key HQ.out HNT.out HTN.out (by rw [HLN.out.1, HKX.out, if_pos (.inl hz1)]))
        have t1 : decide (z < 1) = true := decide_eq_true hz1
        go_wp2_with fail
        go_ret
        exact RChk.mk HC.out HSS.out HBW.out HN1.out HB5.out
       have hz1' : 1 ≤ z := by omega
       have t1 : decide (z < 1) = false := decide_eq_false hz1
       by_cases hz2 : 4096 < z
       ·have HC := Lib.hid (chk_key HQ.out HNT.out HTN.out (by rw [HLN.out.1, HKX.out, if_pos (.inr (.inl hz2))]))
        have t2 : decide (4096 < z) = true := decide_eq_true hz2
        go_wp2_with fail
        go_ret
        exact RChk.mk HC.out HSS.out HBW.out HN1.out HB5.out
       have t2 : decide (4096 < z) = false := decide_eq_false hz2
       obtain ⟨Q, hQ⟩ : ∃ Q, 1099511627776 / z = Q := ⟨_, rfl⟩
       have HQD : Hid (Q * z ≤ 1099511627776) := Lib.hid (by rw [← hQ]; exact Int.ediv_mul_le _ (by omega))
       rw [hQ] at HKX
       by_cases hz3 : Q < k
       ·have HC := Lib.hid (chk_key HQ.out HNT.out HTN.out (by rw [HLN.out.1, HKX.out, if_pos (.inr (.inr hz3))]))
        obtain ⟨k2, hk2e⟩ : ∃ k2, k * z = k2 := ⟨_, rfl⟩
        have hk2b : 1099511627776 < k2 := by
         rw [← hk2e]; exact (Int.ediv_lt_iff_lt_mul (by omega)).1 (by rw [hQ]; exact hz3)
        have hk2c : k2 ≤ 4503599627370496 := by rw [← hk2e]; have := Int.mul_le_mul hk2 (show z ≤ 4096 by omega) (by omega) (by decide); omega
        have hkw : IntKind.i64.wrap k2 = k2 := IntWalk.i64_in _ (by omega)
        have t3 : decide (1099511627776 < k2) = true := decide_eq_true hk2b
        clear hQ hz3 hz1 hz2
        go_wp2_with fail
        go_ret
        exact RChk.mk HC.out HSS.out HBW.out HN1.out HB5.out
       obtain ⟨k2, hk2e⟩ : ∃ k2, k * z = k2 := ⟨_, rfl⟩
       have hk21 : 1 ≤ k2 := by rw [← hk2e]; have := Int.mul_le_mul hk1 hz1' (by decide) (by omega); simpa using this
       have hk22 : k2 ≤ 1099511627776 := by
        rw [← hk2e]
        exact Int.le_trans (Int.mul_le_mul_of_nonneg_right (by omega) (by omega)) HQD.out
       have HKN : Hid (keysOk s.dims gk2 (j + 1) k2 = keysOk s.dims nd 0 1) := Lib.hid (by rw [HKX.out, if_neg (by omega), hk2e])
       have hkw : IntKind.i64.wrap k2 = k2 := IntWalk.i64_in _ (by omega)
       have t3 : decide (1099511627776 < k2) = false := decide_eq_false (by omega)
       clear hz1 hz2 hz3 hQ
       go_wp2_with fail
       go_roundg gk2
       case measure => have := HG2.out; omega
       case rel => exact ⟨j + 1, k2, rfl, by go_num, by have := HQ5.out; have := HG2.out; omega, hk21, hk22, HKN.out, HB5.out⟩
      ·obtain rfl : j = nd := by have := HQ5.out; omega
       have HKT : Hid (keysOk s.dims s.dims.length 0 1 = true) := Lib.hid (by
        have h1 : gk = 0 := by have := HQ5.out; omega
        rw [HLN.out.1, ← HKO.out, h1]; rfl)
       have e0 : wr.cell? ⟨S, 0, none⟩ = some (.slice ad j cd) := by rw [HB5.out.cell (p := ⟨S, 0, none⟩) HN1.out]; exact HE0.out
       clear HB4 HKO HQ5 HE1'
       have HTWO := Lib.hid (fun w => rtwo_any j w (by omega))
       obtain ⟨-, f1, f2⟩ := full_is b1
       obtain ⟨FU, hFU⟩ : ∃ FU, (2 : Int) ^ j - 1 = FU := ⟨_, rfl⟩
       rw [hFU] at f1 f2
       have HSF := Lib.hid (fun (x : Int) (h0 : 0 ≤ x) (h1 : x ≤ 4294967295) => show subB x FU = decide (x ≤ FU) from by rw [← hFU, sub_full h0 h1 (by omega), decide_eq_decide]; omega)
       rw [show (2 : Int) ^ j = FU + 1 from by omega] at HTWO
       have HFU := Lib.hid hFU
       clear hFU
       go_wp2_with fail
       refine (HTWO.out _).mono ?_; rintro e w9 ⟨rfl, rfl⟩
       have w1' : FU + 1 - 1 = FU := by omega
       go_wp2_with fail
       clear e0
       go_loopg [9] nv (fun q iu wx => ∃ (m : Nat), iu = .int .i64 m ∧ m + q = nv ∧ viewsOk FU s.views q m = viewsOk FU s.views nv 0 ∧ Below N w0 wx)
       case atStart => exact ⟨0, rfl, by omega, rfl, HB5.out⟩
       case round =>
        obtain ⟨m, rfl, hq, hvo, hb⟩ := hrel
        have HQ6 := Lib.hid hq
        have HVO := Lib.hid hvo
        have HB6 := Lib.hid hb
        clear hq hvo hb
        by_cases hlt : m < nv
        ·obtain ⟨gk2, hgk⟩ : ∃ g, gk = g + 1 := ⟨gk - 1, by have := HQ6.out; omega⟩
         have HG2 := Lib.hid hgk
         have hrv := HS.out.2.2.2.2.1.below HB6.out (Nat.le_of_eq HN.out)
         obtain ⟨b, off, e, hbl, hc⟩ := rowk_at hrv (by show 0 < nv; omega)
         simp only at e
         subst e
         have c0 := hc m hlt
         have HVX := Lib.hid (viewsOk_succ FU s.views gk2 m)
         have e3 : wr.cell? ⟨S, 3, none⟩ = some (.slice (some ⟨b, off, none⟩) nv cv) := by rw [HB6.out.cell (p := ⟨S, 3, none⟩) HN1.out]; exact HE3.out
         have hxb := HS.out.2.2.2.2.2.2.2.2 (s.views.getD m 0) (geti_mem (by rw [HLN.out.2.2.2]; exact hlt))
         obtain ⟨x, hx⟩ : ∃ x, s.views.getD m 0 = x := ⟨_, rfl⟩
         rw [hx] at c0 HVX hxb
         obtain ⟨x0, x1⟩ := hxb
         have HCV : Hid (viewsOk FU s.views gk m = false → chkS s = 6) := Lib.hid (fun h => chk_view HQ.out HNT.out HTN.out HKT.out (by rw [HLN.out.1, HLN.out.2.2.2, HFU.out, ← HVO.out]; exact h))
         rw [hgk] at HCV
         have HCL := Lib.hid hc
         clear hgk hc hx hrv
         obtain ⟨p, hp⟩ : ∃ p, p = m - 1 := ⟨_, rfl⟩
         have c1 := HCL.out p (show p < nv by omega)
         obtain ⟨y, hy⟩ : ∃ y, s.views.getD p 0 = y := ⟨_, rfl⟩
         rw [hy] at c1
         have HP := Lib.hid hp
         have HY := Lib.hid hy
         have hpn : (p : Int) < (nv : Int) := by omega
         clear hp hy
         by_cases hfx : FU < x
         ·have HC := Lib.hid (HCV.out (by rw [HVX.out, if_pos (.inl (by omega))]))
          have HSB : Hid (subB x FU = false) := Lib.hid (by rw [HSF.out x x0 x1]; exact decide_eq_false (by omega))
          clear hfx
          go_upto_region 25 with fail
          refine wp_regionN (fun w' => w'.cell? ⟨S, 3, none⟩ = some (.slice (some ⟨b, off, none⟩) nv cv) ∧ w'.cell? ⟨b, off + m, none⟩ = some (.int .u32 x) ∧ w'.cell? ⟨b, off + p, none⟩ = some (.int .u32 y)) [] (by kernel_rfl) (by exact ⟨e3, c0, c1⟩) (fun hHeld => ?_)
          refine wpAnyN_u 0 ⟨some 91, _, _, _, _, _⟩ _ rfl ?_
          try simp only [Act.put, putA, putB, putC]
          refine wpAnyN_u 1 ⟨some 92, _, _, _, _, _⟩ _ rfl ?_
          try simp only [Act.put, putA, putB, putC]
          refine wpAnyN_u 2 ⟨some 93, _, _, _, _, _⟩ _ rfl ?_
          try simp only [Act.put, putA, putB, putC]
          refine wpAnyN_u 3 ⟨some 94, _, _, _, _, _⟩ _ rfl ?_
          try simp only [Act.put, putA, putB, putC]
          refine wpAnyN_u 4 ⟨some 95, _, _, _, _, _⟩ _ rfl ?_
          try simp only [Act.put, putA, putB, putC]
          refine wpAnyN_u 5 ⟨some 96, _, _, _, _, _⟩ _ rfl ?_
          try simp only [Act.put, putA, putB, putC]
          refine wpAnyN_one (i := 6) (o := ⟨some 97, _, _, _, _, _⟩) (by kernel_rfl) rfl (fun K hK => ?_)
          go_simp
          refine (rsub_any x FU _ x0 x1 f1 (by omega)).mono ?_
          rintro e w2 ⟨rfl, rfl⟩
          rw [HSB.out]
          refine hK.out _ _ (by exact hHeld) ?_
          clear hK K hHeld
          intro hHeld
          try simp only [Act.put, putA, putB, putC]
          refine wpAnyN_u 7 ⟨some 98, _, _, _, _, _⟩ _ rfl ?_
          try simp only [Act.put, putA, putB, putC]
          refine wpAnyN_u 8 ⟨some 99, _, _, _, _, _⟩ _ rfl ?_
          try simp only [Act.put, putA, putB, putC]
          refine wpAnyN_s 9 ⟨some 100, _, _, _, _, _⟩ rfl ?_
          try simp only [Act.put, putA, putB, putC]
          refine wpAnyN_s 10 ⟨some 101, _, _, _, _, _⟩ rfl ?_
          try simp only [Act.put, putA, putB, putC]
          refine wpAnyN_s 11 ⟨some 102, _, _, _, _, _⟩ rfl ?_
          try simp only [Act.put, putA, putB, putC]
          refine wpAnyN_s 12 ⟨some 103, _, _, _, _, _⟩ rfl ?_
          try simp only [Act.put, putA, putB, putC]
          refine wpAnyN_s 13 ⟨some 104, _, _, _, _, _⟩ rfl ?_
          try simp only [Act.put, putA, putB, putC]
          refine wpAnyN_s 14 ⟨some 105, _, _, _, _, _⟩ rfl ?_
          try simp only [Act.put, putA, putB, putC]
          refine wpAnyN_s 15 ⟨some 106, _, _, _, _, _⟩ rfl ?_
          try simp only [Act.put, putA, putB, putC]
          refine wpAnyN_u 16 ⟨some 107, _, _, _, _, _⟩ _ rfl ?_
          try simp only [Act.put, putA, putB, putC]
          refine wpAnyN_u 17 ⟨some 108, _, _, _, _, _⟩ _ rfl ?_
          try simp only [Act.put, putA, putB, putC]
          refine wpAnyN_s 18 ⟨some 109, _, _, _, _, _⟩ rfl ?_
          try simp only [Act.put, putA, putB, putC]
          refine wpAnyN_s 19 ⟨some 110, _, _, _, _, _⟩ rfl ?_
          try simp only [Act.put, putA, putB, putC]
          refine wpAnyN_s 20 ⟨some 111, _, _, _, _, _⟩ rfl ?_
          try simp only [Act.put, putA, putB, putC]
          refine wpAnyN_s 21 ⟨some 112, _, _, _, _, _⟩ rfl ?_
          try simp only [Act.put, putA, putB, putC]
          refine wpAnyN_s 22 ⟨some 113, _, _, _, _, _⟩ rfl ?_
          try simp only [Act.put, putA, putB, putC]
          refine wpAnyN_s 23 ⟨some 114, _, _, _, _, _⟩ rfl ?_
          try simp only [Act.put, putA, putB, putC]
          refine wpAnyN_s 24 ⟨some 115, _, _, _, _, _⟩ rfl ?_
          try simp only [Act.put, putA, putB, putC]
          refine wpAnyN_s 25 ⟨some 116, _, _, _, _, _⟩ rfl ?_
          try simp only [Act.put, putA, putB, putC]
          refine wpAnyN_s 26 ⟨some 117, _, _, _, _, _⟩ rfl ?_
          try simp only [Act.put, putA, putB, putC]
          refine wpAnyN_s 27 ⟨some 118, _, _, _, _, _⟩ rfl ?_
          try simp only [Act.put, putA, putB, putC]
          refine wpAnyN_s 28 ⟨some 119, _, _, _, _, _⟩ rfl ?_
          try simp only [Act.put, putA, putB, putC]
          refine wpAnyN_s 29 ⟨some 120, _, _, _, _, _⟩ rfl ?_
          try simp only [Act.put, putA, putB, putC]
          refine wpAnyN_s 30 ⟨some 121, _, _, _, _, _⟩ rfl ?_
          try simp only [Act.put, putA, putB, putC]
          refine wpAnyN_s 31 ⟨some 122, _, _, _, _, _⟩ rfl ?_
          try simp only [Act.put, putA, putB, putC]
          refine wpAnyN_s 32 ⟨some 123, _, _, _, _, _⟩ rfl ?_
          try simp only [Act.put, putA, putB, putC]
          refine wpAnyN_s 33 ⟨some 124, _, _, _, _, _⟩ rfl ?_
          try simp only [Act.put, putA, putB, putC]
          refine wpAnyN_u 34 ⟨some 125, _, _, _, _, _⟩ _ rfl ?_
          try simp only [Act.put, putA, putB, putC]
          refine wpAnyN_end (by kernel_rfl) ?_
          go_wp2_with fail
          go_ret
          exact RChk.mk HC.out HSS.out HBW.out HN1.out HB6.out.drew
         have HSB : Hid (subB x FU = true) := Lib.hid (by rw [HSF.out x x0 x1]; exact decide_eq_true (by omega))
         by_cases hfe : x = FU
         ·have HC := Lib.hid (HCV.out (by rw [HVX.out, if_pos (.inl (by omega))]))
          have t1 : (x == FU) = true := by simpa using hfe
          clear hfx hfe
          go_upto_region 25 with fail
          refine wp_regionN (fun w' => w'.cell? ⟨S, 3, none⟩ = some (.slice (some ⟨b, off, none⟩) nv cv) ∧ w'.cell? ⟨b, off + m, none⟩ = some (.int .u32 x) ∧ w'.cell? ⟨b, off + p, none⟩ = some (.int .u32 y)) [] (by kernel_rfl) (by exact ⟨e3, c0, c1⟩) (fun hHeld => ?_)
          refine wpAnyN_u 0 ⟨some 91, _, _, _, _, _⟩ _ rfl ?_
          try simp only [Act.put, putA, putB, putC]
          refine wpAnyN_u 1 ⟨some 92, _, _, _, _, _⟩ _ rfl ?_
          try simp only [Act.put, putA, putB, putC]
          refine wpAnyN_u 2 ⟨some 93, _, _, _, _, _⟩ _ rfl ?_
          try simp only [Act.put, putA, putB, putC]
          refine wpAnyN_u 3 ⟨some 94, _, _, _, _, _⟩ _ rfl ?_
          try simp only [Act.put, putA, putB, putC]
          refine wpAnyN_u 4 ⟨some 95, _, _, _, _, _⟩ _ rfl ?_
          try simp only [Act.put, putA, putB, putC]
          refine wpAnyN_u 5 ⟨some 96, _, _, _, _, _⟩ _ rfl ?_
          try simp only [Act.put, putA, putB, putC]
          refine wpAnyN_one (i := 6) (o := ⟨some 97, _, _, _, _, _⟩) (by kernel_rfl) rfl (fun K hK => ?_)
          go_simp
          refine (rsub_any x FU _ x0 x1 f1 (by omega)).mono ?_
          rintro e w2 ⟨rfl, rfl⟩
          rw [HSB.out]
          refine hK.out _ _ (by exact hHeld) ?_
          clear hK K hHeld
          intro hHeld
          try simp only [Act.put, putA, putB, putC]
          refine wpAnyN_u 7 ⟨some 98, _, _, _, _, _⟩ _ rfl ?_
          try simp only [Act.put, putA, putB, putC]
          refine wpAnyN_u 8 ⟨some 99, _, _, _, _, _⟩ _ rfl ?_
          try simp only [Act.put, putA, putB, putC]
          refine wpAnyN_u 9 ⟨some 100, _, _, _, _, _⟩ _ rfl ?_
          try simp only [Act.put, putA, putB, putC]
          refine wpAnyN_u 10 ⟨some 101, _, _, _, _, _⟩ _ rfl ?_
          try simp only [Act.put, putA, putB, putC]
          refine wpAnyN_u 11 ⟨some 102, _, _, _, _, _⟩ _ rfl ?_
          try simp only [Act.put, putA, putB, putC]
          refine wpAnyN_u 12 ⟨some 103, _, _, _, _, _⟩ _ rfl ?_
          try simp only [Act.put, putA, putB, putC]
          refine wpAnyN_u 13 ⟨some 104, _, _, _, _, _⟩ _ rfl ?_
          try simp only [Act.put, putA, putB, putC]
          refine wpAnyN_u 14 ⟨some 105, _, _, _, _, _⟩ _ rfl ?_
          try simp only [Act.put, putA, putB, putC]
          refine wpAnyN_u 15 ⟨some 106, _, _, _, _, _⟩ _ rfl ?_
          try simp only [Act.put, putA, putB, putC]
          refine wpAnyN_u 16 ⟨some 107, _, _, _, _, _⟩ _ rfl ?_
          try simp only [Act.put, putA, putB, putC]
          refine wpAnyN_u 17 ⟨some 108, _, _, _, _, _⟩ _ rfl ?_
          try simp only [Act.put, putA, putB, putC]
          refine wpAnyN_s 18 ⟨some 109, _, _, _, _, _⟩ rfl ?_
          try simp only [Act.put, putA, putB, putC]
          refine wpAnyN_s 19 ⟨some 110, _, _, _, _, _⟩ rfl ?_
          try simp only [Act.put, putA, putB, putC]
          refine wpAnyN_s 20 ⟨some 111, _, _, _, _, _⟩ rfl ?_
          try simp only [Act.put, putA, putB, putC]
          refine wpAnyN_s 21 ⟨some 112, _, _, _, _, _⟩ rfl ?_
          try simp only [Act.put, putA, putB, putC]
          refine wpAnyN_s 22 ⟨some 113, _, _, _, _, _⟩ rfl ?_
          try simp only [Act.put, putA, putB, putC]
          refine wpAnyN_s 23 ⟨some 114, _, _, _, _, _⟩ rfl ?_
          try simp only [Act.put, putA, putB, putC]
          refine wpAnyN_s 24 ⟨some 115, _, _, _, _, _⟩ rfl ?_
          try simp only [Act.put, putA, putB, putC]
          refine wpAnyN_s 25 ⟨some 116, _, _, _, _, _⟩ rfl ?_
          try simp only [Act.put, putA, putB, putC]
          refine wpAnyN_s 26 ⟨some 117, _, _, _, _, _⟩ rfl ?_
          try simp only [Act.put, putA, putB, putC]
          refine wpAnyN_s 27 ⟨some 118, _, _, _, _, _⟩ rfl ?_
          try simp only [Act.put, putA, putB, putC]
          refine wpAnyN_s 28 ⟨some 119, _, _, _, _, _⟩ rfl ?_
          try simp only [Act.put, putA, putB, putC]
          refine wpAnyN_s 29 ⟨some 120, _, _, _, _, _⟩ rfl ?_
          try simp only [Act.put, putA, putB, putC]
          refine wpAnyN_s 30 ⟨some 121, _, _, _, _, _⟩ rfl ?_
          try simp only [Act.put, putA, putB, putC]
          refine wpAnyN_s 31 ⟨some 122, _, _, _, _, _⟩ rfl ?_
          try simp only [Act.put, putA, putB, putC]
          refine wpAnyN_s 32 ⟨some 123, _, _, _, _, _⟩ rfl ?_
          try simp only [Act.put, putA, putB, putC]
          refine wpAnyN_s 33 ⟨some 124, _, _, _, _, _⟩ rfl ?_
          try simp only [Act.put, putA, putB, putC]
          refine wpAnyN_u 34 ⟨some 125, _, _, _, _, _⟩ _ rfl ?_
          try simp only [Act.put, putA, putB, putC]
          refine wpAnyN_end (by kernel_rfl) ?_
          go_wp2_with fail
          go_ret
          exact RChk.mk HC.out HSS.out HBW.out HN1.out HB6.out.drew
         have t1 : (x == FU) = false := by simpa using hfe
         have HXF : Hid (x < FU) := Lib.hid (by omega)
         clear hfx hfe
         by_cases hm0 : 0 < m
         ·rw [← HP.out, HY.out] at HVX
          have hpi : (m : Int) - 1 = (p : Int) := by have := HP.out; omega
          have w2' : IntKind.i64.wrap (p : Int) = (p : Int) := IntWalk.i64_in _ (by omega)
          have t2 : decide (0 < m) = true := decide_eq_true hm0
          by_cases hxy : x ≤ y
          ·have HC := Lib.hid (HCV.out (by rw [HVX.out, if_pos (.inr ⟨hm0, hxy⟩)]))
           have t3 : decide (x ≤ y) = true := decide_eq_true hxy
           go_upto_region 25 with fail
           refine wp_regionN (fun w' => w'.cell? ⟨S, 3, none⟩ = some (.slice (some ⟨b, off, none⟩) nv cv) ∧ w'.cell? ⟨b, off + m, none⟩ = some (.int .u32 x) ∧ w'.cell? ⟨b, off + p, none⟩ = some (.int .u32 y)) [] (by kernel_rfl) (by exact ⟨e3, c0, c1⟩) (fun hHeld => ?_)
           refine wpAnyN_u 0 ⟨some 91, _, _, _, _, _⟩ _ rfl ?_
           try simp only [Act.put, putA, putB, putC]
           refine wpAnyN_u 1 ⟨some 92, _, _, _, _, _⟩ _ rfl ?_
           try simp only [Act.put, putA, putB, putC]
           refine wpAnyN_u 2 ⟨some 93, _, _, _, _, _⟩ _ rfl ?_
           try simp only [Act.put, putA, putB, putC]
           refine wpAnyN_u 3 ⟨some 94, _, _, _, _, _⟩ _ rfl ?_
           try simp only [Act.put, putA, putB, putC]
           refine wpAnyN_u 4 ⟨some 95, _, _, _, _, _⟩ _ rfl ?_
           try simp only [Act.put, putA, putB, putC]
           refine wpAnyN_u 5 ⟨some 96, _, _, _, _, _⟩ _ rfl ?_
           try simp only [Act.put, putA, putB, putC]
           refine wpAnyN_one (i := 6) (o := ⟨some 97, _, _, _, _, _⟩) (by kernel_rfl) rfl (fun K hK => ?_)
           go_simp
           refine (rsub_any x FU _ x0 x1 f1 (by omega)).mono ?_
           rintro e w2 ⟨rfl, rfl⟩
           rw [HSB.out]
           refine hK.out _ _ (by exact hHeld) ?_
           clear hK K hHeld
           intro hHeld
           try simp only [Act.put, putA, putB, putC]
           refine wpAnyN_u 7 ⟨some 98, _, _, _, _, _⟩ _ rfl ?_
           try simp only [Act.put, putA, putB, putC]
           refine wpAnyN_u 8 ⟨some 99, _, _, _, _, _⟩ _ rfl ?_
           try simp only [Act.put, putA, putB, putC]
           refine wpAnyN_u 9 ⟨some 100, _, _, _, _, _⟩ _ rfl ?_
           try simp only [Act.put, putA, putB, putC]
           refine wpAnyN_u 10 ⟨some 101, _, _, _, _, _⟩ _ rfl ?_
           try simp only [Act.put, putA, putB, putC]
           refine wpAnyN_u 11 ⟨some 102, _, _, _, _, _⟩ _ rfl ?_
           try simp only [Act.put, putA, putB, putC]
           refine wpAnyN_u 12 ⟨some 103, _, _, _, _, _⟩ _ rfl ?_
           try simp only [Act.put, putA, putB, putC]
           refine wpAnyN_u 13 ⟨some 104, _, _, _, _, _⟩ _ rfl ?_
           try simp only [Act.put, putA, putB, putC]
           refine wpAnyN_u 14 ⟨some 105, _, _, _, _, _⟩ _ rfl ?_
           try simp only [Act.put, putA, putB, putC]
           refine wpAnyN_u 15 ⟨some 106, _, _, _, _, _⟩ _ rfl ?_
           try simp only [Act.put, putA, putB, putC]
           refine wpAnyN_u 16 ⟨some 107, _, _, _, _, _⟩ _ rfl ?_
           try simp only [Act.put, putA, putB, putC]
           refine wpAnyN_u 17 ⟨some 108, _, _, _, _, _⟩ _ rfl ?_
           try simp only [Act.put, putA, putB, putC]
           refine wpAnyN_u 18 ⟨some 109, _, _, _, _, _⟩ _ rfl ?_
           try simp only [Act.put, putA, putB, putC]
           refine wpAnyN_u 19 ⟨some 110, _, _, _, _, _⟩ _ rfl ?_
           try simp only [Act.put, putA, putB, putC]
           refine wpAnyN_u 20 ⟨some 111, _, _, _, _, _⟩ _ rfl ?_
           try simp only [Act.put, putA, putB, putC]
           refine wpAnyN_u 21 ⟨some 112, _, _, _, _, _⟩ _ rfl ?_
           try simp only [Act.put, putA, putB, putC]
           refine wpAnyN_u 22 ⟨some 113, _, _, _, _, _⟩ _ rfl ?_
           try simp only [Act.put, putA, putB, putC]
           refine wpAnyN_u 23 ⟨some 114, _, _, _, _, _⟩ _ rfl ?_
           try simp only [Act.put, putA, putB, putC]
           refine wpAnyN_u 24 ⟨some 115, _, _, _, _, _⟩ _ rfl ?_
           try simp only [Act.put, putA, putB, putC]
           refine wpAnyN_u 25 ⟨some 116, _, _, _, _, _⟩ _ rfl ?_
           try simp only [Act.put, putA, putB, putC]
           refine wpAnyN_u 26 ⟨some 117, _, _, _, _, _⟩ _ rfl ?_
           try simp only [Act.put, putA, putB, putC]
           refine wpAnyN_u 27 ⟨some 118, _, _, _, _, _⟩ _ rfl ?_
           try simp only [Act.put, putA, putB, putC]
           refine wpAnyN_u 28 ⟨some 119, _, _, _, _, _⟩ _ rfl ?_
           try simp only [Act.put, putA, putB, putC]
           refine wpAnyN_u 29 ⟨some 120, _, _, _, _, _⟩ _ rfl ?_
           try simp only [Act.put, putA, putB, putC]
           refine wpAnyN_u 30 ⟨some 121, _, _, _, _, _⟩ _ rfl ?_
           try simp only [Act.put, putA, putB, putC]
           refine wpAnyN_u 31 ⟨some 122, _, _, _, _, _⟩ _ rfl ?_
           try simp only [Act.put, putA, putB, putC]
           refine wpAnyN_u 32 ⟨some 123, _, _, _, _, _⟩ _ rfl ?_
           try simp only [Act.put, putA, putB, putC]
           refine wpAnyN_u 33 ⟨some 124, _, _, _, _, _⟩ _ rfl ?_
           try simp only [Act.put, putA, putB, putC]
           refine wpAnyN_u 34 ⟨some 125, _, _, _, _, _⟩ _ rfl ?_
           try simp only [Act.put, putA, putB, putC]
           refine wpAnyN_end (by kernel_rfl) ?_
           go_wp2_with fail
           go_ret
           exact RChk.mk HC.out HSS.out HBW.out HN1.out HB6.out.drew
          ·have HVN : Hid (viewsOk FU s.views (gk2 + 1) m = viewsOk FU s.views gk2 (m + 1)) := Lib.hid (by rw [HVX.out, if_neg (by have := HXF.out; omega)])
           have t3 : decide (x ≤ y) = false := decide_eq_false hxy
           clear hxy
           go_upto_region 25 with fail
           refine wp_regionN (fun w' => w'.cell? ⟨S, 3, none⟩ = some (.slice (some ⟨b, off, none⟩) nv cv) ∧ w'.cell? ⟨b, off + m, none⟩ = some (.int .u32 x) ∧ w'.cell? ⟨b, off + p, none⟩ = some (.int .u32 y)) [] (by kernel_rfl) (by exact ⟨e3, c0, c1⟩) (fun hHeld => ?_)
           refine wpAnyN_u 0 ⟨some 91, _, _, _, _, _⟩ _ rfl ?_
           try simp only [Act.put, putA, putB, putC]
           refine wpAnyN_u 1 ⟨some 92, _, _, _, _, _⟩ _ rfl ?_
           try simp only [Act.put, putA, putB, putC]
           refine wpAnyN_u 2 ⟨some 93, _, _, _, _, _⟩ _ rfl ?_
           try simp only [Act.put, putA, putB, putC]
           refine wpAnyN_u 3 ⟨some 94, _, _, _, _, _⟩ _ rfl ?_
           try simp only [Act.put, putA, putB, putC]
           refine wpAnyN_u 4 ⟨some 95, _, _, _, _, _⟩ _ rfl ?_
           try simp only [Act.put, putA, putB, putC]
           refine wpAnyN_u 5 ⟨some 96, _, _, _, _, _⟩ _ rfl ?_
           try simp only [Act.put, putA, putB, putC]
           refine wpAnyN_one (i := 6) (o := ⟨some 97, _, _, _, _, _⟩) (by kernel_rfl) rfl (fun K hK => ?_)
           go_simp
           refine (rsub_any x FU _ x0 x1 f1 (by omega)).mono ?_
           rintro e w2 ⟨rfl, rfl⟩
           rw [HSB.out]
           refine hK.out _ _ (by exact hHeld) ?_
           clear hK K hHeld
           intro hHeld
           try simp only [Act.put, putA, putB, putC]
           refine wpAnyN_u 7 ⟨some 98, _, _, _, _, _⟩ _ rfl ?_
           try simp only [Act.put, putA, putB, putC]
           refine wpAnyN_u 8 ⟨some 99, _, _, _, _, _⟩ _ rfl ?_
           try simp only [Act.put, putA, putB, putC]
           refine wpAnyN_u 9 ⟨some 100, _, _, _, _, _⟩ _ rfl ?_
           try simp only [Act.put, putA, putB, putC]
           refine wpAnyN_u 10 ⟨some 101, _, _, _, _, _⟩ _ rfl ?_
           try simp only [Act.put, putA, putB, putC]
           refine wpAnyN_u 11 ⟨some 102, _, _, _, _, _⟩ _ rfl ?_
           try simp only [Act.put, putA, putB, putC]
           refine wpAnyN_u 12 ⟨some 103, _, _, _, _, _⟩ _ rfl ?_
           try simp only [Act.put, putA, putB, putC]
           refine wpAnyN_u 13 ⟨some 104, _, _, _, _, _⟩ _ rfl ?_
           try simp only [Act.put, putA, putB, putC]
           refine wpAnyN_u 14 ⟨some 105, _, _, _, _, _⟩ _ rfl ?_
           try simp only [Act.put, putA, putB, putC]
           refine wpAnyN_u 15 ⟨some 106, _, _, _, _, _⟩ _ rfl ?_
           try simp only [Act.put, putA, putB, putC]
           refine wpAnyN_u 16 ⟨some 107, _, _, _, _, _⟩ _ rfl ?_
           try simp only [Act.put, putA, putB, putC]
           refine wpAnyN_u 17 ⟨some 108, _, _, _, _, _⟩ _ rfl ?_
           try simp only [Act.put, putA, putB, putC]
           refine wpAnyN_u 18 ⟨some 109, _, _, _, _, _⟩ _ rfl ?_
           try simp only [Act.put, putA, putB, putC]
           refine wpAnyN_u 19 ⟨some 110, _, _, _, _, _⟩ _ rfl ?_
           try simp only [Act.put, putA, putB, putC]
           refine wpAnyN_u 20 ⟨some 111, _, _, _, _, _⟩ _ rfl ?_
           try simp only [Act.put, putA, putB, putC]
           refine wpAnyN_u 21 ⟨some 112, _, _, _, _, _⟩ _ rfl ?_
           try simp only [Act.put, putA, putB, putC]
           refine wpAnyN_u 22 ⟨some 113, _, _, _, _, _⟩ _ rfl ?_
           try simp only [Act.put, putA, putB, putC]
           refine wpAnyN_u 23 ⟨some 114, _, _, _, _, _⟩ _ rfl ?_
           try simp only [Act.put, putA, putB, putC]
           refine wpAnyN_u 24 ⟨some 115, _, _, _, _, _⟩ _ rfl ?_
           try simp only [Act.put, putA, putB, putC]
           refine wpAnyN_u 25 ⟨some 116, _, _, _, _, _⟩ _ rfl ?_
           try simp only [Act.put, putA, putB, putC]
           refine wpAnyN_u 26 ⟨some 117, _, _, _, _, _⟩ _ rfl ?_
           try simp only [Act.put, putA, putB, putC]
           refine wpAnyN_u 27 ⟨some 118, _, _, _, _, _⟩ _ rfl ?_
           try simp only [Act.put, putA, putB, putC]
           refine wpAnyN_u 28 ⟨some 119, _, _, _, _, _⟩ _ rfl ?_
           try simp only [Act.put, putA, putB, putC]
           refine wpAnyN_u 29 ⟨some 120, _, _, _, _, _⟩ _ rfl ?_
           try simp only [Act.put, putA, putB, putC]
           refine wpAnyN_u 30 ⟨some 121, _, _, _, _, _⟩ _ rfl ?_
           try simp only [Act.put, putA, putB, putC]
           refine wpAnyN_u 31 ⟨some 122, _, _, _, _, _⟩ _ rfl ?_
           try simp only [Act.put, putA, putB, putC]
           refine wpAnyN_u 32 ⟨some 123, _, _, _, _, _⟩ _ rfl ?_
           try simp only [Act.put, putA, putB, putC]
           refine wpAnyN_u 33 ⟨some 124, _, _, _, _, _⟩ _ rfl ?_
           try simp only [Act.put, putA, putB, putC]
           refine wpAnyN_u 34 ⟨some 125, _, _, _, _, _⟩ _ rfl ?_
           try simp only [Act.put, putA, putB, putC]
           refine wpAnyN_end (by kernel_rfl) ?_
           go_wp2_with fail
           go_roundg gk2
           case measure => have := HG2.out; omega
           case rel => exact ⟨m + 1, by go_num, by have := HQ6.out; have := HG2.out; omega, by rw [← HVN.out, ← HG2.out]; exact HVO.out, HB6.out.drew⟩
         ·have HVN : Hid (viewsOk FU s.views (gk2 + 1) m = viewsOk FU s.views gk2 (m + 1)) := Lib.hid (by rw [HVX.out, if_neg (by have := HXF.out; omega)])
          have t2 : decide (0 < m) = false := decide_eq_false hm0
          go_upto_region 25 with fail
          refine wp_regionN (fun w' => w'.cell? ⟨S, 3, none⟩ = some (.slice (some ⟨b, off, none⟩) nv cv) ∧ w'.cell? ⟨b, off + m, none⟩ = some (.int .u32 x) ∧ w'.cell? ⟨b, off + p, none⟩ = some (.int .u32 y)) [] (by kernel_rfl) (by exact ⟨e3, c0, c1⟩) (fun hHeld => ?_)
          refine wpAnyN_u 0 ⟨some 91, _, _, _, _, _⟩ _ rfl ?_
          try simp only [Act.put, putA, putB, putC]
          refine wpAnyN_u 1 ⟨some 92, _, _, _, _, _⟩ _ rfl ?_
          try simp only [Act.put, putA, putB, putC]
          refine wpAnyN_u 2 ⟨some 93, _, _, _, _, _⟩ _ rfl ?_
          try simp only [Act.put, putA, putB, putC]
          refine wpAnyN_u 3 ⟨some 94, _, _, _, _, _⟩ _ rfl ?_
          try simp only [Act.put, putA, putB, putC]
          refine wpAnyN_u 4 ⟨some 95, _, _, _, _, _⟩ _ rfl ?_
          try simp only [Act.put, putA, putB, putC]
          refine wpAnyN_u 5 ⟨some 96, _, _, _, _, _⟩ _ rfl ?_
          try simp only [Act.put, putA, putB, putC]
          refine wpAnyN_one (i := 6) (o := ⟨some 97, _, _, _, _, _⟩) (by kernel_rfl) rfl (fun K hK => ?_)
          go_simp
          refine (rsub_any x FU _ x0 x1 f1 (by omega)).mono ?_
          rintro e w2 ⟨rfl, rfl⟩
          rw [HSB.out]
          refine hK.out _ _ (by exact hHeld) ?_
          clear hK K hHeld
          intro hHeld
          try simp only [Act.put, putA, putB, putC]
          refine wpAnyN_u 7 ⟨some 98, _, _, _, _, _⟩ _ rfl ?_
          try simp only [Act.put, putA, putB, putC]
          refine wpAnyN_u 8 ⟨some 99, _, _, _, _, _⟩ _ rfl ?_
          try simp only [Act.put, putA, putB, putC]
          refine wpAnyN_u 9 ⟨some 100, _, _, _, _, _⟩ _ rfl ?_
          try simp only [Act.put, putA, putB, putC]
          refine wpAnyN_u 10 ⟨some 101, _, _, _, _, _⟩ _ rfl ?_
          try simp only [Act.put, putA, putB, putC]
          refine wpAnyN_u 11 ⟨some 102, _, _, _, _, _⟩ _ rfl ?_
          try simp only [Act.put, putA, putB, putC]
          refine wpAnyN_u 12 ⟨some 103, _, _, _, _, _⟩ _ rfl ?_
          try simp only [Act.put, putA, putB, putC]
          refine wpAnyN_u 13 ⟨some 104, _, _, _, _, _⟩ _ rfl ?_
          try simp only [Act.put, putA, putB, putC]
          refine wpAnyN_u 14 ⟨some 105, _, _, _, _, _⟩ _ rfl ?_
          try simp only [Act.put, putA, putB, putC]
          refine wpAnyN_u 15 ⟨some 106, _, _, _, _, _⟩ _ rfl ?_
          try simp only [Act.put, putA, putB, putC]
          refine wpAnyN_u 16 ⟨some 107, _, _, _, _, _⟩ _ rfl ?_
          try simp only [Act.put, putA, putB, putC]
          refine wpAnyN_u 17 ⟨some 108, _, _, _, _, _⟩ _ rfl ?_
          try simp only [Act.put, putA, putB, putC]
          refine wpAnyN_u 18 ⟨some 109, _, _, _, _, _⟩ _ rfl ?_
          try simp only [Act.put, putA, putB, putC]
          refine wpAnyN_u 19 ⟨some 110, _, _, _, _, _⟩ _ rfl ?_
          try simp only [Act.put, putA, putB, putC]
          refine wpAnyN_u 20 ⟨some 111, _, _, _, _, _⟩ _ rfl ?_
          try simp only [Act.put, putA, putB, putC]
          refine wpAnyN_s 21 ⟨some 112, _, _, _, _, _⟩ rfl ?_
          try simp only [Act.put, putA, putB, putC]
          refine wpAnyN_s 22 ⟨some 113, _, _, _, _, _⟩ rfl ?_
          try simp only [Act.put, putA, putB, putC]
          refine wpAnyN_s 23 ⟨some 114, _, _, _, _, _⟩ rfl ?_
          try simp only [Act.put, putA, putB, putC]
          refine wpAnyN_s 24 ⟨some 115, _, _, _, _, _⟩ rfl ?_
          try simp only [Act.put, putA, putB, putC]
          refine wpAnyN_s 25 ⟨some 116, _, _, _, _, _⟩ rfl ?_
          try simp only [Act.put, putA, putB, putC]
          refine wpAnyN_s 26 ⟨some 117, _, _, _, _, _⟩ rfl ?_
          try simp only [Act.put, putA, putB, putC]
          refine wpAnyN_s 27 ⟨some 118, _, _, _, _, _⟩ rfl ?_
          try simp only [Act.put, putA, putB, putC]
          refine wpAnyN_s 28 ⟨some 119, _, _, _, _, _⟩ rfl ?_
          try simp only [Act.put, putA, putB, putC]
          refine wpAnyN_s 29 ⟨some 120, _, _, _, _, _⟩ rfl ?_
          try simp only [Act.put, putA, putB, putC]
          refine wpAnyN_s 30 ⟨some 121, _, _, _, _, _⟩ rfl ?_
          try simp only [Act.put, putA, putB, putC]
          refine wpAnyN_s 31 ⟨some 122, _, _, _, _, _⟩ rfl ?_
          try simp only [Act.put, putA, putB, putC]
          refine wpAnyN_s 32 ⟨some 123, _, _, _, _, _⟩ rfl ?_
          try simp only [Act.put, putA, putB, putC]
          refine wpAnyN_u 33 ⟨some 124, _, _, _, _, _⟩ _ rfl ?_
          try simp only [Act.put, putA, putB, putC]
          refine wpAnyN_u 34 ⟨some 125, _, _, _, _, _⟩ _ rfl ?_
          try simp only [Act.put, putA, putB, putC]
          refine wpAnyN_end (by kernel_rfl) ?_
          go_wp2_with fail
          go_roundg gk2
          case measure => have := HG2.out; omega
          case rel => exact ⟨m + 1, by go_num, by have := HQ6.out; have := HG2.out; omega, by rw [← HVN.out, ← HG2.out]; exact HVO.out, HB6.out.drew⟩
        ·obtain rfl : m = nv := by have := HQ6.out; omega
         have e3 : wr.cell? ⟨S, 3, none⟩ = some (.slice av m cv) := by rw [HB6.out.cell (p := ⟨S, 3, none⟩) HN1.out]; exact HE3.out
         have HC := Lib.hid (chk_ok HQ.out HNT.out HTN.out HKT.out (by
          have h1 : gk = 0 := by have := HQ6.out; omega
          rw [HLN.out.1, HLN.out.2.2.2, HFU.out, ← HVO.out, h1]; rfl))
         go_wp2_with fail
         go_ret
         exact RChk.mk HC.out HSS.out HBW.out HN1.out HB6.out
end Go.Proofs.YtehmompbmnejkaaGreat
