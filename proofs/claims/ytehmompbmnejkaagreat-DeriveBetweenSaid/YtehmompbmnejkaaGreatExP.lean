/- Contract of package bushelref05's Add. Conditions: below 2^2240 units. -/
import Derived.Test.YtehmompbmnejkaaGreatMExs
namespace Go.Proofs.YtehmompbmnejkaaGreat
open Go.RowKit Ieee

set_option maxRecDepth 100000 in
set_option maxHeartbeats 2000000 in
theorem rsadd_flag (w : World) (b x : Nat) (z : Int) (n u e m p na : Bool) (a : Option Addr) (l c : Nat) (hN : NumC w na a l c z) (hx : x < 18446744073709551616) (hk1 : kindZ x ≠ 1)
  (hn : fN b = n) (hu : fU b = u) (he : fD b = e) (hm : fM b = m) (hp : fP b = p) :
  Calls Tryz.prog 63 #[.agg #[.bool n, .bool u, .bool e, .bool m, .bool p, .bool na, .slice a l c], .float .f64 x] w (RRS (addF b z x) (addZ z x) (addOk z x) w) := by
 have HSP := Lib.hid (fun w => rsplit_any x w hx)
 have HKI := Lib.hid (fun w => rkind_any x w hx)
 have HN := Lib.hid hN
 rcases kind_cases x with hk | ⟨hk, hbl⟩ | ⟨hk, hbl⟩ | hk
 ·rw [show addF b z x = b ||| 1 from by unfold addF; rw [hk]; rfl, show addZ z x = z from by unfold addZ; rw [hk]; rfl, show addOk z x = true from by unfold addOk; rw [hk]; rfl]
  rw [hk] at HKI
  have HC : Hid (rsCells (b ||| 1) = fun ng a l c => #[.bool true, .bool u, .bool e, .bool m, .bool p, .bool ng, .slice a l c]) := Lib.hid (by
   funext ng a l c
   unfold rsCells
   rw [fN_or, fU_or, fD_or, fM_or, fP_or, hn, hu, he, hm, hp]
   simp [fN, fU, fD, fM, fP])
  clear hn hu he hm hp hN hx hk hk1
  go_enter Tryz.func63, Tryz.ntmps63
  go_upto_region 1 with fail
  obtain ⟨hk0, hk1, hbw, -⟩ := two_bx w 89 #[.bool n, .bool u, .bool e, .bool m, .bool p, .bool na, .slice a l c] #[.bool false, .bool false, .bool false, .bool false, .bool false, .bool false, .slice none 0 0]
  generalize ((w.alloc (.cells #[.bool n, .bool u, .bool e, .bool m, .bool p, .bool na, .slice a l c] 89)).alloc (.cells #[.bool false, .bool false, .bool false, .bool false, .bool false, .bool false, .slice none 0 0] 89)) = w7 at *
  have HN7 := Lib.hid (HN.out.below hbw (Nat.le_refl _))
  have HB7 := Lib.hid hbw
  generalize hsz0 : w.heap.size = s at *
  have HSZ := Lib.hid hsz0
  have HK0 := Lib.hid hk0
  have HK1 := Lib.hid hk1
  clear hk0 hk1 hsz0 hbw
  go_wp2_with fail
  refine (HSP.out _).mono ?_; rintro ee w8 ⟨ng, mm, xx, rfl, hsp, hb8⟩
  clear hsp
  have HB8 := Lib.hid (HB7.out.trans (hb8.mono (by rw [← HSZ.out]; exact HB7.out.size)))
  have HN8 := Lib.hid (HN7.out.below hb8 (Nat.le_refl _))
  have HK08 := Lib.hid (HK0.out.below hb8 HK0.out.lt)
  have HK18 := Lib.hid (HK1.out.below hb8 HK1.out.lt)
  clear hb8 HB7 HN7 HK0 HK1
  go_wp2_with fail
  refine (HKI.out _).mono ?_; rintro ee w9 ⟨rfl, hb9⟩
  have HB9 := Lib.hid (HB8.out.trans (hb9.mono (by rw [← HSZ.out]; exact HB8.out.size)))
  have HN9 := Lib.hid (HN8.out.below hb9 (Nat.le_refl _))
  have hk0 := HK08.out.below hb9 HK08.out.lt
  have hk1 := HK18.out.below hb9 HK18.out.lt
  have HK09 := Lib.hid hk0
  have HK19 := Lib.hid hk1
  clear hb9 HB8 HN8 HK08 HK18
  have x0 := hk0.c 0
  have x1 := hk0.c 1
  have x2 := hk0.c 2
  have x3 := hk0.c 3
  have x4 := hk0.c 4
  have x5 := hk0.c 5
  have x6 := hk0.c 6
  have r0 := hk1.c 0
  have r1 := hk1.c 1
  have r2 := hk1.c 2
  have r3 := hk1.c 3
  have r4 := hk1.c 4
  have r5 := hk1.c 5
  have r6 := hk1.c 6
  have xf : ∀ o, w9.frozen? ⟨s, o, none⟩ = false := fun o => hk0.frozen o
  have rf : ∀ o, w9.frozen? ⟨s + 1, o, none⟩ = false := fun o => hk1.frozen o
  clear hk0 hk1
  go_upto_region 5 with fail
  have ha0 : Blk (w9.setCell ⟨s, 0, none⟩ (.bool true)) s 89 #[.bool true, .bool u, .bool e, .bool m, .bool p, .bool na, .slice a l c] := (HK09.out.set_ 0 _).to rfl
  have hc0 : Blk (w9.setCell ⟨s, 0, none⟩ (.bool true)) (s + 1) 89 #[.bool false, .bool false, .bool false, .bool false, .bool false, .bool false, .slice none 0 0] := HK19.out.far (by simp) _
  have hn0 : NumC (w9.setCell ⟨s, 0, none⟩ (.bool true)) na a l c z := NumC.set HN9.out (HK09.out.cell 0) (fun _ e => by cases e) _
  have hb0 : Below s w (w9.setCell ⟨s, 0, none⟩ (.bool true)) := HB9.out.setCell (by simp) _
  have HRZ := Lib.hid (RRS.seven hn0 hc0 s HSZ.out hb0 (by omega) HC.out true)
  have HKZ := Lib.hid (Blk.seven hc0 true u e m p na a l c)
  generalize (w9.setCell ⟨s, 0, none⟩ (.bool true)) = w10 at *
  have x0 := ha0.c 0
  have x1 := ha0.c 1
  have x2 := ha0.c 2
  have x3 := ha0.c 3
  have x4 := ha0.c 4
  have x5 := ha0.c 5
  have x6 := ha0.c 6
  have r0 := hc0.c 0
  have r1 := hc0.c 1
  have r2 := hc0.c 2
  have r3 := hc0.c 3
  have r4 := hc0.c 4
  have r5 := hc0.c 5
  have r6 := hc0.c 6
  have rf : ∀ o, w10.frozen? ⟨s + 1, o, none⟩ = false := fun o => hc0.frozen o
  clear ha0 hc0 hn0 hb0
  go_wp2_with fail
  have hrz := HRZ.out
  have hkz := HKZ.out
  generalize (World.setCell _ _ _) = wz at hkz hrz ⊢
  have d0 := hkz.cell 0
  have d1 := hkz.cell 1
  have d2 := hkz.cell 2
  have d3 := hkz.cell 3
  have d4 := hkz.cell 4
  have d5 := hkz.cell 5
  have d6 := hkz.cell 6
  refine bodyPost_ret ?_ ?_ hrz
  rotate_left
  ·rfl
  ·clear hrz hkz
   simp at d0 d1 d2 d3 d4 d5 d6
   simp [results, Tryz.results63, go_sem, d0, d1, d2, d3, d4, d5, d6]
 ·rw [show addF b z x = b ||| (if S63 ≤ x then 4 else 2) from by unfold addF; rw [hk]; rfl, show addZ z x = z from by unfold addZ; rw [hk]; rfl, show addOk z x = true from by unfold addOk; rw [hk]; rfl]
  rw [hk] at HKI
  have HNG : Hid (∀ ng m ee, SplitOut x ng m ee → ng = decide (S63 ≤ x)) := Lib.hid (fun ng m ee h => by
   rcases h with ⟨-, h, -⟩ | ⟨h, -⟩
   ·rw [h, hbl]
   ·exact absurd h hk1)
  by_cases hsn : S63 ≤ x
  ·rw [if_pos hsn]
   have HC : Hid (rsCells (b ||| 4) = fun ng a l c => #[.bool n, .bool u, .bool true, .bool m, .bool p, .bool ng, .slice a l c]) := Lib.hid (by
    funext ng a l c
    unfold rsCells
    rw [fN_or, fU_or, fD_or, fM_or, fP_or, hn, hu, he, hm, hp]
    simp [fN, fU, fD, fM, fP])
   rw [decide_eq_true hsn] at HNG
   clear hn hu he hm hp hN hx hk hk1 hsn hbl
   cases u <;> cases e
   ·go_enter Tryz.func63, Tryz.ntmps63
    go_upto_region 1 with fail
    obtain ⟨hk0, hk1, hbw, -⟩ := two_bx w 89 #[.bool n, .bool false, .bool false, .bool m, .bool p, .bool na, .slice a l c] #[.bool false, .bool false, .bool false, .bool false, .bool false, .bool false, .slice none 0 0]
    generalize ((w.alloc (.cells #[.bool n, .bool false, .bool false, .bool m, .bool p, .bool na, .slice a l c] 89)).alloc (.cells #[.bool false, .bool false, .bool false, .bool false, .bool false, .bool false, .slice none 0 0] 89)) = w7 at *
    have HN7 := Lib.hid (HN.out.below hbw (Nat.le_refl _))
    have HB7 := Lib.hid hbw
    generalize hsz0 : w.heap.size = s at *
    have HSZ := Lib.hid hsz0
    have HK0 := Lib.hid hk0
    have HK1 := Lib.hid hk1
    clear hk0 hk1 hsz0 hbw
    go_wp2_with fail
    refine (HSP.out _).mono ?_; rintro ee w8 ⟨ng, mm, xx, rfl, hsp, hb8⟩
    have hng := HNG.out ng mm xx hsp
    subst hng
    clear hsp
    have HB8 := Lib.hid (HB7.out.trans (hb8.mono (by rw [← HSZ.out]; exact HB7.out.size)))
    have HN8 := Lib.hid (HN7.out.below hb8 (Nat.le_refl _))
    have HK08 := Lib.hid (HK0.out.below hb8 HK0.out.lt)
    have HK18 := Lib.hid (HK1.out.below hb8 HK1.out.lt)
    clear hb8 HB7 HN7 HK0 HK1
    go_wp2_with fail
    refine (HKI.out _).mono ?_; rintro ee w9 ⟨rfl, hb9⟩
    have HB9 := Lib.hid (HB8.out.trans (hb9.mono (by rw [← HSZ.out]; exact HB8.out.size)))
    have HN9 := Lib.hid (HN8.out.below hb9 (Nat.le_refl _))
    have hk0 := HK08.out.below hb9 HK08.out.lt
    have hk1 := HK18.out.below hb9 HK18.out.lt
    have HK09 := Lib.hid hk0
    have HK19 := Lib.hid hk1
    clear hb9 HB8 HN8 HK08 HK18
    have x0 := hk0.c 0
    have x1 := hk0.c 1
    have x2 := hk0.c 2
    have x3 := hk0.c 3
    have x4 := hk0.c 4
    have x5 := hk0.c 5
    have x6 := hk0.c 6
    have r0 := hk1.c 0
    have r1 := hk1.c 1
    have r2 := hk1.c 2
    have r3 := hk1.c 3
    have r4 := hk1.c 4
    have r5 := hk1.c 5
    have r6 := hk1.c 6
    have xf : ∀ o, w9.frozen? ⟨s, o, none⟩ = false := fun o => hk0.frozen o
    have rf : ∀ o, w9.frozen? ⟨s + 1, o, none⟩ = false := fun o => hk1.frozen o
    clear hk0 hk1
    go_upto_region 9 with fail
    have ha0 : Blk (w9.setCell ⟨s, 1, none⟩ (.bool false)) s 89 #[.bool n, .bool false, .bool false, .bool m, .bool p, .bool na, .slice a l c] := (HK09.out.set_ 1 _).to rfl
    have hc0 : Blk (w9.setCell ⟨s, 1, none⟩ (.bool false)) (s + 1) 89 #[.bool false, .bool false, .bool false, .bool false, .bool false, .bool false, .slice none 0 0] := HK19.out.far (by simp) _
    have hn0 : NumC (w9.setCell ⟨s, 1, none⟩ (.bool false)) na a l c z := NumC.set HN9.out (HK09.out.cell 1) (fun _ e => by cases e) _
    have hb0 : Below s w (w9.setCell ⟨s, 1, none⟩ (.bool false)) := HB9.out.setCell (by simp) _
    have ha1 : Blk ((w9.setCell ⟨s, 1, none⟩ (.bool false)).setCell ⟨s, 2, none⟩ (.bool true)) s 89 #[.bool n, .bool false, .bool true, .bool m, .bool p, .bool na, .slice a l c] := (ha0.set_ 2 _).to rfl
    have hc1 : Blk ((w9.setCell ⟨s, 1, none⟩ (.bool false)).setCell ⟨s, 2, none⟩ (.bool true)) (s + 1) 89 #[.bool false, .bool false, .bool false, .bool false, .bool false, .bool false, .slice none 0 0] := hc0.far (by simp) _
    have hn1 : NumC ((w9.setCell ⟨s, 1, none⟩ (.bool false)).setCell ⟨s, 2, none⟩ (.bool true)) na a l c z := NumC.set hn0 (ha0.cell 2) (fun _ e => by cases e) _
    have hb1 : Below s w ((w9.setCell ⟨s, 1, none⟩ (.bool false)).setCell ⟨s, 2, none⟩ (.bool true)) := hb0.setCell (by simp) _
    have HRZ := Lib.hid (RRS.seven hn1 hc1 s HSZ.out hb1 (by omega) HC.out true)
    have HKZ := Lib.hid (Blk.seven hc1 n false true m p na a l c)
    generalize ((w9.setCell ⟨s, 1, none⟩ (.bool false)).setCell ⟨s, 2, none⟩ (.bool true)) = w10 at *
    have x0 := ha1.c 0
    have x1 := ha1.c 1
    have x2 := ha1.c 2
    have x3 := ha1.c 3
    have x4 := ha1.c 4
    have x5 := ha1.c 5
    have x6 := ha1.c 6
    have r0 := hc1.c 0
    have r1 := hc1.c 1
    have r2 := hc1.c 2
    have r3 := hc1.c 3
    have r4 := hc1.c 4
    have r5 := hc1.c 5
    have r6 := hc1.c 6
    have rf : ∀ o, w10.frozen? ⟨s + 1, o, none⟩ = false := fun o => hc1.frozen o
    clear ha0 hc0 hn0 hb0 ha1 hc1 hn1 hb1
    go_wp2_with fail
    have hrz := HRZ.out
    have hkz := HKZ.out
    generalize (World.setCell _ _ _) = wz at hkz hrz ⊢
    have d0 := hkz.cell 0
    have d1 := hkz.cell 1
    have d2 := hkz.cell 2
    have d3 := hkz.cell 3
    have d4 := hkz.cell 4
    have d5 := hkz.cell 5
    have d6 := hkz.cell 6
    refine bodyPost_ret ?_ ?_ hrz
    rotate_left
    ·rfl
    ·clear hrz hkz
     simp at d0 d1 d2 d3 d4 d5 d6
     simp [results, Tryz.results63, go_sem, d0, d1, d2, d3, d4, d5, d6]
   ·go_enter Tryz.func63, Tryz.ntmps63
    go_upto_region 1 with fail
    obtain ⟨hk0, hk1, hbw, -⟩ := two_bx w 89 #[.bool n, .bool false, .bool true, .bool m, .bool p, .bool na, .slice a l c] #[.bool false, .bool false, .bool false, .bool false, .bool false, .bool false, .slice none 0 0]
    generalize ((w.alloc (.cells #[.bool n, .bool false, .bool true, .bool m, .bool p, .bool na, .slice a l c] 89)).alloc (.cells #[.bool false, .bool false, .bool false, .bool false, .bool false, .bool false, .slice none 0 0] 89)) = w7 at *
    have HN7 := Lib.hid (HN.out.below hbw (Nat.le_refl _))
    have HB7 := Lib.hid hbw
    generalize hsz0 : w.heap.size = s at *
    have HSZ := Lib.hid hsz0
    have HK0 := Lib.hid hk0
    have HK1 := Lib.hid hk1
    clear hk0 hk1 hsz0 hbw
    go_wp2_with fail
    refine (HSP.out _).mono ?_; rintro ee w8 ⟨ng, mm, xx, rfl, hsp, hb8⟩
    have hng := HNG.out ng mm xx hsp
    subst hng
    clear hsp
    have HB8 := Lib.hid (HB7.out.trans (hb8.mono (by rw [← HSZ.out]; exact HB7.out.size)))
    have HN8 := Lib.hid (HN7.out.below hb8 (Nat.le_refl _))
    have HK08 := Lib.hid (HK0.out.below hb8 HK0.out.lt)
    have HK18 := Lib.hid (HK1.out.below hb8 HK1.out.lt)
    clear hb8 HB7 HN7 HK0 HK1
    go_wp2_with fail
    refine (HKI.out _).mono ?_; rintro ee w9 ⟨rfl, hb9⟩
    have HB9 := Lib.hid (HB8.out.trans (hb9.mono (by rw [← HSZ.out]; exact HB8.out.size)))
    have HN9 := Lib.hid (HN8.out.below hb9 (Nat.le_refl _))
    have hk0 := HK08.out.below hb9 HK08.out.lt
    have hk1 := HK18.out.below hb9 HK18.out.lt
    have HK09 := Lib.hid hk0
    have HK19 := Lib.hid hk1
    clear hb9 HB8 HN8 HK08 HK18
    have x0 := hk0.c 0
    have x1 := hk0.c 1
    have x2 := hk0.c 2
    have x3 := hk0.c 3
    have x4 := hk0.c 4
    have x5 := hk0.c 5
    have x6 := hk0.c 6
    have r0 := hk1.c 0
    have r1 := hk1.c 1
    have r2 := hk1.c 2
    have r3 := hk1.c 3
    have r4 := hk1.c 4
    have r5 := hk1.c 5
    have r6 := hk1.c 6
    have xf : ∀ o, w9.frozen? ⟨s, o, none⟩ = false := fun o => hk0.frozen o
    have rf : ∀ o, w9.frozen? ⟨s + 1, o, none⟩ = false := fun o => hk1.frozen o
    clear hk0 hk1
    go_upto_region 9 with fail
    have ha0 : Blk (w9.setCell ⟨s, 1, none⟩ (.bool false)) s 89 #[.bool n, .bool false, .bool true, .bool m, .bool p, .bool na, .slice a l c] := (HK09.out.set_ 1 _).to rfl
    have hc0 : Blk (w9.setCell ⟨s, 1, none⟩ (.bool false)) (s + 1) 89 #[.bool false, .bool false, .bool false, .bool false, .bool false, .bool false, .slice none 0 0] := HK19.out.far (by simp) _
    have hn0 : NumC (w9.setCell ⟨s, 1, none⟩ (.bool false)) na a l c z := NumC.set HN9.out (HK09.out.cell 1) (fun _ e => by cases e) _
    have hb0 : Below s w (w9.setCell ⟨s, 1, none⟩ (.bool false)) := HB9.out.setCell (by simp) _
    have ha1 : Blk ((w9.setCell ⟨s, 1, none⟩ (.bool false)).setCell ⟨s, 2, none⟩ (.bool true)) s 89 #[.bool n, .bool false, .bool true, .bool m, .bool p, .bool na, .slice a l c] := (ha0.set_ 2 _).to rfl
    have hc1 : Blk ((w9.setCell ⟨s, 1, none⟩ (.bool false)).setCell ⟨s, 2, none⟩ (.bool true)) (s + 1) 89 #[.bool false, .bool false, .bool false, .bool false, .bool false, .bool false, .slice none 0 0] := hc0.far (by simp) _
    have hn1 : NumC ((w9.setCell ⟨s, 1, none⟩ (.bool false)).setCell ⟨s, 2, none⟩ (.bool true)) na a l c z := NumC.set hn0 (ha0.cell 2) (fun _ e => by cases e) _
    have hb1 : Below s w ((w9.setCell ⟨s, 1, none⟩ (.bool false)).setCell ⟨s, 2, none⟩ (.bool true)) := hb0.setCell (by simp) _
    have HRZ := Lib.hid (RRS.seven hn1 hc1 s HSZ.out hb1 (by omega) HC.out true)
    have HKZ := Lib.hid (Blk.seven hc1 n false true m p na a l c)
    generalize ((w9.setCell ⟨s, 1, none⟩ (.bool false)).setCell ⟨s, 2, none⟩ (.bool true)) = w10 at *
    have x0 := ha1.c 0
    have x1 := ha1.c 1
    have x2 := ha1.c 2
    have x3 := ha1.c 3
    have x4 := ha1.c 4
    have x5 := ha1.c 5
    have x6 := ha1.c 6
    have r0 := hc1.c 0
    have r1 := hc1.c 1
    have r2 := hc1.c 2
    have r3 := hc1.c 3
    have r4 := hc1.c 4
    have r5 := hc1.c 5
    have r6 := hc1.c 6
    have rf : ∀ o, w10.frozen? ⟨s + 1, o, none⟩ = false := fun o => hc1.frozen o
    clear ha0 hc0 hn0 hb0 ha1 hc1 hn1 hb1
    go_wp2_with fail
    have hrz := HRZ.out
    have hkz := HKZ.out
    generalize (World.setCell _ _ _) = wz at hkz hrz ⊢
    have d0 := hkz.cell 0
    have d1 := hkz.cell 1
    have d2 := hkz.cell 2
    have d3 := hkz.cell 3
    have d4 := hkz.cell 4
    have d5 := hkz.cell 5
    have d6 := hkz.cell 6
    refine bodyPost_ret ?_ ?_ hrz
    rotate_left
    ·rfl
    ·clear hrz hkz
     simp at d0 d1 d2 d3 d4 d5 d6
     simp [results, Tryz.results63, go_sem, d0, d1, d2, d3, d4, d5, d6]
   ·go_enter Tryz.func63, Tryz.ntmps63
    go_upto_region 1 with fail
    obtain ⟨hk0, hk1, hbw, -⟩ := two_bx w 89 #[.bool n, .bool true, .bool false, .bool m, .bool p, .bool na, .slice a l c] #[.bool false, .bool false, .bool false, .bool false, .bool false, .bool false, .slice none 0 0]
    generalize ((w.alloc (.cells #[.bool n, .bool true, .bool false, .bool m, .bool p, .bool na, .slice a l c] 89)).alloc (.cells #[.bool false, .bool false, .bool false, .bool false, .bool false, .bool false, .slice none 0 0] 89)) = w7 at *
    have HN7 := Lib.hid (HN.out.below hbw (Nat.le_refl _))
    have HB7 := Lib.hid hbw
    generalize hsz0 : w.heap.size = s at *
    have HSZ := Lib.hid hsz0
    have HK0 := Lib.hid hk0
    have HK1 := Lib.hid hk1
    clear hk0 hk1 hsz0 hbw
    go_wp2_with fail
    refine (HSP.out _).mono ?_; rintro ee w8 ⟨ng, mm, xx, rfl, hsp, hb8⟩
    have hng := HNG.out ng mm xx hsp
    subst hng
    clear hsp
    have HB8 := Lib.hid (HB7.out.trans (hb8.mono (by rw [← HSZ.out]; exact HB7.out.size)))
    have HN8 := Lib.hid (HN7.out.below hb8 (Nat.le_refl _))
    have HK08 := Lib.hid (HK0.out.below hb8 HK0.out.lt)
    have HK18 := Lib.hid (HK1.out.below hb8 HK1.out.lt)
    clear hb8 HB7 HN7 HK0 HK1
    go_wp2_with fail
    refine (HKI.out _).mono ?_; rintro ee w9 ⟨rfl, hb9⟩
    have HB9 := Lib.hid (HB8.out.trans (hb9.mono (by rw [← HSZ.out]; exact HB8.out.size)))
    have HN9 := Lib.hid (HN8.out.below hb9 (Nat.le_refl _))
    have hk0 := HK08.out.below hb9 HK08.out.lt
    have hk1 := HK18.out.below hb9 HK18.out.lt
    have HK09 := Lib.hid hk0
    have HK19 := Lib.hid hk1
    clear hb9 HB8 HN8 HK08 HK18
    have x0 := hk0.c 0
    have x1 := hk0.c 1
    have x2 := hk0.c 2
    have x3 := hk0.c 3
    have x4 := hk0.c 4
    have x5 := hk0.c 5
    have x6 := hk0.c 6
    have r0 := hk1.c 0
    have r1 := hk1.c 1
    have r2 := hk1.c 2
    have r3 := hk1.c 3
    have r4 := hk1.c 4
    have r5 := hk1.c 5
    have r6 := hk1.c 6
    have xf : ∀ o, w9.frozen? ⟨s, o, none⟩ = false := fun o => hk0.frozen o
    have rf : ∀ o, w9.frozen? ⟨s + 1, o, none⟩ = false := fun o => hk1.frozen o
    clear hk0 hk1
    go_upto_region 9 with fail
    have ha0 : Blk (w9.setCell ⟨s, 1, none⟩ (.bool true)) s 89 #[.bool n, .bool true, .bool false, .bool m, .bool p, .bool na, .slice a l c] := (HK09.out.set_ 1 _).to rfl
    have hc0 : Blk (w9.setCell ⟨s, 1, none⟩ (.bool true)) (s + 1) 89 #[.bool false, .bool false, .bool false, .bool false, .bool false, .bool false, .slice none 0 0] := HK19.out.far (by simp) _
    have hn0 : NumC (w9.setCell ⟨s, 1, none⟩ (.bool true)) na a l c z := NumC.set HN9.out (HK09.out.cell 1) (fun _ e => by cases e) _
    have hb0 : Below s w (w9.setCell ⟨s, 1, none⟩ (.bool true)) := HB9.out.setCell (by simp) _
    have ha1 : Blk ((w9.setCell ⟨s, 1, none⟩ (.bool true)).setCell ⟨s, 2, none⟩ (.bool true)) s 89 #[.bool n, .bool true, .bool true, .bool m, .bool p, .bool na, .slice a l c] := (ha0.set_ 2 _).to rfl
    have hc1 : Blk ((w9.setCell ⟨s, 1, none⟩ (.bool true)).setCell ⟨s, 2, none⟩ (.bool true)) (s + 1) 89 #[.bool false, .bool false, .bool false, .bool false, .bool false, .bool false, .slice none 0 0] := hc0.far (by simp) _
    have hn1 : NumC ((w9.setCell ⟨s, 1, none⟩ (.bool true)).setCell ⟨s, 2, none⟩ (.bool true)) na a l c z := NumC.set hn0 (ha0.cell 2) (fun _ e => by cases e) _
    have hb1 : Below s w ((w9.setCell ⟨s, 1, none⟩ (.bool true)).setCell ⟨s, 2, none⟩ (.bool true)) := hb0.setCell (by simp) _
    have HRZ := Lib.hid (RRS.seven hn1 hc1 s HSZ.out hb1 (by omega) HC.out true)
    have HKZ := Lib.hid (Blk.seven hc1 n true true m p na a l c)
    generalize ((w9.setCell ⟨s, 1, none⟩ (.bool true)).setCell ⟨s, 2, none⟩ (.bool true)) = w10 at *
    have x0 := ha1.c 0
    have x1 := ha1.c 1
    have x2 := ha1.c 2
    have x3 := ha1.c 3
    have x4 := ha1.c 4
    have x5 := ha1.c 5
    have x6 := ha1.c 6
    have r0 := hc1.c 0
    have r1 := hc1.c 1
    have r2 := hc1.c 2
    have r3 := hc1.c 3
    have r4 := hc1.c 4
    have r5 := hc1.c 5
    have r6 := hc1.c 6
    have rf : ∀ o, w10.frozen? ⟨s + 1, o, none⟩ = false := fun o => hc1.frozen o
    clear ha0 hc0 hn0 hb0 ha1 hc1 hn1 hb1
    go_wp2_with fail
    have hrz := HRZ.out
    have hkz := HKZ.out
    generalize (World.setCell _ _ _) = wz at hkz hrz ⊢
    have d0 := hkz.cell 0
    have d1 := hkz.cell 1
    have d2 := hkz.cell 2
    have d3 := hkz.cell 3
    have d4 := hkz.cell 4
    have d5 := hkz.cell 5
    have d6 := hkz.cell 6
    refine bodyPost_ret ?_ ?_ hrz
    rotate_left
    ·rfl
    ·clear hrz hkz
     simp at d0 d1 d2 d3 d4 d5 d6
     simp [results, Tryz.results63, go_sem, d0, d1, d2, d3, d4, d5, d6]
   ·go_enter Tryz.func63, Tryz.ntmps63
    go_upto_region 1 with fail
    obtain ⟨hk0, hk1, hbw, -⟩ := two_bx w 89 #[.bool n, .bool true, .bool true, .bool m, .bool p, .bool na, .slice a l c] #[.bool false, .bool false, .bool false, .bool false, .bool false, .bool false, .slice none 0 0]
    generalize ((w.alloc (.cells #[.bool n, .bool true, .bool true, .bool m, .bool p, .bool na, .slice a l c] 89)).alloc (.cells #[.bool false, .bool false, .bool false, .bool false, .bool false, .bool false, .slice none 0 0] 89)) = w7 at *
    have HN7 := Lib.hid (HN.out.below hbw (Nat.le_refl _))
    have HB7 := Lib.hid hbw
    generalize hsz0 : w.heap.size = s at *
    have HSZ := Lib.hid hsz0
    have HK0 := Lib.hid hk0
    have HK1 := Lib.hid hk1
    clear hk0 hk1 hsz0 hbw
    go_wp2_with fail
    refine (HSP.out _).mono ?_; rintro ee w8 ⟨ng, mm, xx, rfl, hsp, hb8⟩
    have hng := HNG.out ng mm xx hsp
    subst hng
    clear hsp
    have HB8 := Lib.hid (HB7.out.trans (hb8.mono (by rw [← HSZ.out]; exact HB7.out.size)))
    have HN8 := Lib.hid (HN7.out.below hb8 (Nat.le_refl _))
    have HK08 := Lib.hid (HK0.out.below hb8 HK0.out.lt)
    have HK18 := Lib.hid (HK1.out.below hb8 HK1.out.lt)
    clear hb8 HB7 HN7 HK0 HK1
    go_wp2_with fail
    refine (HKI.out _).mono ?_; rintro ee w9 ⟨rfl, hb9⟩
    have HB9 := Lib.hid (HB8.out.trans (hb9.mono (by rw [← HSZ.out]; exact HB8.out.size)))
    have HN9 := Lib.hid (HN8.out.below hb9 (Nat.le_refl _))
    have hk0 := HK08.out.below hb9 HK08.out.lt
    have hk1 := HK18.out.below hb9 HK18.out.lt
    have HK09 := Lib.hid hk0
    have HK19 := Lib.hid hk1
    clear hb9 HB8 HN8 HK08 HK18
    have x0 := hk0.c 0
    have x1 := hk0.c 1
    have x2 := hk0.c 2
    have x3 := hk0.c 3
    have x4 := hk0.c 4
    have x5 := hk0.c 5
    have x6 := hk0.c 6
    have r0 := hk1.c 0
    have r1 := hk1.c 1
    have r2 := hk1.c 2
    have r3 := hk1.c 3
    have r4 := hk1.c 4
    have r5 := hk1.c 5
    have r6 := hk1.c 6
    have xf : ∀ o, w9.frozen? ⟨s, o, none⟩ = false := fun o => hk0.frozen o
    have rf : ∀ o, w9.frozen? ⟨s + 1, o, none⟩ = false := fun o => hk1.frozen o
    clear hk0 hk1
    go_upto_region 9 with fail
    have ha0 : Blk (w9.setCell ⟨s, 1, none⟩ (.bool true)) s 89 #[.bool n, .bool true, .bool true, .bool m, .bool p, .bool na, .slice a l c] := (HK09.out.set_ 1 _).to rfl
    have hc0 : Blk (w9.setCell ⟨s, 1, none⟩ (.bool true)) (s + 1) 89 #[.bool false, .bool false, .bool false, .bool false, .bool false, .bool false, .slice none 0 0] := HK19.out.far (by simp) _
    have hn0 : NumC (w9.setCell ⟨s, 1, none⟩ (.bool true)) na a l c z := NumC.set HN9.out (HK09.out.cell 1) (fun _ e => by cases e) _
    have hb0 : Below s w (w9.setCell ⟨s, 1, none⟩ (.bool true)) := HB9.out.setCell (by simp) _
    have ha1 : Blk ((w9.setCell ⟨s, 1, none⟩ (.bool true)).setCell ⟨s, 2, none⟩ (.bool true)) s 89 #[.bool n, .bool true, .bool true, .bool m, .bool p, .bool na, .slice a l c] := (ha0.set_ 2 _).to rfl
    have hc1 : Blk ((w9.setCell ⟨s, 1, none⟩ (.bool true)).setCell ⟨s, 2, none⟩ (.bool true)) (s + 1) 89 #[.bool false, .bool false, .bool false, .bool false, .bool false, .bool false, .slice none 0 0] := hc0.far (by simp) _
    have hn1 : NumC ((w9.setCell ⟨s, 1, none⟩ (.bool true)).setCell ⟨s, 2, none⟩ (.bool true)) na a l c z := NumC.set hn0 (ha0.cell 2) (fun _ e => by cases e) _
    have hb1 : Below s w ((w9.setCell ⟨s, 1, none⟩ (.bool true)).setCell ⟨s, 2, none⟩ (.bool true)) := hb0.setCell (by simp) _
    have HRZ := Lib.hid (RRS.seven hn1 hc1 s HSZ.out hb1 (by omega) HC.out true)
    have HKZ := Lib.hid (Blk.seven hc1 n true true m p na a l c)
    generalize ((w9.setCell ⟨s, 1, none⟩ (.bool true)).setCell ⟨s, 2, none⟩ (.bool true)) = w10 at *
    have x0 := ha1.c 0
    have x1 := ha1.c 1
    have x2 := ha1.c 2
    have x3 := ha1.c 3
    have x4 := ha1.c 4
    have x5 := ha1.c 5
    have x6 := ha1.c 6
    have r0 := hc1.c 0
    have r1 := hc1.c 1
    have r2 := hc1.c 2
    have r3 := hc1.c 3
    have r4 := hc1.c 4
    have r5 := hc1.c 5
    have r6 := hc1.c 6
    have rf : ∀ o, w10.frozen? ⟨s + 1, o, none⟩ = false := fun o => hc1.frozen o
    clear ha0 hc0 hn0 hb0 ha1 hc1 hn1 hb1
    go_wp2_with fail
    have hrz := HRZ.out
    have hkz := HKZ.out
    generalize (World.setCell _ _ _) = wz at hkz hrz ⊢
    have d0 := hkz.cell 0
    have d1 := hkz.cell 1
    have d2 := hkz.cell 2
    have d3 := hkz.cell 3
    have d4 := hkz.cell 4
    have d5 := hkz.cell 5
    have d6 := hkz.cell 6
    refine bodyPost_ret ?_ ?_ hrz
    rotate_left
    ·rfl
    ·clear hrz hkz
     simp at d0 d1 d2 d3 d4 d5 d6
     simp [results, Tryz.results63, go_sem, d0, d1, d2, d3, d4, d5, d6]
  ·rw [if_neg hsn]
   have HC : Hid (rsCells (b ||| 2) = fun ng a l c => #[.bool n, .bool true, .bool e, .bool m, .bool p, .bool ng, .slice a l c]) := Lib.hid (by
    funext ng a l c
    unfold rsCells
    rw [fN_or, fU_or, fD_or, fM_or, fP_or, hn, hu, he, hm, hp]
    simp [fN, fU, fD, fM, fP])
   rw [decide_eq_false hsn] at HNG
   clear hn hu he hm hp hN hx hk hk1 hsn hbl
   cases u <;> cases e
   ·go_enter Tryz.func63, Tryz.ntmps63
    go_upto_region 1 with fail
    obtain ⟨hk0, hk1, hbw, -⟩ := two_bx w 89 #[.bool n, .bool false, .bool false, .bool m, .bool p, .bool na, .slice a l c] #[.bool false, .bool false, .bool false, .bool false, .bool false, .bool false, .slice none 0 0]
    generalize ((w.alloc (.cells #[.bool n, .bool false, .bool false, .bool m, .bool p, .bool na, .slice a l c] 89)).alloc (.cells #[.bool false, .bool false, .bool false, .bool false, .bool false, .bool false, .slice none 0 0] 89)) = w7 at *
    have HN7 := Lib.hid (HN.out.below hbw (Nat.le_refl _))
    have HB7 := Lib.hid hbw
    generalize hsz0 : w.heap.size = s at *
    have HSZ := Lib.hid hsz0
    have HK0 := Lib.hid hk0
    have HK1 := Lib.hid hk1
    clear hk0 hk1 hsz0 hbw
    go_wp2_with fail
    refine (HSP.out _).mono ?_; rintro ee w8 ⟨ng, mm, xx, rfl, hsp, hb8⟩
    have hng := HNG.out ng mm xx hsp
    subst hng
    clear hsp
    have HB8 := Lib.hid (HB7.out.trans (hb8.mono (by rw [← HSZ.out]; exact HB7.out.size)))
    have HN8 := Lib.hid (HN7.out.below hb8 (Nat.le_refl _))
    have HK08 := Lib.hid (HK0.out.below hb8 HK0.out.lt)
    have HK18 := Lib.hid (HK1.out.below hb8 HK1.out.lt)
    clear hb8 HB7 HN7 HK0 HK1
    go_wp2_with fail
    refine (HKI.out _).mono ?_; rintro ee w9 ⟨rfl, hb9⟩
    have HB9 := Lib.hid (HB8.out.trans (hb9.mono (by rw [← HSZ.out]; exact HB8.out.size)))
    have HN9 := Lib.hid (HN8.out.below hb9 (Nat.le_refl _))
    have hk0 := HK08.out.below hb9 HK08.out.lt
    have hk1 := HK18.out.below hb9 HK18.out.lt
    have HK09 := Lib.hid hk0
    have HK19 := Lib.hid hk1
    clear hb9 HB8 HN8 HK08 HK18
    have x0 := hk0.c 0
    have x1 := hk0.c 1
    have x2 := hk0.c 2
    have x3 := hk0.c 3
    have x4 := hk0.c 4
    have x5 := hk0.c 5
    have x6 := hk0.c 6
    have r0 := hk1.c 0
    have r1 := hk1.c 1
    have r2 := hk1.c 2
    have r3 := hk1.c 3
    have r4 := hk1.c 4
    have r5 := hk1.c 5
    have r6 := hk1.c 6
    have xf : ∀ o, w9.frozen? ⟨s, o, none⟩ = false := fun o => hk0.frozen o
    have rf : ∀ o, w9.frozen? ⟨s + 1, o, none⟩ = false := fun o => hk1.frozen o
    clear hk0 hk1
    go_upto_region 9 with fail
    have ha0 : Blk (w9.setCell ⟨s, 1, none⟩ (.bool true)) s 89 #[.bool n, .bool true, .bool false, .bool m, .bool p, .bool na, .slice a l c] := (HK09.out.set_ 1 _).to rfl
    have hc0 : Blk (w9.setCell ⟨s, 1, none⟩ (.bool true)) (s + 1) 89 #[.bool false, .bool false, .bool false, .bool false, .bool false, .bool false, .slice none 0 0] := HK19.out.far (by simp) _
    have hn0 : NumC (w9.setCell ⟨s, 1, none⟩ (.bool true)) na a l c z := NumC.set HN9.out (HK09.out.cell 1) (fun _ e => by cases e) _
    have hb0 : Below s w (w9.setCell ⟨s, 1, none⟩ (.bool true)) := HB9.out.setCell (by simp) _
    have ha1 : Blk ((w9.setCell ⟨s, 1, none⟩ (.bool true)).setCell ⟨s, 2, none⟩ (.bool false)) s 89 #[.bool n, .bool true, .bool false, .bool m, .bool p, .bool na, .slice a l c] := (ha0.set_ 2 _).to rfl
    have hc1 : Blk ((w9.setCell ⟨s, 1, none⟩ (.bool true)).setCell ⟨s, 2, none⟩ (.bool false)) (s + 1) 89 #[.bool false, .bool false, .bool false, .bool false, .bool false, .bool false, .slice none 0 0] := hc0.far (by simp) _
    have hn1 : NumC ((w9.setCell ⟨s, 1, none⟩ (.bool true)).setCell ⟨s, 2, none⟩ (.bool false)) na a l c z := NumC.set hn0 (ha0.cell 2) (fun _ e => by cases e) _
    have hb1 : Below s w ((w9.setCell ⟨s, 1, none⟩ (.bool true)).setCell ⟨s, 2, none⟩ (.bool false)) := hb0.setCell (by simp) _
    have HRZ := Lib.hid (RRS.seven hn1 hc1 s HSZ.out hb1 (by omega) HC.out true)
    have HKZ := Lib.hid (Blk.seven hc1 n true false m p na a l c)
    generalize ((w9.setCell ⟨s, 1, none⟩ (.bool true)).setCell ⟨s, 2, none⟩ (.bool false)) = w10 at *
    have x0 := ha1.c 0
    have x1 := ha1.c 1
    have x2 := ha1.c 2
    have x3 := ha1.c 3
    have x4 := ha1.c 4
    have x5 := ha1.c 5
    have x6 := ha1.c 6
    have r0 := hc1.c 0
    have r1 := hc1.c 1
    have r2 := hc1.c 2
    have r3 := hc1.c 3
    have r4 := hc1.c 4
    have r5 := hc1.c 5
    have r6 := hc1.c 6
    have rf : ∀ o, w10.frozen? ⟨s + 1, o, none⟩ = false := fun o => hc1.frozen o
    clear ha0 hc0 hn0 hb0 ha1 hc1 hn1 hb1
    go_wp2_with fail
    have hrz := HRZ.out
    have hkz := HKZ.out
    generalize (World.setCell _ _ _) = wz at hkz hrz ⊢
    have d0 := hkz.cell 0
    have d1 := hkz.cell 1
    have d2 := hkz.cell 2
    have d3 := hkz.cell 3
    have d4 := hkz.cell 4
    have d5 := hkz.cell 5
    have d6 := hkz.cell 6
    refine bodyPost_ret ?_ ?_ hrz
    rotate_left
    ·rfl
    ·clear hrz hkz
     simp at d0 d1 d2 d3 d4 d5 d6
     simp [results, Tryz.results63, go_sem, d0, d1, d2, d3, d4, d5, d6]
   ·go_enter Tryz.func63, Tryz.ntmps63
    go_upto_region 1 with fail
    obtain ⟨hk0, hk1, hbw, -⟩ := two_bx w 89 #[.bool n, .bool false, .bool true, .bool m, .bool p, .bool na, .slice a l c] #[.bool false, .bool false, .bool false, .bool false, .bool false, .bool false, .slice none 0 0]
    generalize ((w.alloc (.cells #[.bool n, .bool false, .bool true, .bool m, .bool p, .bool na, .slice a l c] 89)).alloc (.cells #[.bool false, .bool false, .bool false, .bool false, .bool false, .bool false, .slice none 0 0] 89)) = w7 at *
    have HN7 := Lib.hid (HN.out.below hbw (Nat.le_refl _))
    have HB7 := Lib.hid hbw
    generalize hsz0 : w.heap.size = s at *
    have HSZ := Lib.hid hsz0
    have HK0 := Lib.hid hk0
    have HK1 := Lib.hid hk1
    clear hk0 hk1 hsz0 hbw
    go_wp2_with fail
    refine (HSP.out _).mono ?_; rintro ee w8 ⟨ng, mm, xx, rfl, hsp, hb8⟩
    have hng := HNG.out ng mm xx hsp
    subst hng
    clear hsp
    have HB8 := Lib.hid (HB7.out.trans (hb8.mono (by rw [← HSZ.out]; exact HB7.out.size)))
    have HN8 := Lib.hid (HN7.out.below hb8 (Nat.le_refl _))
    have HK08 := Lib.hid (HK0.out.below hb8 HK0.out.lt)
    have HK18 := Lib.hid (HK1.out.below hb8 HK1.out.lt)
    clear hb8 HB7 HN7 HK0 HK1
    go_wp2_with fail
    refine (HKI.out _).mono ?_; rintro ee w9 ⟨rfl, hb9⟩
    have HB9 := Lib.hid (HB8.out.trans (hb9.mono (by rw [← HSZ.out]; exact HB8.out.size)))
    have HN9 := Lib.hid (HN8.out.below hb9 (Nat.le_refl _))
    have hk0 := HK08.out.below hb9 HK08.out.lt
    have hk1 := HK18.out.below hb9 HK18.out.lt
    have HK09 := Lib.hid hk0
    have HK19 := Lib.hid hk1
    clear hb9 HB8 HN8 HK08 HK18
    have x0 := hk0.c 0
    have x1 := hk0.c 1
    have x2 := hk0.c 2
    have x3 := hk0.c 3
    have x4 := hk0.c 4
    have x5 := hk0.c 5
    have x6 := hk0.c 6
    have r0 := hk1.c 0
    have r1 := hk1.c 1
    have r2 := hk1.c 2
    have r3 := hk1.c 3
    have r4 := hk1.c 4
    have r5 := hk1.c 5
    have r6 := hk1.c 6
    have xf : ∀ o, w9.frozen? ⟨s, o, none⟩ = false := fun o => hk0.frozen o
    have rf : ∀ o, w9.frozen? ⟨s + 1, o, none⟩ = false := fun o => hk1.frozen o
    clear hk0 hk1
    go_upto_region 9 with fail
    have ha0 : Blk (w9.setCell ⟨s, 1, none⟩ (.bool true)) s 89 #[.bool n, .bool true, .bool true, .bool m, .bool p, .bool na, .slice a l c] := (HK09.out.set_ 1 _).to rfl
    have hc0 : Blk (w9.setCell ⟨s, 1, none⟩ (.bool true)) (s + 1) 89 #[.bool false, .bool false, .bool false, .bool false, .bool false, .bool false, .slice none 0 0] := HK19.out.far (by simp) _
    have hn0 : NumC (w9.setCell ⟨s, 1, none⟩ (.bool true)) na a l c z := NumC.set HN9.out (HK09.out.cell 1) (fun _ e => by cases e) _
    have hb0 : Below s w (w9.setCell ⟨s, 1, none⟩ (.bool true)) := HB9.out.setCell (by simp) _
    have ha1 : Blk ((w9.setCell ⟨s, 1, none⟩ (.bool true)).setCell ⟨s, 2, none⟩ (.bool true)) s 89 #[.bool n, .bool true, .bool true, .bool m, .bool p, .bool na, .slice a l c] := (ha0.set_ 2 _).to rfl
    have hc1 : Blk ((w9.setCell ⟨s, 1, none⟩ (.bool true)).setCell ⟨s, 2, none⟩ (.bool true)) (s + 1) 89 #[.bool false, .bool false, .bool false, .bool false, .bool false, .bool false, .slice none 0 0] := hc0.far (by simp) _
    have hn1 : NumC ((w9.setCell ⟨s, 1, none⟩ (.bool true)).setCell ⟨s, 2, none⟩ (.bool true)) na a l c z := NumC.set hn0 (ha0.cell 2) (fun _ e => by cases e) _
    have hb1 : Below s w ((w9.setCell ⟨s, 1, none⟩ (.bool true)).setCell ⟨s, 2, none⟩ (.bool true)) := hb0.setCell (by simp) _
    have HRZ := Lib.hid (RRS.seven hn1 hc1 s HSZ.out hb1 (by omega) HC.out true)
    have HKZ := Lib.hid (Blk.seven hc1 n true true m p na a l c)
    generalize ((w9.setCell ⟨s, 1, none⟩ (.bool true)).setCell ⟨s, 2, none⟩ (.bool true)) = w10 at *
    have x0 := ha1.c 0
    have x1 := ha1.c 1
    have x2 := ha1.c 2
    have x3 := ha1.c 3
    have x4 := ha1.c 4
    have x5 := ha1.c 5
    have x6 := ha1.c 6
    have r0 := hc1.c 0
    have r1 := hc1.c 1
    have r2 := hc1.c 2
    have r3 := hc1.c 3
    have r4 := hc1.c 4
    have r5 := hc1.c 5
    have r6 := hc1.c 6
    have rf : ∀ o, w10.frozen? ⟨s + 1, o, none⟩ = false := fun o => hc1.frozen o
    clear ha0 hc0 hn0 hb0 ha1 hc1 hn1 hb1
    go_wp2_with fail
    have hrz := HRZ.out
    have hkz := HKZ.out
    generalize (World.setCell _ _ _) = wz at hkz hrz ⊢
    have d0 := hkz.cell 0
    have d1 := hkz.cell 1
    have d2 := hkz.cell 2
    have d3 := hkz.cell 3
    have d4 := hkz.cell 4
    have d5 := hkz.cell 5
    have d6 := hkz.cell 6
    refine bodyPost_ret ?_ ?_ hrz
    rotate_left
    ·rfl
    ·clear hrz hkz
     simp at d0 d1 d2 d3 d4 d5 d6
     simp [results, Tryz.results63, go_sem, d0, d1, d2, d3, d4, d5, d6]
   ·go_enter Tryz.func63, Tryz.ntmps63
    go_upto_region 1 with fail
    obtain ⟨hk0, hk1, hbw, -⟩ := two_bx w 89 #[.bool n, .bool true, .bool false, .bool m, .bool p, .bool na, .slice a l c] #[.bool false, .bool false, .bool false, .bool false, .bool false, .bool false, .slice none 0 0]
    generalize ((w.alloc (.cells #[.bool n, .bool true, .bool false, .bool m, .bool p, .bool na, .slice a l c] 89)).alloc (.cells #[.bool false, .bool false, .bool false, .bool false, .bool false, .bool false, .slice none 0 0] 89)) = w7 at *
    have HN7 := Lib.hid (HN.out.below hbw (Nat.le_refl _))
    have HB7 := Lib.hid hbw
    generalize hsz0 : w.heap.size = s at *
    have HSZ := Lib.hid hsz0
    have HK0 := Lib.hid hk0
    have HK1 := Lib.hid hk1
    clear hk0 hk1 hsz0 hbw
    go_wp2_with fail
    refine (HSP.out _).mono ?_; rintro ee w8 ⟨ng, mm, xx, rfl, hsp, hb8⟩
    have hng := HNG.out ng mm xx hsp
    subst hng
    clear hsp
    have HB8 := Lib.hid (HB7.out.trans (hb8.mono (by rw [← HSZ.out]; exact HB7.out.size)))
    have HN8 := Lib.hid (HN7.out.below hb8 (Nat.le_refl _))
    have HK08 := Lib.hid (HK0.out.below hb8 HK0.out.lt)
    have HK18 := Lib.hid (HK1.out.below hb8 HK1.out.lt)
    clear hb8 HB7 HN7 HK0 HK1
    go_wp2_with fail
    refine (HKI.out _).mono ?_; rintro ee w9 ⟨rfl, hb9⟩
    have HB9 := Lib.hid (HB8.out.trans (hb9.mono (by rw [← HSZ.out]; exact HB8.out.size)))
    have HN9 := Lib.hid (HN8.out.below hb9 (Nat.le_refl _))
    have hk0 := HK08.out.below hb9 HK08.out.lt
    have hk1 := HK18.out.below hb9 HK18.out.lt
    have HK09 := Lib.hid hk0
    have HK19 := Lib.hid hk1
    clear hb9 HB8 HN8 HK08 HK18
    have x0 := hk0.c 0
    have x1 := hk0.c 1
    have x2 := hk0.c 2
    have x3 := hk0.c 3
    have x4 := hk0.c 4
    have x5 := hk0.c 5
    have x6 := hk0.c 6
    have r0 := hk1.c 0
    have r1 := hk1.c 1
    have r2 := hk1.c 2
    have r3 := hk1.c 3
    have r4 := hk1.c 4
    have r5 := hk1.c 5
    have r6 := hk1.c 6
    have xf : ∀ o, w9.frozen? ⟨s, o, none⟩ = false := fun o => hk0.frozen o
    have rf : ∀ o, w9.frozen? ⟨s + 1, o, none⟩ = false := fun o => hk1.frozen o
    clear hk0 hk1
    go_upto_region 9 with fail
    have ha0 : Blk (w9.setCell ⟨s, 1, none⟩ (.bool true)) s 89 #[.bool n, .bool true, .bool false, .bool m, .bool p, .bool na, .slice a l c] := (HK09.out.set_ 1 _).to rfl
    have hc0 : Blk (w9.setCell ⟨s, 1, none⟩ (.bool true)) (s + 1) 89 #[.bool false, .bool false, .bool false, .bool false, .bool false, .bool false, .slice none 0 0] := HK19.out.far (by simp) _
    have hn0 : NumC (w9.setCell ⟨s, 1, none⟩ (.bool true)) na a l c z := NumC.set HN9.out (HK09.out.cell 1) (fun _ e => by cases e) _
    have hb0 : Below s w (w9.setCell ⟨s, 1, none⟩ (.bool true)) := HB9.out.setCell (by simp) _
    have ha1 : Blk ((w9.setCell ⟨s, 1, none⟩ (.bool true)).setCell ⟨s, 2, none⟩ (.bool false)) s 89 #[.bool n, .bool true, .bool false, .bool m, .bool p, .bool na, .slice a l c] := (ha0.set_ 2 _).to rfl
    have hc1 : Blk ((w9.setCell ⟨s, 1, none⟩ (.bool true)).setCell ⟨s, 2, none⟩ (.bool false)) (s + 1) 89 #[.bool false, .bool false, .bool false, .bool false, .bool false, .bool false, .slice none 0 0] := hc0.far (by simp) _
    have hn1 : NumC ((w9.setCell ⟨s, 1, none⟩ (.bool true)).setCell ⟨s, 2, none⟩ (.bool false)) na a l c z := NumC.set hn0 (ha0.cell 2) (fun _ e => by cases e) _
    have hb1 : Below s w ((w9.setCell ⟨s, 1, none⟩ (.bool true)).setCell ⟨s, 2, none⟩ (.bool false)) := hb0.setCell (by simp) _
    have HRZ := Lib.hid (RRS.seven hn1 hc1 s HSZ.out hb1 (by omega) HC.out true)
    have HKZ := Lib.hid (Blk.seven hc1 n true false m p na a l c)
    generalize ((w9.setCell ⟨s, 1, none⟩ (.bool true)).setCell ⟨s, 2, none⟩ (.bool false)) = w10 at *
    have x0 := ha1.c 0
    have x1 := ha1.c 1
    have x2 := ha1.c 2
    have x3 := ha1.c 3
    have x4 := ha1.c 4
    have x5 := ha1.c 5
    have x6 := ha1.c 6
    have r0 := hc1.c 0
    have r1 := hc1.c 1
    have r2 := hc1.c 2
    have r3 := hc1.c 3
    have r4 := hc1.c 4
    have r5 := hc1.c 5
    have r6 := hc1.c 6
    have rf : ∀ o, w10.frozen? ⟨s + 1, o, none⟩ = false := fun o => hc1.frozen o
    clear ha0 hc0 hn0 hb0 ha1 hc1 hn1 hb1
    go_wp2_with fail
    have hrz := HRZ.out
    have hkz := HKZ.out
    generalize (World.setCell _ _ _) = wz at hkz hrz ⊢
    have d0 := hkz.cell 0
    have d1 := hkz.cell 1
    have d2 := hkz.cell 2
    have d3 := hkz.cell 3
    have d4 := hkz.cell 4
    have d5 := hkz.cell 5
    have d6 := hkz.cell 6
    refine bodyPost_ret ?_ ?_ hrz
    rotate_left
    ·rfl
    ·clear hrz hkz
     simp at d0 d1 d2 d3 d4 d5 d6
     simp [results, Tryz.results63, go_sem, d0, d1, d2, d3, d4, d5, d6]
   ·go_enter Tryz.func63, Tryz.ntmps63
    go_upto_region 1 with fail
    obtain ⟨hk0, hk1, hbw, -⟩ := two_bx w 89 #[.bool n, .bool true, .bool true, .bool m, .bool p, .bool na, .slice a l c] #[.bool false, .bool false, .bool false, .bool false, .bool false, .bool false, .slice none 0 0]
    generalize ((w.alloc (.cells #[.bool n, .bool true, .bool true, .bool m, .bool p, .bool na, .slice a l c] 89)).alloc (.cells #[.bool false, .bool false, .bool false, .bool false, .bool false, .bool false, .slice none 0 0] 89)) = w7 at *
    have HN7 := Lib.hid (HN.out.below hbw (Nat.le_refl _))
    have HB7 := Lib.hid hbw
    generalize hsz0 : w.heap.size = s at *
    have HSZ := Lib.hid hsz0
    have HK0 := Lib.hid hk0
    have HK1 := Lib.hid hk1
    clear hk0 hk1 hsz0 hbw
    go_wp2_with fail
    refine (HSP.out _).mono ?_; rintro ee w8 ⟨ng, mm, xx, rfl, hsp, hb8⟩
    have hng := HNG.out ng mm xx hsp
    subst hng
    clear hsp
    have HB8 := Lib.hid (HB7.out.trans (hb8.mono (by rw [← HSZ.out]; exact HB7.out.size)))
    have HN8 := Lib.hid (HN7.out.below hb8 (Nat.le_refl _))
    have HK08 := Lib.hid (HK0.out.below hb8 HK0.out.lt)
    have HK18 := Lib.hid (HK1.out.below hb8 HK1.out.lt)
    clear hb8 HB7 HN7 HK0 HK1
    go_wp2_with fail
    refine (HKI.out _).mono ?_; rintro ee w9 ⟨rfl, hb9⟩
    have HB9 := Lib.hid (HB8.out.trans (hb9.mono (by rw [← HSZ.out]; exact HB8.out.size)))
    have HN9 := Lib.hid (HN8.out.below hb9 (Nat.le_refl _))
    have hk0 := HK08.out.below hb9 HK08.out.lt
    have hk1 := HK18.out.below hb9 HK18.out.lt
    have HK09 := Lib.hid hk0
    have HK19 := Lib.hid hk1
    clear hb9 HB8 HN8 HK08 HK18
    have x0 := hk0.c 0
    have x1 := hk0.c 1
    have x2 := hk0.c 2
    have x3 := hk0.c 3
    have x4 := hk0.c 4
    have x5 := hk0.c 5
    have x6 := hk0.c 6
    have r0 := hk1.c 0
    have r1 := hk1.c 1
    have r2 := hk1.c 2
    have r3 := hk1.c 3
    have r4 := hk1.c 4
    have r5 := hk1.c 5
    have r6 := hk1.c 6
    have xf : ∀ o, w9.frozen? ⟨s, o, none⟩ = false := fun o => hk0.frozen o
    have rf : ∀ o, w9.frozen? ⟨s + 1, o, none⟩ = false := fun o => hk1.frozen o
    clear hk0 hk1
    go_upto_region 9 with fail
    have ha0 : Blk (w9.setCell ⟨s, 1, none⟩ (.bool true)) s 89 #[.bool n, .bool true, .bool true, .bool m, .bool p, .bool na, .slice a l c] := (HK09.out.set_ 1 _).to rfl
    have hc0 : Blk (w9.setCell ⟨s, 1, none⟩ (.bool true)) (s + 1) 89 #[.bool false, .bool false, .bool false, .bool false, .bool false, .bool false, .slice none 0 0] := HK19.out.far (by simp) _
    have hn0 : NumC (w9.setCell ⟨s, 1, none⟩ (.bool true)) na a l c z := NumC.set HN9.out (HK09.out.cell 1) (fun _ e => by cases e) _
    have hb0 : Below s w (w9.setCell ⟨s, 1, none⟩ (.bool true)) := HB9.out.setCell (by simp) _
    have ha1 : Blk ((w9.setCell ⟨s, 1, none⟩ (.bool true)).setCell ⟨s, 2, none⟩ (.bool true)) s 89 #[.bool n, .bool true, .bool true, .bool m, .bool p, .bool na, .slice a l c] := (ha0.set_ 2 _).to rfl
    have hc1 : Blk ((w9.setCell ⟨s, 1, none⟩ (.bool true)).setCell ⟨s, 2, none⟩ (.bool true)) (s + 1) 89 #[.bool false, .bool false, .bool false, .bool false, .bool false, .bool false, .slice none 0 0] := hc0.far (by simp) _
    have hn1 : NumC ((w9.setCell ⟨s, 1, none⟩ (.bool true)).setCell ⟨s, 2, none⟩ (.bool true)) na a l c z := NumC.set hn0 (ha0.cell 2) (fun _ e => by cases e) _
    have hb1 : Below s w ((w9.setCell ⟨s, 1, none⟩ (.bool true)).setCell ⟨s, 2, none⟩ (.bool true)) := hb0.setCell (by simp) _
    have HRZ := Lib.hid (RRS.seven hn1 hc1 s HSZ.out hb1 (by omega) HC.out true)
    have HKZ := Lib.hid (Blk.seven hc1 n true true m p na a l c)
    generalize ((w9.setCell ⟨s, 1, none⟩ (.bool true)).setCell ⟨s, 2, none⟩ (.bool true)) = w10 at *
    have x0 := ha1.c 0
    have x1 := ha1.c 1
    have x2 := ha1.c 2
    have x3 := ha1.c 3
    have x4 := ha1.c 4
    have x5 := ha1.c 5
    have x6 := ha1.c 6
    have r0 := hc1.c 0
    have r1 := hc1.c 1
    have r2 := hc1.c 2
    have r3 := hc1.c 3
    have r4 := hc1.c 4
    have r5 := hc1.c 5
    have r6 := hc1.c 6
    have rf : ∀ o, w10.frozen? ⟨s + 1, o, none⟩ = false := fun o => hc1.frozen o
    clear ha0 hc0 hn0 hb0 ha1 hc1 hn1 hb1
    go_wp2_with fail
    have hrz := HRZ.out
    have hkz := HKZ.out
    generalize (World.setCell _ _ _) = wz at hkz hrz ⊢
    have d0 := hkz.cell 0
    have d1 := hkz.cell 1
    have d2 := hkz.cell 2
    have d3 := hkz.cell 3
    have d4 := hkz.cell 4
    have d5 := hkz.cell 5
    have d6 := hkz.cell 6
    refine bodyPost_ret ?_ ?_ hrz
    rotate_left
    ·rfl
    ·clear hrz hkz
     simp at d0 d1 d2 d3 d4 d5 d6
     simp [results, Tryz.results63, go_sem, d0, d1, d2, d3, d4, d5, d6]
 ·rw [show addF b z x = b ||| (if S63 ≤ x then 8 else 16) from by unfold addF; rw [hk]; rfl, show addZ z x = z from by unfold addZ; rw [hk]; rfl, show addOk z x = true from by unfold addOk; rw [hk]; rfl]
  rw [hk] at HKI
  have HNG : Hid (∀ ng m ee, SplitOut x ng m ee → ng = decide (S63 ≤ x)) := Lib.hid (fun ng m ee h => by
   rcases h with ⟨-, h, -⟩ | ⟨h, -⟩
   ·rw [h, hbl]
   ·exact absurd h hk1)
  by_cases hsn : S63 ≤ x
  ·rw [if_pos hsn]
   have HC : Hid (rsCells (b ||| 8) = fun ng a l c => #[.bool n, .bool u, .bool e, .bool true, .bool p, .bool ng, .slice a l c]) := Lib.hid (by
    funext ng a l c
    unfold rsCells
    rw [fN_or, fU_or, fD_or, fM_or, fP_or, hn, hu, he, hm, hp]
    simp [fN, fU, fD, fM, fP])
   rw [decide_eq_true hsn] at HNG
   clear hn hu he hm hp hN hx hk hk1 hsn hbl
   cases p <;> cases m
   ·go_enter Tryz.func63, Tryz.ntmps63
    go_upto_region 1 with fail
    obtain ⟨hk0, hk1, hbw, -⟩ := two_bx w 89 #[.bool n, .bool u, .bool e, .bool false, .bool false, .bool na, .slice a l c] #[.bool false, .bool false, .bool false, .bool false, .bool false, .bool false, .slice none 0 0]
    generalize ((w.alloc (.cells #[.bool n, .bool u, .bool e, .bool false, .bool false, .bool na, .slice a l c] 89)).alloc (.cells #[.bool false, .bool false, .bool false, .bool false, .bool false, .bool false, .slice none 0 0] 89)) = w7 at *
    have HN7 := Lib.hid (HN.out.below hbw (Nat.le_refl _))
    have HB7 := Lib.hid hbw
    generalize hsz0 : w.heap.size = s at *
    have HSZ := Lib.hid hsz0
    have HK0 := Lib.hid hk0
    have HK1 := Lib.hid hk1
    clear hk0 hk1 hsz0 hbw
    go_wp2_with fail
    refine (HSP.out _).mono ?_; rintro ee w8 ⟨ng, mm, xx, rfl, hsp, hb8⟩
    have hng := HNG.out ng mm xx hsp
    subst hng
    clear hsp
    have HB8 := Lib.hid (HB7.out.trans (hb8.mono (by rw [← HSZ.out]; exact HB7.out.size)))
    have HN8 := Lib.hid (HN7.out.below hb8 (Nat.le_refl _))
    have HK08 := Lib.hid (HK0.out.below hb8 HK0.out.lt)
    have HK18 := Lib.hid (HK1.out.below hb8 HK1.out.lt)
    clear hb8 HB7 HN7 HK0 HK1
    go_wp2_with fail
    refine (HKI.out _).mono ?_; rintro ee w9 ⟨rfl, hb9⟩
    have HB9 := Lib.hid (HB8.out.trans (hb9.mono (by rw [← HSZ.out]; exact HB8.out.size)))
    have HN9 := Lib.hid (HN8.out.below hb9 (Nat.le_refl _))
    have hk0 := HK08.out.below hb9 HK08.out.lt
    have hk1 := HK18.out.below hb9 HK18.out.lt
    have HK09 := Lib.hid hk0
    have HK19 := Lib.hid hk1
    clear hb9 HB8 HN8 HK08 HK18
    have x0 := hk0.c 0
    have x1 := hk0.c 1
    have x2 := hk0.c 2
    have x3 := hk0.c 3
    have x4 := hk0.c 4
    have x5 := hk0.c 5
    have x6 := hk0.c 6
    have r0 := hk1.c 0
    have r1 := hk1.c 1
    have r2 := hk1.c 2
    have r3 := hk1.c 3
    have r4 := hk1.c 4
    have r5 := hk1.c 5
    have r6 := hk1.c 6
    have xf : ∀ o, w9.frozen? ⟨s, o, none⟩ = false := fun o => hk0.frozen o
    have rf : ∀ o, w9.frozen? ⟨s + 1, o, none⟩ = false := fun o => hk1.frozen o
    clear hk0 hk1
    go_upto_region 13 with fail
    have ha0 : Blk (w9.setCell ⟨s, 3, none⟩ (.bool true)) s 89 #[.bool n, .bool u, .bool e, .bool true, .bool false, .bool na, .slice a l c] := (HK09.out.set_ 3 _).to rfl
    have hc0 : Blk (w9.setCell ⟨s, 3, none⟩ (.bool true)) (s + 1) 89 #[.bool false, .bool false, .bool false, .bool false, .bool false, .bool false, .slice none 0 0] := HK19.out.far (by simp) _
    have hn0 : NumC (w9.setCell ⟨s, 3, none⟩ (.bool true)) na a l c z := NumC.set HN9.out (HK09.out.cell 3) (fun _ e => by cases e) _
    have hb0 : Below s w (w9.setCell ⟨s, 3, none⟩ (.bool true)) := HB9.out.setCell (by simp) _
    have ha1 : Blk ((w9.setCell ⟨s, 3, none⟩ (.bool true)).setCell ⟨s, 4, none⟩ (.bool false)) s 89 #[.bool n, .bool u, .bool e, .bool true, .bool false, .bool na, .slice a l c] := (ha0.set_ 4 _).to rfl
    have hc1 : Blk ((w9.setCell ⟨s, 3, none⟩ (.bool true)).setCell ⟨s, 4, none⟩ (.bool false)) (s + 1) 89 #[.bool false, .bool false, .bool false, .bool false, .bool false, .bool false, .slice none 0 0] := hc0.far (by simp) _
    have hn1 : NumC ((w9.setCell ⟨s, 3, none⟩ (.bool true)).setCell ⟨s, 4, none⟩ (.bool false)) na a l c z := NumC.set hn0 (ha0.cell 4) (fun _ e => by cases e) _
    have hb1 : Below s w ((w9.setCell ⟨s, 3, none⟩ (.bool true)).setCell ⟨s, 4, none⟩ (.bool false)) := hb0.setCell (by simp) _
    have HRZ := Lib.hid (RRS.seven hn1 hc1 s HSZ.out hb1 (by omega) HC.out true)
    have HKZ := Lib.hid (Blk.seven hc1 n u e true false na a l c)
    generalize ((w9.setCell ⟨s, 3, none⟩ (.bool true)).setCell ⟨s, 4, none⟩ (.bool false)) = w10 at *
    have x0 := ha1.c 0
    have x1 := ha1.c 1
    have x2 := ha1.c 2
    have x3 := ha1.c 3
    have x4 := ha1.c 4
    have x5 := ha1.c 5
    have x6 := ha1.c 6
    have r0 := hc1.c 0
    have r1 := hc1.c 1
    have r2 := hc1.c 2
    have r3 := hc1.c 3
    have r4 := hc1.c 4
    have r5 := hc1.c 5
    have r6 := hc1.c 6
    have rf : ∀ o, w10.frozen? ⟨s + 1, o, none⟩ = false := fun o => hc1.frozen o
    clear ha0 hc0 hn0 hb0 ha1 hc1 hn1 hb1
    go_wp2_with fail
    have hrz := HRZ.out
    have hkz := HKZ.out
    generalize (World.setCell _ _ _) = wz at hkz hrz ⊢
    have d0 := hkz.cell 0
    have d1 := hkz.cell 1
    have d2 := hkz.cell 2
    have d3 := hkz.cell 3
    have d4 := hkz.cell 4
    have d5 := hkz.cell 5
    have d6 := hkz.cell 6
    refine bodyPost_ret ?_ ?_ hrz
    rotate_left
    ·rfl
    ·clear hrz hkz
     simp at d0 d1 d2 d3 d4 d5 d6
     simp [results, Tryz.results63, go_sem, d0, d1, d2, d3, d4, d5, d6]
   ·go_enter Tryz.func63, Tryz.ntmps63
    go_upto_region 1 with fail
    obtain ⟨hk0, hk1, hbw, -⟩ := two_bx w 89 #[.bool n, .bool u, .bool e, .bool true, .bool false, .bool na, .slice a l c] #[.bool false, .bool false, .bool false, .bool false, .bool false, .bool false, .slice none 0 0]
    generalize ((w.alloc (.cells #[.bool n, .bool u, .bool e, .bool true, .bool false, .bool na, .slice a l c] 89)).alloc (.cells #[.bool false, .bool false, .bool false, .bool false, .bool false, .bool false, .slice none 0 0] 89)) = w7 at *
    have HN7 := Lib.hid (HN.out.below hbw (Nat.le_refl _))
    have HB7 := Lib.hid hbw
    generalize hsz0 : w.heap.size = s at *
    have HSZ := Lib.hid hsz0
    have HK0 := Lib.hid hk0
    have HK1 := Lib.hid hk1
    clear hk0 hk1 hsz0 hbw
    go_wp2_with fail
    refine (HSP.out _).mono ?_; rintro ee w8 ⟨ng, mm, xx, rfl, hsp, hb8⟩
    have hng := HNG.out ng mm xx hsp
    subst hng
    clear hsp
    have HB8 := Lib.hid (HB7.out.trans (hb8.mono (by rw [← HSZ.out]; exact HB7.out.size)))
    have HN8 := Lib.hid (HN7.out.below hb8 (Nat.le_refl _))
    have HK08 := Lib.hid (HK0.out.below hb8 HK0.out.lt)
    have HK18 := Lib.hid (HK1.out.below hb8 HK1.out.lt)
    clear hb8 HB7 HN7 HK0 HK1
    go_wp2_with fail
    refine (HKI.out _).mono ?_; rintro ee w9 ⟨rfl, hb9⟩
    have HB9 := Lib.hid (HB8.out.trans (hb9.mono (by rw [← HSZ.out]; exact HB8.out.size)))
    have HN9 := Lib.hid (HN8.out.below hb9 (Nat.le_refl _))
    have hk0 := HK08.out.below hb9 HK08.out.lt
    have hk1 := HK18.out.below hb9 HK18.out.lt
    have HK09 := Lib.hid hk0
    have HK19 := Lib.hid hk1
    clear hb9 HB8 HN8 HK08 HK18
    have x0 := hk0.c 0
    have x1 := hk0.c 1
    have x2 := hk0.c 2
    have x3 := hk0.c 3
    have x4 := hk0.c 4
    have x5 := hk0.c 5
    have x6 := hk0.c 6
    have r0 := hk1.c 0
    have r1 := hk1.c 1
    have r2 := hk1.c 2
    have r3 := hk1.c 3
    have r4 := hk1.c 4
    have r5 := hk1.c 5
    have r6 := hk1.c 6
    have xf : ∀ o, w9.frozen? ⟨s, o, none⟩ = false := fun o => hk0.frozen o
    have rf : ∀ o, w9.frozen? ⟨s + 1, o, none⟩ = false := fun o => hk1.frozen o
    clear hk0 hk1
    go_upto_region 13 with fail
    have ha0 : Blk (w9.setCell ⟨s, 3, none⟩ (.bool true)) s 89 #[.bool n, .bool u, .bool e, .bool true, .bool false, .bool na, .slice a l c] := (HK09.out.set_ 3 _).to rfl
    have hc0 : Blk (w9.setCell ⟨s, 3, none⟩ (.bool true)) (s + 1) 89 #[.bool false, .bool false, .bool false, .bool false, .bool false, .bool false, .slice none 0 0] := HK19.out.far (by simp) _
    have hn0 : NumC (w9.setCell ⟨s, 3, none⟩ (.bool true)) na a l c z := NumC.set HN9.out (HK09.out.cell 3) (fun _ e => by cases e) _
    have hb0 : Below s w (w9.setCell ⟨s, 3, none⟩ (.bool true)) := HB9.out.setCell (by simp) _
    have ha1 : Blk ((w9.setCell ⟨s, 3, none⟩ (.bool true)).setCell ⟨s, 4, none⟩ (.bool false)) s 89 #[.bool n, .bool u, .bool e, .bool true, .bool false, .bool na, .slice a l c] := (ha0.set_ 4 _).to rfl
    have hc1 : Blk ((w9.setCell ⟨s, 3, none⟩ (.bool true)).setCell ⟨s, 4, none⟩ (.bool false)) (s + 1) 89 #[.bool false, .bool false, .bool false, .bool false, .bool false, .bool false, .slice none 0 0] := hc0.far (by simp) _
    have hn1 : NumC ((w9.setCell ⟨s, 3, none⟩ (.bool true)).setCell ⟨s, 4, none⟩ (.bool false)) na a l c z := NumC.set hn0 (ha0.cell 4) (fun _ e => by cases e) _
    have hb1 : Below s w ((w9.setCell ⟨s, 3, none⟩ (.bool true)).setCell ⟨s, 4, none⟩ (.bool false)) := hb0.setCell (by simp) _
    have HRZ := Lib.hid (RRS.seven hn1 hc1 s HSZ.out hb1 (by omega) HC.out true)
    have HKZ := Lib.hid (Blk.seven hc1 n u e true false na a l c)
    generalize ((w9.setCell ⟨s, 3, none⟩ (.bool true)).setCell ⟨s, 4, none⟩ (.bool false)) = w10 at *
    have x0 := ha1.c 0
    have x1 := ha1.c 1
    have x2 := ha1.c 2
    have x3 := ha1.c 3
    have x4 := ha1.c 4
    have x5 := ha1.c 5
    have x6 := ha1.c 6
    have r0 := hc1.c 0
    have r1 := hc1.c 1
    have r2 := hc1.c 2
    have r3 := hc1.c 3
    have r4 := hc1.c 4
    have r5 := hc1.c 5
    have r6 := hc1.c 6
    have rf : ∀ o, w10.frozen? ⟨s + 1, o, none⟩ = false := fun o => hc1.frozen o
    clear ha0 hc0 hn0 hb0 ha1 hc1 hn1 hb1
    go_wp2_with fail
    have hrz := HRZ.out
    have hkz := HKZ.out
    generalize (World.setCell _ _ _) = wz at hkz hrz ⊢
    have d0 := hkz.cell 0
    have d1 := hkz.cell 1
    have d2 := hkz.cell 2
    have d3 := hkz.cell 3
    have d4 := hkz.cell 4
    have d5 := hkz.cell 5
    have d6 := hkz.cell 6
    refine bodyPost_ret ?_ ?_ hrz
    rotate_left
    ·rfl
    ·clear hrz hkz
     simp at d0 d1 d2 d3 d4 d5 d6
     simp [results, Tryz.results63, go_sem, d0, d1, d2, d3, d4, d5, d6]
   ·go_enter Tryz.func63, Tryz.ntmps63
    go_upto_region 1 with fail
    obtain ⟨hk0, hk1, hbw, -⟩ := two_bx w 89 #[.bool n, .bool u, .bool e, .bool false, .bool true, .bool na, .slice a l c] #[.bool false, .bool false, .bool false, .bool false, .bool false, .bool false, .slice none 0 0]
    generalize ((w.alloc (.cells #[.bool n, .bool u, .bool e, .bool false, .bool true, .bool na, .slice a l c] 89)).alloc (.cells #[.bool false, .bool false, .bool false, .bool false, .bool false, .bool false, .slice none 0 0] 89)) = w7 at *
    have HN7 := Lib.hid (HN.out.below hbw (Nat.le_refl _))
    have HB7 := Lib.hid hbw
    generalize hsz0 : w.heap.size = s at *
    have HSZ := Lib.hid hsz0
    have HK0 := Lib.hid hk0
    have HK1 := Lib.hid hk1
    clear hk0 hk1 hsz0 hbw
    go_wp2_with fail
    refine (HSP.out _).mono ?_; rintro ee w8 ⟨ng, mm, xx, rfl, hsp, hb8⟩
    have hng := HNG.out ng mm xx hsp
    subst hng
    clear hsp
    have HB8 := Lib.hid (HB7.out.trans (hb8.mono (by rw [← HSZ.out]; exact HB7.out.size)))
    have HN8 := Lib.hid (HN7.out.below hb8 (Nat.le_refl _))
    have HK08 := Lib.hid (HK0.out.below hb8 HK0.out.lt)
    have HK18 := Lib.hid (HK1.out.below hb8 HK1.out.lt)
    clear hb8 HB7 HN7 HK0 HK1
    go_wp2_with fail
    refine (HKI.out _).mono ?_; rintro ee w9 ⟨rfl, hb9⟩
    have HB9 := Lib.hid (HB8.out.trans (hb9.mono (by rw [← HSZ.out]; exact HB8.out.size)))
    have HN9 := Lib.hid (HN8.out.below hb9 (Nat.le_refl _))
    have hk0 := HK08.out.below hb9 HK08.out.lt
    have hk1 := HK18.out.below hb9 HK18.out.lt
    have HK09 := Lib.hid hk0
    have HK19 := Lib.hid hk1
    clear hb9 HB8 HN8 HK08 HK18
    have x0 := hk0.c 0
    have x1 := hk0.c 1
    have x2 := hk0.c 2
    have x3 := hk0.c 3
    have x4 := hk0.c 4
    have x5 := hk0.c 5
    have x6 := hk0.c 6
    have r0 := hk1.c 0
    have r1 := hk1.c 1
    have r2 := hk1.c 2
    have r3 := hk1.c 3
    have r4 := hk1.c 4
    have r5 := hk1.c 5
    have r6 := hk1.c 6
    have xf : ∀ o, w9.frozen? ⟨s, o, none⟩ = false := fun o => hk0.frozen o
    have rf : ∀ o, w9.frozen? ⟨s + 1, o, none⟩ = false := fun o => hk1.frozen o
    clear hk0 hk1
    go_upto_region 13 with fail
    have ha0 : Blk (w9.setCell ⟨s, 3, none⟩ (.bool true)) s 89 #[.bool n, .bool u, .bool e, .bool true, .bool true, .bool na, .slice a l c] := (HK09.out.set_ 3 _).to rfl
    have hc0 : Blk (w9.setCell ⟨s, 3, none⟩ (.bool true)) (s + 1) 89 #[.bool false, .bool false, .bool false, .bool false, .bool false, .bool false, .slice none 0 0] := HK19.out.far (by simp) _
    have hn0 : NumC (w9.setCell ⟨s, 3, none⟩ (.bool true)) na a l c z := NumC.set HN9.out (HK09.out.cell 3) (fun _ e => by cases e) _
    have hb0 : Below s w (w9.setCell ⟨s, 3, none⟩ (.bool true)) := HB9.out.setCell (by simp) _
    have ha1 : Blk ((w9.setCell ⟨s, 3, none⟩ (.bool true)).setCell ⟨s, 4, none⟩ (.bool true)) s 89 #[.bool n, .bool u, .bool e, .bool true, .bool true, .bool na, .slice a l c] := (ha0.set_ 4 _).to rfl
    have hc1 : Blk ((w9.setCell ⟨s, 3, none⟩ (.bool true)).setCell ⟨s, 4, none⟩ (.bool true)) (s + 1) 89 #[.bool false, .bool false, .bool false, .bool false, .bool false, .bool false, .slice none 0 0] := hc0.far (by simp) _
    have hn1 : NumC ((w9.setCell ⟨s, 3, none⟩ (.bool true)).setCell ⟨s, 4, none⟩ (.bool true)) na a l c z := NumC.set hn0 (ha0.cell 4) (fun _ e => by cases e) _
    have hb1 : Below s w ((w9.setCell ⟨s, 3, none⟩ (.bool true)).setCell ⟨s, 4, none⟩ (.bool true)) := hb0.setCell (by simp) _
    have HRZ := Lib.hid (RRS.seven hn1 hc1 s HSZ.out hb1 (by omega) HC.out true)
    have HKZ := Lib.hid (Blk.seven hc1 n u e true true na a l c)
    generalize ((w9.setCell ⟨s, 3, none⟩ (.bool true)).setCell ⟨s, 4, none⟩ (.bool true)) = w10 at *
    have x0 := ha1.c 0
    have x1 := ha1.c 1
    have x2 := ha1.c 2
    have x3 := ha1.c 3
    have x4 := ha1.c 4
    have x5 := ha1.c 5
    have x6 := ha1.c 6
    have r0 := hc1.c 0
    have r1 := hc1.c 1
    have r2 := hc1.c 2
    have r3 := hc1.c 3
    have r4 := hc1.c 4
    have r5 := hc1.c 5
    have r6 := hc1.c 6
    have rf : ∀ o, w10.frozen? ⟨s + 1, o, none⟩ = false := fun o => hc1.frozen o
    clear ha0 hc0 hn0 hb0 ha1 hc1 hn1 hb1
    go_wp2_with fail
    have hrz := HRZ.out
    have hkz := HKZ.out
    generalize (World.setCell _ _ _) = wz at hkz hrz ⊢
    have d0 := hkz.cell 0
    have d1 := hkz.cell 1
    have d2 := hkz.cell 2
    have d3 := hkz.cell 3
    have d4 := hkz.cell 4
    have d5 := hkz.cell 5
    have d6 := hkz.cell 6
    refine bodyPost_ret ?_ ?_ hrz
    rotate_left
    ·rfl
    ·clear hrz hkz
     simp at d0 d1 d2 d3 d4 d5 d6
     simp [results, Tryz.results63, go_sem, d0, d1, d2, d3, d4, d5, d6]
   ·go_enter Tryz.func63, Tryz.ntmps63
    go_upto_region 1 with fail
    obtain ⟨hk0, hk1, hbw, -⟩ := two_bx w 89 #[.bool n, .bool u, .bool e, .bool true, .bool true, .bool na, .slice a l c] #[.bool false, .bool false, .bool false, .bool false, .bool false, .bool false, .slice none 0 0]
    generalize ((w.alloc (.cells #[.bool n, .bool u, .bool e, .bool true, .bool true, .bool na, .slice a l c] 89)).alloc (.cells #[.bool false, .bool false, .bool false, .bool false, .bool false, .bool false, .slice none 0 0] 89)) = w7 at *
    have HN7 := Lib.hid (HN.out.below hbw (Nat.le_refl _))
    have HB7 := Lib.hid hbw
    generalize hsz0 : w.heap.size = s at *
    have HSZ := Lib.hid hsz0
    have HK0 := Lib.hid hk0
    have HK1 := Lib.hid hk1
    clear hk0 hk1 hsz0 hbw
    go_wp2_with fail
    refine (HSP.out _).mono ?_; rintro ee w8 ⟨ng, mm, xx, rfl, hsp, hb8⟩
    have hng := HNG.out ng mm xx hsp
    subst hng
    clear hsp
    have HB8 := Lib.hid (HB7.out.trans (hb8.mono (by rw [← HSZ.out]; exact HB7.out.size)))
    have HN8 := Lib.hid (HN7.out.below hb8 (Nat.le_refl _))
    have HK08 := Lib.hid (HK0.out.below hb8 HK0.out.lt)
    have HK18 := Lib.hid (HK1.out.below hb8 HK1.out.lt)
    clear hb8 HB7 HN7 HK0 HK1
    go_wp2_with fail
    refine (HKI.out _).mono ?_; rintro ee w9 ⟨rfl, hb9⟩
    have HB9 := Lib.hid (HB8.out.trans (hb9.mono (by rw [← HSZ.out]; exact HB8.out.size)))
    have HN9 := Lib.hid (HN8.out.below hb9 (Nat.le_refl _))
    have hk0 := HK08.out.below hb9 HK08.out.lt
    have hk1 := HK18.out.below hb9 HK18.out.lt
    have HK09 := Lib.hid hk0
    have HK19 := Lib.hid hk1
    clear hb9 HB8 HN8 HK08 HK18
    have x0 := hk0.c 0
    have x1 := hk0.c 1
    have x2 := hk0.c 2
    have x3 := hk0.c 3
    have x4 := hk0.c 4
    have x5 := hk0.c 5
    have x6 := hk0.c 6
    have r0 := hk1.c 0
    have r1 := hk1.c 1
    have r2 := hk1.c 2
    have r3 := hk1.c 3
    have r4 := hk1.c 4
    have r5 := hk1.c 5
    have r6 := hk1.c 6
    have xf : ∀ o, w9.frozen? ⟨s, o, none⟩ = false := fun o => hk0.frozen o
    have rf : ∀ o, w9.frozen? ⟨s + 1, o, none⟩ = false := fun o => hk1.frozen o
    clear hk0 hk1
    go_upto_region 13 with fail
    have ha0 : Blk (w9.setCell ⟨s, 3, none⟩ (.bool true)) s 89 #[.bool n, .bool u, .bool e, .bool true, .bool true, .bool na, .slice a l c] := (HK09.out.set_ 3 _).to rfl
    have hc0 : Blk (w9.setCell ⟨s, 3, none⟩ (.bool true)) (s + 1) 89 #[.bool false, .bool false, .bool false, .bool false, .bool false, .bool false, .slice none 0 0] := HK19.out.far (by simp) _
    have hn0 : NumC (w9.setCell ⟨s, 3, none⟩ (.bool true)) na a l c z := NumC.set HN9.out (HK09.out.cell 3) (fun _ e => by cases e) _
    have hb0 : Below s w (w9.setCell ⟨s, 3, none⟩ (.bool true)) := HB9.out.setCell (by simp) _
    have ha1 : Blk ((w9.setCell ⟨s, 3, none⟩ (.bool true)).setCell ⟨s, 4, none⟩ (.bool true)) s 89 #[.bool n, .bool u, .bool e, .bool true, .bool true, .bool na, .slice a l c] := (ha0.set_ 4 _).to rfl
    have hc1 : Blk ((w9.setCell ⟨s, 3, none⟩ (.bool true)).setCell ⟨s, 4, none⟩ (.bool true)) (s + 1) 89 #[.bool false, .bool false, .bool false, .bool false, .bool false, .bool false, .slice none 0 0] := hc0.far (by simp) _
    have hn1 : NumC ((w9.setCell ⟨s, 3, none⟩ (.bool true)).setCell ⟨s, 4, none⟩ (.bool true)) na a l c z := NumC.set hn0 (ha0.cell 4) (fun _ e => by cases e) _
    have hb1 : Below s w ((w9.setCell ⟨s, 3, none⟩ (.bool true)).setCell ⟨s, 4, none⟩ (.bool true)) := hb0.setCell (by simp) _
    have HRZ := Lib.hid (RRS.seven hn1 hc1 s HSZ.out hb1 (by omega) HC.out true)
    have HKZ := Lib.hid (Blk.seven hc1 n u e true true na a l c)
    generalize ((w9.setCell ⟨s, 3, none⟩ (.bool true)).setCell ⟨s, 4, none⟩ (.bool true)) = w10 at *
    have x0 := ha1.c 0
    have x1 := ha1.c 1
    have x2 := ha1.c 2
    have x3 := ha1.c 3
    have x4 := ha1.c 4
    have x5 := ha1.c 5
    have x6 := ha1.c 6
    have r0 := hc1.c 0
    have r1 := hc1.c 1
    have r2 := hc1.c 2
    have r3 := hc1.c 3
    have r4 := hc1.c 4
    have r5 := hc1.c 5
    have r6 := hc1.c 6
    have rf : ∀ o, w10.frozen? ⟨s + 1, o, none⟩ = false := fun o => hc1.frozen o
    clear ha0 hc0 hn0 hb0 ha1 hc1 hn1 hb1
    go_wp2_with fail
    have hrz := HRZ.out
    have hkz := HKZ.out
    generalize (World.setCell _ _ _) = wz at hkz hrz ⊢
    have d0 := hkz.cell 0
    have d1 := hkz.cell 1
    have d2 := hkz.cell 2
    have d3 := hkz.cell 3
    have d4 := hkz.cell 4
    have d5 := hkz.cell 5
    have d6 := hkz.cell 6
    refine bodyPost_ret ?_ ?_ hrz
    rotate_left
    ·rfl
    ·clear hrz hkz
     simp at d0 d1 d2 d3 d4 d5 d6
     simp [results, Tryz.results63, go_sem, d0, d1, d2, d3, d4, d5, d6]
  ·rw [if_neg hsn]
   have HC : Hid (rsCells (b ||| 16) = fun ng a l c => #[.bool n, .bool u, .bool e, .bool m, .bool true, .bool ng, .slice a l c]) := Lib.hid (by
    funext ng a l c
    unfold rsCells
    rw [fN_or, fU_or, fD_or, fM_or, fP_or, hn, hu, he, hm, hp]
    simp [fN, fU, fD, fM, fP])
   rw [decide_eq_false hsn] at HNG
   clear hn hu he hm hp hN hx hk hk1 hsn hbl
   cases p <;> cases m
   ·go_enter Tryz.func63, Tryz.ntmps63
    go_upto_region 1 with fail
    obtain ⟨hk0, hk1, hbw, -⟩ := two_bx w 89 #[.bool n, .bool u, .bool e, .bool false, .bool false, .bool na, .slice a l c] #[.bool false, .bool false, .bool false, .bool false, .bool false, .bool false, .slice none 0 0]
    generalize ((w.alloc (.cells #[.bool n, .bool u, .bool e, .bool false, .bool false, .bool na, .slice a l c] 89)).alloc (.cells #[.bool false, .bool false, .bool false, .bool false, .bool false, .bool false, .slice none 0 0] 89)) = w7 at *
    have HN7 := Lib.hid (HN.out.below hbw (Nat.le_refl _))
    have HB7 := Lib.hid hbw
    generalize hsz0 : w.heap.size = s at *
    have HSZ := Lib.hid hsz0
    have HK0 := Lib.hid hk0
    have HK1 := Lib.hid hk1
    clear hk0 hk1 hsz0 hbw
    go_wp2_with fail
    refine (HSP.out _).mono ?_; rintro ee w8 ⟨ng, mm, xx, rfl, hsp, hb8⟩
    have hng := HNG.out ng mm xx hsp
    subst hng
    clear hsp
    have HB8 := Lib.hid (HB7.out.trans (hb8.mono (by rw [← HSZ.out]; exact HB7.out.size)))
    have HN8 := Lib.hid (HN7.out.below hb8 (Nat.le_refl _))
    have HK08 := Lib.hid (HK0.out.below hb8 HK0.out.lt)
    have HK18 := Lib.hid (HK1.out.below hb8 HK1.out.lt)
    clear hb8 HB7 HN7 HK0 HK1
    go_wp2_with fail
    refine (HKI.out _).mono ?_; rintro ee w9 ⟨rfl, hb9⟩
    have HB9 := Lib.hid (HB8.out.trans (hb9.mono (by rw [← HSZ.out]; exact HB8.out.size)))
    have HN9 := Lib.hid (HN8.out.below hb9 (Nat.le_refl _))
    have hk0 := HK08.out.below hb9 HK08.out.lt
    have hk1 := HK18.out.below hb9 HK18.out.lt
    have HK09 := Lib.hid hk0
    have HK19 := Lib.hid hk1
    clear hb9 HB8 HN8 HK08 HK18
    have x0 := hk0.c 0
    have x1 := hk0.c 1
    have x2 := hk0.c 2
    have x3 := hk0.c 3
    have x4 := hk0.c 4
    have x5 := hk0.c 5
    have x6 := hk0.c 6
    have r0 := hk1.c 0
    have r1 := hk1.c 1
    have r2 := hk1.c 2
    have r3 := hk1.c 3
    have r4 := hk1.c 4
    have r5 := hk1.c 5
    have r6 := hk1.c 6
    have xf : ∀ o, w9.frozen? ⟨s, o, none⟩ = false := fun o => hk0.frozen o
    have rf : ∀ o, w9.frozen? ⟨s + 1, o, none⟩ = false := fun o => hk1.frozen o
    clear hk0 hk1
    go_upto_region 13 with fail
    have ha0 : Blk (w9.setCell ⟨s, 3, none⟩ (.bool false)) s 89 #[.bool n, .bool u, .bool e, .bool false, .bool false, .bool na, .slice a l c] := (HK09.out.set_ 3 _).to rfl
    have hc0 : Blk (w9.setCell ⟨s, 3, none⟩ (.bool false)) (s + 1) 89 #[.bool false, .bool false, .bool false, .bool false, .bool false, .bool false, .slice none 0 0] := HK19.out.far (by simp) _
    have hn0 : NumC (w9.setCell ⟨s, 3, none⟩ (.bool false)) na a l c z := NumC.set HN9.out (HK09.out.cell 3) (fun _ e => by cases e) _
    have hb0 : Below s w (w9.setCell ⟨s, 3, none⟩ (.bool false)) := HB9.out.setCell (by simp) _
    have ha1 : Blk ((w9.setCell ⟨s, 3, none⟩ (.bool false)).setCell ⟨s, 4, none⟩ (.bool true)) s 89 #[.bool n, .bool u, .bool e, .bool false, .bool true, .bool na, .slice a l c] := (ha0.set_ 4 _).to rfl
    have hc1 : Blk ((w9.setCell ⟨s, 3, none⟩ (.bool false)).setCell ⟨s, 4, none⟩ (.bool true)) (s + 1) 89 #[.bool false, .bool false, .bool false, .bool false, .bool false, .bool false, .slice none 0 0] := hc0.far (by simp) _
    have hn1 : NumC ((w9.setCell ⟨s, 3, none⟩ (.bool false)).setCell ⟨s, 4, none⟩ (.bool true)) na a l c z := NumC.set hn0 (ha0.cell 4) (fun _ e => by cases e) _
    have hb1 : Below s w ((w9.setCell ⟨s, 3, none⟩ (.bool false)).setCell ⟨s, 4, none⟩ (.bool true)) := hb0.setCell (by simp) _
    have HRZ := Lib.hid (RRS.seven hn1 hc1 s HSZ.out hb1 (by omega) HC.out true)
    have HKZ := Lib.hid (Blk.seven hc1 n u e false true na a l c)
    generalize ((w9.setCell ⟨s, 3, none⟩ (.bool false)).setCell ⟨s, 4, none⟩ (.bool true)) = w10 at *
    have x0 := ha1.c 0
    have x1 := ha1.c 1
    have x2 := ha1.c 2
    have x3 := ha1.c 3
    have x4 := ha1.c 4
    have x5 := ha1.c 5
    have x6 := ha1.c 6
    have r0 := hc1.c 0
    have r1 := hc1.c 1
    have r2 := hc1.c 2
    have r3 := hc1.c 3
    have r4 := hc1.c 4
    have r5 := hc1.c 5
    have r6 := hc1.c 6
    have rf : ∀ o, w10.frozen? ⟨s + 1, o, none⟩ = false := fun o => hc1.frozen o
    clear ha0 hc0 hn0 hb0 ha1 hc1 hn1 hb1
    go_wp2_with fail
    have hrz := HRZ.out
    have hkz := HKZ.out
    generalize (World.setCell _ _ _) = wz at hkz hrz ⊢
    have d0 := hkz.cell 0
    have d1 := hkz.cell 1
    have d2 := hkz.cell 2
    have d3 := hkz.cell 3
    have d4 := hkz.cell 4
    have d5 := hkz.cell 5
    have d6 := hkz.cell 6
    refine bodyPost_ret ?_ ?_ hrz
    rotate_left
    ·rfl
    ·clear hrz hkz
     simp at d0 d1 d2 d3 d4 d5 d6
     simp [results, Tryz.results63, go_sem, d0, d1, d2, d3, d4, d5, d6]
   ·go_enter Tryz.func63, Tryz.ntmps63
    go_upto_region 1 with fail
    obtain ⟨hk0, hk1, hbw, -⟩ := two_bx w 89 #[.bool n, .bool u, .bool e, .bool true, .bool false, .bool na, .slice a l c] #[.bool false, .bool false, .bool false, .bool false, .bool false, .bool false, .slice none 0 0]
    generalize ((w.alloc (.cells #[.bool n, .bool u, .bool e, .bool true, .bool false, .bool na, .slice a l c] 89)).alloc (.cells #[.bool false, .bool false, .bool false, .bool false, .bool false, .bool false, .slice none 0 0] 89)) = w7 at *
    have HN7 := Lib.hid (HN.out.below hbw (Nat.le_refl _))
    have HB7 := Lib.hid hbw
    generalize hsz0 : w.heap.size = s at *
    have HSZ := Lib.hid hsz0
    have HK0 := Lib.hid hk0
    have HK1 := Lib.hid hk1
    clear hk0 hk1 hsz0 hbw
    go_wp2_with fail
    refine (HSP.out _).mono ?_; rintro ee w8 ⟨ng, mm, xx, rfl, hsp, hb8⟩
    have hng := HNG.out ng mm xx hsp
    subst hng
    clear hsp
    have HB8 := Lib.hid (HB7.out.trans (hb8.mono (by rw [← HSZ.out]; exact HB7.out.size)))
    have HN8 := Lib.hid (HN7.out.below hb8 (Nat.le_refl _))
    have HK08 := Lib.hid (HK0.out.below hb8 HK0.out.lt)
    have HK18 := Lib.hid (HK1.out.below hb8 HK1.out.lt)
    clear hb8 HB7 HN7 HK0 HK1
    go_wp2_with fail
    refine (HKI.out _).mono ?_; rintro ee w9 ⟨rfl, hb9⟩
    have HB9 := Lib.hid (HB8.out.trans (hb9.mono (by rw [← HSZ.out]; exact HB8.out.size)))
    have HN9 := Lib.hid (HN8.out.below hb9 (Nat.le_refl _))
    have hk0 := HK08.out.below hb9 HK08.out.lt
    have hk1 := HK18.out.below hb9 HK18.out.lt
    have HK09 := Lib.hid hk0
    have HK19 := Lib.hid hk1
    clear hb9 HB8 HN8 HK08 HK18
    have x0 := hk0.c 0
    have x1 := hk0.c 1
    have x2 := hk0.c 2
    have x3 := hk0.c 3
    have x4 := hk0.c 4
    have x5 := hk0.c 5
    have x6 := hk0.c 6
    have r0 := hk1.c 0
    have r1 := hk1.c 1
    have r2 := hk1.c 2
    have r3 := hk1.c 3
    have r4 := hk1.c 4
    have r5 := hk1.c 5
    have r6 := hk1.c 6
    have xf : ∀ o, w9.frozen? ⟨s, o, none⟩ = false := fun o => hk0.frozen o
    have rf : ∀ o, w9.frozen? ⟨s + 1, o, none⟩ = false := fun o => hk1.frozen o
    clear hk0 hk1
    go_upto_region 13 with fail
    have ha0 : Blk (w9.setCell ⟨s, 3, none⟩ (.bool true)) s 89 #[.bool n, .bool u, .bool e, .bool true, .bool false, .bool na, .slice a l c] := (HK09.out.set_ 3 _).to rfl
    have hc0 : Blk (w9.setCell ⟨s, 3, none⟩ (.bool true)) (s + 1) 89 #[.bool false, .bool false, .bool false, .bool false, .bool false, .bool false, .slice none 0 0] := HK19.out.far (by simp) _
    have hn0 : NumC (w9.setCell ⟨s, 3, none⟩ (.bool true)) na a l c z := NumC.set HN9.out (HK09.out.cell 3) (fun _ e => by cases e) _
    have hb0 : Below s w (w9.setCell ⟨s, 3, none⟩ (.bool true)) := HB9.out.setCell (by simp) _
    have ha1 : Blk ((w9.setCell ⟨s, 3, none⟩ (.bool true)).setCell ⟨s, 4, none⟩ (.bool true)) s 89 #[.bool n, .bool u, .bool e, .bool true, .bool true, .bool na, .slice a l c] := (ha0.set_ 4 _).to rfl
    have hc1 : Blk ((w9.setCell ⟨s, 3, none⟩ (.bool true)).setCell ⟨s, 4, none⟩ (.bool true)) (s + 1) 89 #[.bool false, .bool false, .bool false, .bool false, .bool false, .bool false, .slice none 0 0] := hc0.far (by simp) _
    have hn1 : NumC ((w9.setCell ⟨s, 3, none⟩ (.bool true)).setCell ⟨s, 4, none⟩ (.bool true)) na a l c z := NumC.set hn0 (ha0.cell 4) (fun _ e => by cases e) _
    have hb1 : Below s w ((w9.setCell ⟨s, 3, none⟩ (.bool true)).setCell ⟨s, 4, none⟩ (.bool true)) := hb0.setCell (by simp) _
    have HRZ := Lib.hid (RRS.seven hn1 hc1 s HSZ.out hb1 (by omega) HC.out true)
    have HKZ := Lib.hid (Blk.seven hc1 n u e true true na a l c)
    generalize ((w9.setCell ⟨s, 3, none⟩ (.bool true)).setCell ⟨s, 4, none⟩ (.bool true)) = w10 at *
    have x0 := ha1.c 0
    have x1 := ha1.c 1
    have x2 := ha1.c 2
    have x3 := ha1.c 3
    have x4 := ha1.c 4
    have x5 := ha1.c 5
    have x6 := ha1.c 6
    have r0 := hc1.c 0
    have r1 := hc1.c 1
    have r2 := hc1.c 2
    have r3 := hc1.c 3
    have r4 := hc1.c 4
    have r5 := hc1.c 5
    have r6 := hc1.c 6
    have rf : ∀ o, w10.frozen? ⟨s + 1, o, none⟩ = false := fun o => hc1.frozen o
    clear ha0 hc0 hn0 hb0 ha1 hc1 hn1 hb1
    go_wp2_with fail
    have hrz := HRZ.out
    have hkz := HKZ.out
    generalize (World.setCell _ _ _) = wz at hkz hrz ⊢
    have d0 := hkz.cell 0
    have d1 := hkz.cell 1
    have d2 := hkz.cell 2
    have d3 := hkz.cell 3
    have d4 := hkz.cell 4
    have d5 := hkz.cell 5
    have d6 := hkz.cell 6
    refine bodyPost_ret ?_ ?_ hrz
    rotate_left
    ·rfl
    ·clear hrz hkz
     simp at d0 d1 d2 d3 d4 d5 d6
     simp [results, Tryz.results63, go_sem, d0, d1, d2, d3, d4, d5, d6]
   ·go_enter Tryz.func63, Tryz.ntmps63
    go_upto_region 1 with fail
    obtain ⟨hk0, hk1, hbw, -⟩ := two_bx w 89 #[.bool n, .bool u, .bool e, .bool false, .bool true, .bool na, .slice a l c] #[.bool false, .bool false, .bool false, .bool false, .bool false, .bool false, .slice none 0 0]
    generalize ((w.alloc (.cells #[.bool n, .bool u, .bool e, .bool false, .bool true, .bool na, .slice a l c] 89)).alloc (.cells #[.bool false, .bool false, .bool false, .bool false, .bool false, .bool false, .slice none 0 0] 89)) = w7 at *
    have HN7 := Lib.hid (HN.out.below hbw (Nat.le_refl _))
    have HB7 := Lib.hid hbw
    generalize hsz0 : w.heap.size = s at *
    have HSZ := Lib.hid hsz0
    have HK0 := Lib.hid hk0
    have HK1 := Lib.hid hk1
    clear hk0 hk1 hsz0 hbw
    go_wp2_with fail
    refine (HSP.out _).mono ?_; rintro ee w8 ⟨ng, mm, xx, rfl, hsp, hb8⟩
    have hng := HNG.out ng mm xx hsp
    subst hng
    clear hsp
    have HB8 := Lib.hid (HB7.out.trans (hb8.mono (by rw [← HSZ.out]; exact HB7.out.size)))
    have HN8 := Lib.hid (HN7.out.below hb8 (Nat.le_refl _))
    have HK08 := Lib.hid (HK0.out.below hb8 HK0.out.lt)
    have HK18 := Lib.hid (HK1.out.below hb8 HK1.out.lt)
    clear hb8 HB7 HN7 HK0 HK1
    go_wp2_with fail
    refine (HKI.out _).mono ?_; rintro ee w9 ⟨rfl, hb9⟩
    have HB9 := Lib.hid (HB8.out.trans (hb9.mono (by rw [← HSZ.out]; exact HB8.out.size)))
    have HN9 := Lib.hid (HN8.out.below hb9 (Nat.le_refl _))
    have hk0 := HK08.out.below hb9 HK08.out.lt
    have hk1 := HK18.out.below hb9 HK18.out.lt
    have HK09 := Lib.hid hk0
    have HK19 := Lib.hid hk1
    clear hb9 HB8 HN8 HK08 HK18
    have x0 := hk0.c 0
    have x1 := hk0.c 1
    have x2 := hk0.c 2
    have x3 := hk0.c 3
    have x4 := hk0.c 4
    have x5 := hk0.c 5
    have x6 := hk0.c 6
    have r0 := hk1.c 0
    have r1 := hk1.c 1
    have r2 := hk1.c 2
    have r3 := hk1.c 3
    have r4 := hk1.c 4
    have r5 := hk1.c 5
    have r6 := hk1.c 6
    have xf : ∀ o, w9.frozen? ⟨s, o, none⟩ = false := fun o => hk0.frozen o
    have rf : ∀ o, w9.frozen? ⟨s + 1, o, none⟩ = false := fun o => hk1.frozen o
    clear hk0 hk1
    go_upto_region 13 with fail
    have ha0 : Blk (w9.setCell ⟨s, 3, none⟩ (.bool false)) s 89 #[.bool n, .bool u, .bool e, .bool false, .bool true, .bool na, .slice a l c] := (HK09.out.set_ 3 _).to rfl
    have hc0 : Blk (w9.setCell ⟨s, 3, none⟩ (.bool false)) (s + 1) 89 #[.bool false, .bool false, .bool false, .bool false, .bool false, .bool false, .slice none 0 0] := HK19.out.far (by simp) _
    have hn0 : NumC (w9.setCell ⟨s, 3, none⟩ (.bool false)) na a l c z := NumC.set HN9.out (HK09.out.cell 3) (fun _ e => by cases e) _
    have hb0 : Below s w (w9.setCell ⟨s, 3, none⟩ (.bool false)) := HB9.out.setCell (by simp) _
    have ha1 : Blk ((w9.setCell ⟨s, 3, none⟩ (.bool false)).setCell ⟨s, 4, none⟩ (.bool true)) s 89 #[.bool n, .bool u, .bool e, .bool false, .bool true, .bool na, .slice a l c] := (ha0.set_ 4 _).to rfl
    have hc1 : Blk ((w9.setCell ⟨s, 3, none⟩ (.bool false)).setCell ⟨s, 4, none⟩ (.bool true)) (s + 1) 89 #[.bool false, .bool false, .bool false, .bool false, .bool false, .bool false, .slice none 0 0] := hc0.far (by simp) _
    have hn1 : NumC ((w9.setCell ⟨s, 3, none⟩ (.bool false)).setCell ⟨s, 4, none⟩ (.bool true)) na a l c z := NumC.set hn0 (ha0.cell 4) (fun _ e => by cases e) _
    have hb1 : Below s w ((w9.setCell ⟨s, 3, none⟩ (.bool false)).setCell ⟨s, 4, none⟩ (.bool true)) := hb0.setCell (by simp) _
    have HRZ := Lib.hid (RRS.seven hn1 hc1 s HSZ.out hb1 (by omega) HC.out true)
    have HKZ := Lib.hid (Blk.seven hc1 n u e false true na a l c)
    generalize ((w9.setCell ⟨s, 3, none⟩ (.bool false)).setCell ⟨s, 4, none⟩ (.bool true)) = w10 at *
    have x0 := ha1.c 0
    have x1 := ha1.c 1
    have x2 := ha1.c 2
    have x3 := ha1.c 3
    have x4 := ha1.c 4
    have x5 := ha1.c 5
    have x6 := ha1.c 6
    have r0 := hc1.c 0
    have r1 := hc1.c 1
    have r2 := hc1.c 2
    have r3 := hc1.c 3
    have r4 := hc1.c 4
    have r5 := hc1.c 5
    have r6 := hc1.c 6
    have rf : ∀ o, w10.frozen? ⟨s + 1, o, none⟩ = false := fun o => hc1.frozen o
    clear ha0 hc0 hn0 hb0 ha1 hc1 hn1 hb1
    go_wp2_with fail
    have hrz := HRZ.out
    have hkz := HKZ.out
    generalize (World.setCell _ _ _) = wz at hkz hrz ⊢
    have d0 := hkz.cell 0
    have d1 := hkz.cell 1
    have d2 := hkz.cell 2
    have d3 := hkz.cell 3
    have d4 := hkz.cell 4
    have d5 := hkz.cell 5
    have d6 := hkz.cell 6
    refine bodyPost_ret ?_ ?_ hrz
    rotate_left
    ·rfl
    ·clear hrz hkz
     simp at d0 d1 d2 d3 d4 d5 d6
     simp [results, Tryz.results63, go_sem, d0, d1, d2, d3, d4, d5, d6]
   ·go_enter Tryz.func63, Tryz.ntmps63
    go_upto_region 1 with fail
    obtain ⟨hk0, hk1, hbw, -⟩ := two_bx w 89 #[.bool n, .bool u, .bool e, .bool true, .bool true, .bool na, .slice a l c] #[.bool false, .bool false, .bool false, .bool false, .bool false, .bool false, .slice none 0 0]
    generalize ((w.alloc (.cells #[.bool n, .bool u, .bool e, .bool true, .bool true, .bool na, .slice a l c] 89)).alloc (.cells #[.bool false, .bool false, .bool false, .bool false, .bool false, .bool false, .slice none 0 0] 89)) = w7 at *
    have HN7 := Lib.hid (HN.out.below hbw (Nat.le_refl _))
    have HB7 := Lib.hid hbw
    generalize hsz0 : w.heap.size = s at *
    have HSZ := Lib.hid hsz0
    have HK0 := Lib.hid hk0
    have HK1 := Lib.hid hk1
    clear hk0 hk1 hsz0 hbw
    go_wp2_with fail
    refine (HSP.out _).mono ?_; rintro ee w8 ⟨ng, mm, xx, rfl, hsp, hb8⟩
    have hng := HNG.out ng mm xx hsp
    subst hng
    clear hsp
    have HB8 := Lib.hid (HB7.out.trans (hb8.mono (by rw [← HSZ.out]; exact HB7.out.size)))
    have HN8 := Lib.hid (HN7.out.below hb8 (Nat.le_refl _))
    have HK08 := Lib.hid (HK0.out.below hb8 HK0.out.lt)
    have HK18 := Lib.hid (HK1.out.below hb8 HK1.out.lt)
    clear hb8 HB7 HN7 HK0 HK1
    go_wp2_with fail
    refine (HKI.out _).mono ?_; rintro ee w9 ⟨rfl, hb9⟩
    have HB9 := Lib.hid (HB8.out.trans (hb9.mono (by rw [← HSZ.out]; exact HB8.out.size)))
    have HN9 := Lib.hid (HN8.out.below hb9 (Nat.le_refl _))
    have hk0 := HK08.out.below hb9 HK08.out.lt
    have hk1 := HK18.out.below hb9 HK18.out.lt
    have HK09 := Lib.hid hk0
    have HK19 := Lib.hid hk1
    clear hb9 HB8 HN8 HK08 HK18
    have x0 := hk0.c 0
    have x1 := hk0.c 1
    have x2 := hk0.c 2
    have x3 := hk0.c 3
    have x4 := hk0.c 4
    have x5 := hk0.c 5
    have x6 := hk0.c 6
    have r0 := hk1.c 0
    have r1 := hk1.c 1
    have r2 := hk1.c 2
    have r3 := hk1.c 3
    have r4 := hk1.c 4
    have r5 := hk1.c 5
    have r6 := hk1.c 6
    have xf : ∀ o, w9.frozen? ⟨s, o, none⟩ = false := fun o => hk0.frozen o
    have rf : ∀ o, w9.frozen? ⟨s + 1, o, none⟩ = false := fun o => hk1.frozen o
    clear hk0 hk1
    go_upto_region 13 with fail
    have ha0 : Blk (w9.setCell ⟨s, 3, none⟩ (.bool true)) s 89 #[.bool n, .bool u, .bool e, .bool true, .bool true, .bool na, .slice a l c] := (HK09.out.set_ 3 _).to rfl
    have hc0 : Blk (w9.setCell ⟨s, 3, none⟩ (.bool true)) (s + 1) 89 #[.bool false, .bool false, .bool false, .bool false, .bool false, .bool false, .slice none 0 0] := HK19.out.far (by simp) _
    have hn0 : NumC (w9.setCell ⟨s, 3, none⟩ (.bool true)) na a l c z := NumC.set HN9.out (HK09.out.cell 3) (fun _ e => by cases e) _
    have hb0 : Below s w (w9.setCell ⟨s, 3, none⟩ (.bool true)) := HB9.out.setCell (by simp) _
    have ha1 : Blk ((w9.setCell ⟨s, 3, none⟩ (.bool true)).setCell ⟨s, 4, none⟩ (.bool true)) s 89 #[.bool n, .bool u, .bool e, .bool true, .bool true, .bool na, .slice a l c] := (ha0.set_ 4 _).to rfl
    have hc1 : Blk ((w9.setCell ⟨s, 3, none⟩ (.bool true)).setCell ⟨s, 4, none⟩ (.bool true)) (s + 1) 89 #[.bool false, .bool false, .bool false, .bool false, .bool false, .bool false, .slice none 0 0] := hc0.far (by simp) _
    have hn1 : NumC ((w9.setCell ⟨s, 3, none⟩ (.bool true)).setCell ⟨s, 4, none⟩ (.bool true)) na a l c z := NumC.set hn0 (ha0.cell 4) (fun _ e => by cases e) _
    have hb1 : Below s w ((w9.setCell ⟨s, 3, none⟩ (.bool true)).setCell ⟨s, 4, none⟩ (.bool true)) := hb0.setCell (by simp) _
    have HRZ := Lib.hid (RRS.seven hn1 hc1 s HSZ.out hb1 (by omega) HC.out true)
    have HKZ := Lib.hid (Blk.seven hc1 n u e true true na a l c)
    generalize ((w9.setCell ⟨s, 3, none⟩ (.bool true)).setCell ⟨s, 4, none⟩ (.bool true)) = w10 at *
    have x0 := ha1.c 0
    have x1 := ha1.c 1
    have x2 := ha1.c 2
    have x3 := ha1.c 3
    have x4 := ha1.c 4
    have x5 := ha1.c 5
    have x6 := ha1.c 6
    have r0 := hc1.c 0
    have r1 := hc1.c 1
    have r2 := hc1.c 2
    have r3 := hc1.c 3
    have r4 := hc1.c 4
    have r5 := hc1.c 5
    have r6 := hc1.c 6
    have rf : ∀ o, w10.frozen? ⟨s + 1, o, none⟩ = false := fun o => hc1.frozen o
    clear ha0 hc0 hn0 hb0 ha1 hc1 hn1 hb1
    go_wp2_with fail
    have hrz := HRZ.out
    have hkz := HKZ.out
    generalize (World.setCell _ _ _) = wz at hkz hrz ⊢
    have d0 := hkz.cell 0
    have d1 := hkz.cell 1
    have d2 := hkz.cell 2
    have d3 := hkz.cell 3
    have d4 := hkz.cell 4
    have d5 := hkz.cell 5
    have d6 := hkz.cell 6
    refine bodyPost_ret ?_ ?_ hrz
    rotate_left
    ·rfl
    ·clear hrz hkz
     simp at d0 d1 d2 d3 d4 d5 d6
     simp [results, Tryz.results63, go_sem, d0, d1, d2, d3, d4, d5, d6]
 ·exact absurd hk hk1
end Go.Proofs.YtehmompbmnejkaaGreat
