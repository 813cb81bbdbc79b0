/- Contracts of package bushelref04's fits and fits0. Conditions: numbers that fit; units from 2^-1074 on. -/
import Derived.Test.YtehmompbmnejkaaGreatMRat2
import Derived.Test.YtehmompbmnejkaaGreatMReg
import Derived.Test.YtehmompbmnejkaaGreatMEx3
import Derived.Test.YtehmompbmnejkaaGreatMEx2
import Derived.IntWalk
import Derived.Deep.DeepCutAuto
namespace Go.Proofs.YtehmompbmnejkaaGreat
open Go.RowKit Ieee

theorem three_bx (w : World) (t : TypeId) (c1 c2 c3 : Array Value) : Blk (((w.alloc (.cells c1 t)).alloc (.cells c2 t)).alloc (.cells c3 t)) w.heap.size t c1 ∧ Blk (((w.alloc (.cells c1 t)).alloc (.cells c2 t)).alloc (.cells c3 t)) (w.heap.size + 1) t c2 ∧ Blk (((w.alloc (.cells c1 t)).alloc (.cells c2 t)).alloc (.cells c3 t)) (w.heap.size + 2) t c3 ∧
  Below w.heap.size w (((w.alloc (.cells c1 t)).alloc (.cells c2 t)).alloc (.cells c3 t)) := by
 obtain ⟨h0, h1, hb, hs⟩ := two_bx w t c1 c2
 refine ⟨h0.alloc _, h1.alloc _, ?_, hb.alloc (by omega) _⟩
 have h := Blk.new ((w.alloc (.cells c1 t)).alloc (.cells c2 t)) t c3
 rw [hs] at h
 exact h

end Go.Proofs.YtehmompbmnejkaaGreat
/- Contract of package bushelref05's Join. Conditions: both below 2^2240 units. -/
namespace Go.Proofs.YtehmompbmnejkaaGreat
open Go.RowKit Ieee

theorem fN_or (b d : Nat) : fN (b ||| d) = (fN b || fN d) := by simp [fN]
theorem fU_or (b d : Nat) : fU (b ||| d) = (fU b || fU d) := by
 have h := Nat.testBit_or b d 1
 rw [Nat.testBit_eq_decide_div_mod_eq, Nat.testBit_eq_decide_div_mod_eq, Nat.testBit_eq_decide_div_mod_eq] at h
 simpa [fU] using h
theorem fD_or (b d : Nat) : fD (b ||| d) = (fD b || fD d) := by
 have h := Nat.testBit_or b d 2
 rw [Nat.testBit_eq_decide_div_mod_eq, Nat.testBit_eq_decide_div_mod_eq, Nat.testBit_eq_decide_div_mod_eq] at h
 simpa [fD] using h
theorem fM_or (b d : Nat) : fM (b ||| d) = (fM b || fM d) := by
 have h := Nat.testBit_or b d 3
 rw [Nat.testBit_eq_decide_div_mod_eq, Nat.testBit_eq_decide_div_mod_eq, Nat.testBit_eq_decide_div_mod_eq] at h
 simpa [fM] using h
theorem fP_or (b d : Nat) : fP (b ||| d) = (fP b || fP d) := by
 have h := Nat.testBit_or b d 4
 rw [Nat.testBit_eq_decide_div_mod_eq, Nat.testBit_eq_decide_div_mod_eq, Nat.testBit_eq_decide_div_mod_eq] at h
 simpa [fP] using h

/-- a sum of the reference and whether it has room -/
def RRS (b : Nat) (z : Int) (ok : Bool) (w : World) (e : Ending) (w' : World) : Prop :=
 ∃ ng a l c, e = .returned (.tuple #[.agg (rsCells b ng a l c), .bool ok]) ∧ NumC w' ng a l c z ∧ Below w.heap.size w w'
theorem room_cmp {k : Nat} (hk : k = K2240) (s : Int) : ∃ r, cmpZ ((s.natAbs : Nat) : Int) (2 ^ k) = r ∧ decide (0 ≤ r) = !decide (s.natAbs < ROOM) := by
 refine ⟨_, rfl, ?_⟩
 have e : (2 : Int) ^ k = ((ROOM : Nat) : Int) := by rw [room_eq, hk, Int.natCast_pow]; rfl
 rw [e]
 by_cases h : s.natAbs < ROOM
 ·rw [decide_eq_true h, cmpZ_lt (by omega)]; rfl
 ·rw [decide_eq_false h]
  rcases Nat.lt_or_ge ROOM s.natAbs with h1 | h1
  ·rw [cmpZ_gt (by omega)]; rfl
  ·rw [cmpZ_eq (by omega)]; rfl

theorem Blk.seven {w : World} {B : Nat} {T : TypeId} {c0 c1 c2 c3 c4 c5 : Bool} {A : Option Addr} {L C : Nat} (hk : Blk w B T #[.bool c0, .bool c1, .bool c2, .bool c3, .bool c4, .bool c5, .slice A L C]) (u0 u1 u2 u3 u4 u5 : Bool) (a : Option Addr) (l c : Nat) :
  Blk (((((((w.setCell ⟨B, 0, none⟩ (.bool u0)).setCell ⟨B, 1, none⟩ (.bool u1)).setCell ⟨B, 2, none⟩ (.bool u2)).setCell ⟨B, 3, none⟩ (.bool u3)).setCell ⟨B, 4, none⟩ (.bool u4)).setCell ⟨B, 5, none⟩ (.bool u5)).setCell ⟨B, 6, none⟩ (.slice a l c)) B T #[.bool u0, .bool u1, .bool u2, .bool u3, .bool u4, .bool u5, .slice a l c] := by
 have k1 : Blk (w.setCell ⟨B, 0, none⟩ (.bool u0)) B T #[.bool u0, .bool c1, .bool c2, .bool c3, .bool c4, .bool c5, .slice A L C] := (hk.set_ 0 (.bool u0)).to rfl
 have k2 : Blk ((w.setCell ⟨B, 0, none⟩ (.bool u0)).setCell ⟨B, 1, none⟩ (.bool u1)) B T #[.bool u0, .bool u1, .bool c2, .bool c3, .bool c4, .bool c5, .slice A L C] := (k1.set_ 1 (.bool u1)).to rfl
 have k3 : Blk (((w.setCell ⟨B, 0, none⟩ (.bool u0)).setCell ⟨B, 1, none⟩ (.bool u1)).setCell ⟨B, 2, none⟩ (.bool u2)) B T #[.bool u0, .bool u1, .bool u2, .bool c3, .bool c4, .bool c5, .slice A L C] := (k2.set_ 2 (.bool u2)).to rfl
 have k4 : Blk ((((w.setCell ⟨B, 0, none⟩ (.bool u0)).setCell ⟨B, 1, none⟩ (.bool u1)).setCell ⟨B, 2, none⟩ (.bool u2)).setCell ⟨B, 3, none⟩ (.bool u3)) B T #[.bool u0, .bool u1, .bool u2, .bool u3, .bool c4, .bool c5, .slice A L C] := (k3.set_ 3 (.bool u3)).to rfl
 have k5 : Blk (((((w.setCell ⟨B, 0, none⟩ (.bool u0)).setCell ⟨B, 1, none⟩ (.bool u1)).setCell ⟨B, 2, none⟩ (.bool u2)).setCell ⟨B, 3, none⟩ (.bool u3)).setCell ⟨B, 4, none⟩ (.bool u4)) B T #[.bool u0, .bool u1, .bool u2, .bool u3, .bool u4, .bool c5, .slice A L C] := (k4.set_ 4 (.bool u4)).to rfl
 have k6 : Blk ((((((w.setCell ⟨B, 0, none⟩ (.bool u0)).setCell ⟨B, 1, none⟩ (.bool u1)).setCell ⟨B, 2, none⟩ (.bool u2)).setCell ⟨B, 3, none⟩ (.bool u3)).setCell ⟨B, 4, none⟩ (.bool u4)).setCell ⟨B, 5, none⟩ (.bool u5)) B T #[.bool u0, .bool u1, .bool u2, .bool u3, .bool u4, .bool u5, .slice A L C] := (k5.set_ 5 (.bool u5)).to rfl
 have k7 : Blk (((((((w.setCell ⟨B, 0, none⟩ (.bool u0)).setCell ⟨B, 1, none⟩ (.bool u1)).setCell ⟨B, 2, none⟩ (.bool u2)).setCell ⟨B, 3, none⟩ (.bool u3)).setCell ⟨B, 4, none⟩ (.bool u4)).setCell ⟨B, 5, none⟩ (.bool u5)).setCell ⟨B, 6, none⟩ (.slice a l c)) B T #[.bool u0, .bool u1, .bool u2, .bool u3, .bool u4, .bool u5, .slice a l c] := (k6.set_ 6 (.slice a l c)).to rfl
 exact k7
theorem NumC.seven {w : World} {B : Nat} {T : TypeId} {c0 c1 c2 c3 c4 c5 : Bool} {A : Option Addr} {L C : Nat} (hk : Blk w B T #[.bool c0, .bool c1, .bool c2, .bool c3, .bool c4, .bool c5, .slice A L C]) {ng : Bool} {a0 : Option Addr} {l0 q0 : Nat} {Z : Int} (h : NumC w ng a0 l0 q0 Z) (u0 u1 u2 u3 u4 u5 : Bool) (a : Option Addr) (l c : Nat) :
  NumC (((((((w.setCell ⟨B, 0, none⟩ (.bool u0)).setCell ⟨B, 1, none⟩ (.bool u1)).setCell ⟨B, 2, none⟩ (.bool u2)).setCell ⟨B, 3, none⟩ (.bool u3)).setCell ⟨B, 4, none⟩ (.bool u4)).setCell ⟨B, 5, none⟩ (.bool u5)).setCell ⟨B, 6, none⟩ (.slice a l c)) ng a0 l0 q0 Z := by
 have k1 : Blk (w.setCell ⟨B, 0, none⟩ (.bool u0)) B T #[.bool u0, .bool c1, .bool c2, .bool c3, .bool c4, .bool c5, .slice A L C] := (hk.set_ 0 (.bool u0)).to rfl
 have k2 : Blk ((w.setCell ⟨B, 0, none⟩ (.bool u0)).setCell ⟨B, 1, none⟩ (.bool u1)) B T #[.bool u0, .bool u1, .bool c2, .bool c3, .bool c4, .bool c5, .slice A L C] := (k1.set_ 1 (.bool u1)).to rfl
 have k3 : Blk (((w.setCell ⟨B, 0, none⟩ (.bool u0)).setCell ⟨B, 1, none⟩ (.bool u1)).setCell ⟨B, 2, none⟩ (.bool u2)) B T #[.bool u0, .bool u1, .bool u2, .bool c3, .bool c4, .bool c5, .slice A L C] := (k2.set_ 2 (.bool u2)).to rfl
 have k4 : Blk ((((w.setCell ⟨B, 0, none⟩ (.bool u0)).setCell ⟨B, 1, none⟩ (.bool u1)).setCell ⟨B, 2, none⟩ (.bool u2)).setCell ⟨B, 3, none⟩ (.bool u3)) B T #[.bool u0, .bool u1, .bool u2, .bool u3, .bool c4, .bool c5, .slice A L C] := (k3.set_ 3 (.bool u3)).to rfl
 have k5 : Blk (((((w.setCell ⟨B, 0, none⟩ (.bool u0)).setCell ⟨B, 1, none⟩ (.bool u1)).setCell ⟨B, 2, none⟩ (.bool u2)).setCell ⟨B, 3, none⟩ (.bool u3)).setCell ⟨B, 4, none⟩ (.bool u4)) B T #[.bool u0, .bool u1, .bool u2, .bool u3, .bool u4, .bool c5, .slice A L C] := (k4.set_ 4 (.bool u4)).to rfl
 have k6 : Blk ((((((w.setCell ⟨B, 0, none⟩ (.bool u0)).setCell ⟨B, 1, none⟩ (.bool u1)).setCell ⟨B, 2, none⟩ (.bool u2)).setCell ⟨B, 3, none⟩ (.bool u3)).setCell ⟨B, 4, none⟩ (.bool u4)).setCell ⟨B, 5, none⟩ (.bool u5)) B T #[.bool u0, .bool u1, .bool u2, .bool u3, .bool u4, .bool u5, .slice A L C] := (k5.set_ 5 (.bool u5)).to rfl
 have h1 : NumC (w.setCell ⟨B, 0, none⟩ (.bool u0)) ng a0 l0 q0 Z := NumC.set h (hk.cell 0) (fun _ e => by cases e) _
 have h2 : NumC ((w.setCell ⟨B, 0, none⟩ (.bool u0)).setCell ⟨B, 1, none⟩ (.bool u1)) ng a0 l0 q0 Z := NumC.set h1 (k1.cell 1) (fun _ e => by cases e) _
 have h3 : NumC (((w.setCell ⟨B, 0, none⟩ (.bool u0)).setCell ⟨B, 1, none⟩ (.bool u1)).setCell ⟨B, 2, none⟩ (.bool u2)) ng a0 l0 q0 Z := NumC.set h2 (k2.cell 2) (fun _ e => by cases e) _
 have h4 : NumC ((((w.setCell ⟨B, 0, none⟩ (.bool u0)).setCell ⟨B, 1, none⟩ (.bool u1)).setCell ⟨B, 2, none⟩ (.bool u2)).setCell ⟨B, 3, none⟩ (.bool u3)) ng a0 l0 q0 Z := NumC.set h3 (k3.cell 3) (fun _ e => by cases e) _
 have h5 : NumC (((((w.setCell ⟨B, 0, none⟩ (.bool u0)).setCell ⟨B, 1, none⟩ (.bool u1)).setCell ⟨B, 2, none⟩ (.bool u2)).setCell ⟨B, 3, none⟩ (.bool u3)).setCell ⟨B, 4, none⟩ (.bool u4)) ng a0 l0 q0 Z := NumC.set h4 (k4.cell 4) (fun _ e => by cases e) _
 have h6 : NumC ((((((w.setCell ⟨B, 0, none⟩ (.bool u0)).setCell ⟨B, 1, none⟩ (.bool u1)).setCell ⟨B, 2, none⟩ (.bool u2)).setCell ⟨B, 3, none⟩ (.bool u3)).setCell ⟨B, 4, none⟩ (.bool u4)).setCell ⟨B, 5, none⟩ (.bool u5)) ng a0 l0 q0 Z := NumC.set h5 (k5.cell 5) (fun _ e => by cases e) _
 have h7 : NumC (((((((w.setCell ⟨B, 0, none⟩ (.bool u0)).setCell ⟨B, 1, none⟩ (.bool u1)).setCell ⟨B, 2, none⟩ (.bool u2)).setCell ⟨B, 3, none⟩ (.bool u3)).setCell ⟨B, 4, none⟩ (.bool u4)).setCell ⟨B, 5, none⟩ (.bool u5)).setCell ⟨B, 6, none⟩ (.slice a l c)) ng a0 l0 q0 Z := NumC.set h6 (k6.cell 6) (fun _ e => by cases e) _
 exact h7
theorem RRS.seven {w0 w : World} {B : Nat} {T : TypeId} {c0 c1 c2 c3 c4 c5 : Bool} {A : Option Addr} {L C : Nat} {ng : Bool} {a : Option Addr} {l c : Nat} {Z : Int} {b : Nat} {u0 u1 u2 u3 u4 : Bool} (h : NumC w ng a l c Z) (hk : Blk w B T #[.bool c0, .bool c1, .bool c2, .bool c3, .bool c4, .bool c5, .slice A L C])
  (S : Nat) (hs : w0.heap.size = S) (hb : Below S w0 w) (hB : S ≤ B) (hc : rsCells b = fun ng a l c => #[.bool u0, .bool u1, .bool u2, .bool u3, .bool u4, .bool ng, .slice a l c]) (ok : Bool) :
  RRS b Z ok w0 (.returned (.tuple #[.agg #[.bool u0, .bool u1, .bool u2, .bool u3, .bool u4, .bool ng, .slice a l c], .bool ok]))
   (((((((w.setCell ⟨B, 0, none⟩ (.bool u0)).setCell ⟨B, 1, none⟩ (.bool u1)).setCell ⟨B, 2, none⟩ (.bool u2)).setCell ⟨B, 3, none⟩ (.bool u3)).setCell ⟨B, 4, none⟩ (.bool u4)).setCell ⟨B, 5, none⟩ (.bool ng)).setCell ⟨B, 6, none⟩ (.slice a l c)) :=
 by
 subst hs
 exact ⟨ng, a, l, c, by rw [hc], NumC.seven hk h _ _ _ _ _ _ _ _ _, ((((((hb.setCell hB _).setCell hB _).setCell hB _).setCell hB _).setCell hB _).setCell hB _).setCell hB _⟩

set_option maxRecDepth 100000 in
set_option maxHeartbeats 16000000 in
theorem rsjoin_b (w : World) (b d : Nat) (z y : Int) (n u e m p n2 u2 e2 m2 p2 na nb : Bool) (a : Option Addr) (l c : Nat) (a2 : Option Addr) (l2 c2 : Nat) (hN : NumC w na a l c z) (hM : NumC w nb a2 l2 c2 y) (hz : z.natAbs < ROOM) (hy : y.natAbs < ROOM)
  (hn : fN b = n) (hu : fU b = u) (he : fD b = e) (hm : fM b = m) (hp : fP b = p) (hn2 : fN d = n2) (hu2 : fU d = u2) (he2 : fD d = e2) (hm2 : fM d = m2) (hp2 : fP d = p2) :
  Calls Tryz.prog 56 #[.agg #[.bool n, .bool u, .bool e, .bool m, .bool p, .bool na, .slice a l c], .agg #[.bool n2, .bool u2, .bool e2, .bool m2, .bool p2, .bool nb, .slice a2 l2 c2]] w (RRS (joinF b d z y) (putZ z y) (decide ((z + y).natAbs < ROOM)) w) := by
 have hfz : Fit z := Fit.of_pow2 (k := K2240) (by rw [← room_eq]; exact hz) (by decide)
 have hfy : Fit y := Fit.of_pow2 (k := K2240) (by rw [← room_eq]; exact hy) (by decide)
 have HFZ := Lib.hid hfz
 have HFY := Lib.hid hfy
 obtain ⟨k, hk⟩ : ∃ k : Nat, k = 2240 := ⟨_, rfl⟩
 have HTW : Hid (∀ w, Calls Tryz.prog 88 #[.int .i64 2240] w (RetNum w (2 ^ k))) := Lib.hid (fun w => by
  have h := two_any k w (by omega)
  rw [show (k : Int) = 2240 from by omega] at h
  exact h)
 obtain ⟨r, hr1, hr2⟩ := room_cmp (k := k) hk (z + y)
 have HR := Lib.hid hr1
 obtain ⟨hk0, hk1, hk2, hbw⟩ := three_bx w 89 #[.bool n, .bool u, .bool e, .bool m, .bool p, .bool na, .slice a l c] #[.bool n2, .bool u2, .bool e2, .bool m2, .bool p2, .bool nb, .slice a2 l2 c2] #[.bool false, .bool false, .bool false, .bool false, .bool false, .bool false, .slice none 0 0]
 have HB7 := Lib.hid hbw
 have HX7 := Lib.hid (hN.below hbw (Nat.le_refl _))
 have HY7 := Lib.hid (hM.below hbw (Nat.le_refl _))
 have HOR : Hid ((z + y).natAbs < ROOM → rsCells (joinF b d z y) = fun ng a l c => #[.bool (n || n2), .bool (u || u2), .bool (e || e2), .bool (m || m2), .bool (p || p2), .bool ng, .slice a l c]) := Lib.hid (fun h => by
  unfold joinF
  rw [if_pos h]
  funext ng a l c
  unfold rsCells
  rw [fN_or, fU_or, fD_or, fM_or, fP_or, hn, hu, he, hm, hp, hn2, hu2, he2, hm2, hp2])
 have HNO : Hid (¬ (z + y).natAbs < ROOM → rsCells (joinF b d z y) = fun ng a l c => #[.bool n, .bool u, .bool e, .bool m, .bool p, .bool ng, .slice a l c]) := Lib.hid (fun h => by
  unfold joinF
  rw [if_neg h]
  funext ng a l c
  unfold rsCells
  rw [hn, hu, he, hm, hp])
 clear hN hM hz hy hn hu he hm hp hn2 hu2 he2 hm2 hp2 hfz hfy hbw hk hr1
 go_enter Tryz.func56, Tryz.ntmps56
 go_upto_region 1 with fail
 generalize (((w.alloc (.cells #[.bool n, .bool u, .bool e, .bool m, .bool p, .bool na, .slice a l c] 89)).alloc (.cells #[.bool n2, .bool u2, .bool e2, .bool m2, .bool p2, .bool nb, .slice a2 l2 c2] 89)).alloc (.cells #[.bool false, .bool false, .bool false, .bool false, .bool false, .bool false, .slice none 0 0] 89)) = w7 at *
 generalize hsz0 : w.heap.size = s at *
 have HSZ := Lib.hid hsz0
 have x5 := hk0.c 5
 have x6 := hk0.c 6
 have y5 := hk1.c 5
 have y6 := hk1.c 6
 have HK0 := Lib.hid hk0
 have HK1 := Lib.hid hk1
 have HK2 := Lib.hid hk2
 clear hk0 hk1 hk2 hsz0
 go_wp2_with fail
 refine (add_any _ _ _ _ _ _ _ _ z y _ HX7.out HY7.out HFZ.out HFY.out).mono ?_; rintro ee w8 ⟨n8, p8, l8, c8, rfl, hM8, hb8, -⟩
 have HB8 := Lib.hid (HB7.out.trans (hb8.mono (by rw [← HSZ.out]; exact HB7.out.size)))
 have HX8 := Lib.hid (HX7.out.below hb8 (Nat.le_refl _))
 have HK08 := Lib.hid (HK0.out.below hb8 HK0.out.lt)
 have HK18 := Lib.hid (HK1.out.below hb8 HK1.out.lt)
 have HK28 := Lib.hid (HK2.out.below hb8 HK2.out.lt)
 have HM8 := Lib.hid hM8
 clear hb8 hM8 x5 x6 y5 y6 HX7 HY7 HK0 HK1 HK2
 go_upto_region 2 with fail
 obtain ⟨hka, hbw⟩ := one_box w8 83 #[.bool n8, .slice p8 l8 c8]
 have HB9 := Lib.hid (HB8.out.trans (hbw.mono (by rw [← HSZ.out]; exact HB8.out.size)))
 have HX9 := Lib.hid (HX8.out.below hbw (Nat.le_refl _))
 have HK09 := Lib.hid (HK08.out.below hbw HK08.out.lt)
 have HK19 := Lib.hid (HK18.out.below hbw HK18.out.lt)
 have HK29 := Lib.hid (HK28.out.below hbw HK28.out.lt)
 have HM9 := Lib.hid (HM8.out.below hbw (Nat.le_refl _))
 have HKA := Lib.hid hka
 clear hbw HB8 HX8 HK08 HK18 HK28 HM8
 generalize (w8.alloc (.cells #[.bool n8, .slice p8 l8 c8] 83)) = w9 at *
 generalize w8.heap.size = t at *
 have a0 := hka.c 0
 have a1 := hka.c 1
 have hlt_t : t < w9.heap.size := hka.lt
 clear hka
 have hbA : Below w9.heap.size w9 w9.drew := (Below.refl _ _).drew
 go_region_held3 (fun w' => w'.cell? ⟨t, 0, none⟩ = some (.bool n8) ∧ w'.cell? ⟨t, 1, none⟩ = some (.slice p8 l8 c8)) (go_keep)
  (first
   | (go_at_call 88; refine (HTW.out _).mono ?_; rintro ee w10 ⟨n10, b10, l10, d10, rfl, hM10, hb10, -⟩; replace hbA := hbA.trans (hb10.mono (Nat.le_trans (by simp) hbA.size)); clear hb10; (try clear bc8 bf8); obtain ⟨bc8, bf8⟩ := bcell hbA)
   | (go_at_call 87; (with_reducible refine (cmp_at _ _ _ _ _ _ _ _ (((z + y).natAbs : Nat) : Int) (2 ^ k) r _ HR.out (HM9.out.abs.below hbA (Nat.le_refl _)) hM10).mono ?_); rintro ee w11 ⟨rfl, hb11⟩; clear hM10 bc8 bf8; replace hbA := hbA.trans (hb11.mono (Nat.le_trans (by simp) hbA.size)); clear hb11; obtain ⟨bc8, bf8⟩ := bcell hbA))
 all_goals
  clear bc8 bf8 a0 a1 hlt_t
  have HBE := Lib.hid (HB9.out.trans (hbA.mono (by rw [← HSZ.out]; exact HB9.out.size)))
  have hk0 := HK09.out.below hbA HK09.out.lt
  have hk1 := HK19.out.below hbA HK19.out.lt
  have hk2 := HK29.out.below hbA HK29.out.lt
  have hka := HKA.out.below hbA HKA.out.lt
  have HXE := Lib.hid (HX9.out.below hbA (Nat.le_refl _))
  have HME := Lib.hid (HM9.out.below hbA (Nat.le_refl _))
  have x0 := hk0.c 0
  have x1 := hk0.c 1
  have x2 := hk0.c 2
  have x3 := hk0.c 3
  have x4 := hk0.c 4
  have x5 := hk0.c 5
  have x6 := hk0.c 6
  have y0 := hk1.c 0
  have y1 := hk1.c 1
  have y2 := hk1.c 2
  have y3 := hk1.c 3
  have y4 := hk1.c 4
  have a0 := hka.c 0
  have a1 := hka.c 1
  have r0 := hk2.c 0
  have r1 := hk2.c 1
  have r2 := hk2.c 2
  have r3 := hk2.c 3
  have r4 := hk2.c 4
  have r5 := hk2.c 5
  have r6 := hk2.c 6
  have rf : ∀ o, w11.frozen? ⟨s + 2, o, none⟩ = false := fun o => hk2.frozen o
  have HKR := Lib.hid hk2
  clear hk0 hk1 hk2 hka hbA HX9 HM9 HK09 HK19 HK29 HKA HB9
  by_cases hok : (z + y).natAbs < ROOM
  ·rw [decide_eq_true hok] at hr2
   rw [decide_eq_true hok]
   have HOK := Lib.hid hok
   clear hok
   go_upto_region 4 with fail
   have HKZ := Lib.hid (And.intro (Blk.seven HKR.out (n || n2) (u || u2) (e || e2) (m || m2) (p || p2) n8 p8 l8 c8) (RRS.seven HME.out HKR.out s HSZ.out HBE.out (by omega) (HOR.out HOK.out) true))
   have HPZ : Hid (putZ z y = z + y) := Lib.hid (if_pos HOK.out)
   have HDZ : Hid (decide ((z + y).natAbs < ROOM) = true) := Lib.hid (decide_eq_true HOK.out)
   clear HOR HNO HOK HME HXE HBE HSZ HKR
   cases n <;> cases u <;> cases e <;> cases m <;> cases p
   all_goals
    go_wp2_with fail
    obtain ⟨hkz, hrz⟩ := HKZ.out
    rw [show s + 2 = s + 1 + 1 from rfl] at hkz hrz
    simp only [Bool.true_or, Bool.false_or] at hkz hrz
    rw [HPZ.out, HDZ.out]
    generalize (World.setCell _ _ _) = wz at hkz hrz ⊢
    have d0 := hkz.cell 0
    have d1 := hkz.cell 1
    have d2 := hkz.cell 2
    have d3 := hkz.cell 3
    have d4 := hkz.cell 4
    have d5 := hkz.cell 5
    have d6 := hkz.cell 6
    refine bodyPost_ret ?_ ?_ hrz
    rotate_left
    ·rfl
    ·clear hrz hkz
     simp at d0 d1 d2 d3 d4 d5 d6
     simp [results, Tryz.results56, go_sem, d0, d1, d2, d3, d4, d5, d6]
  ·rw [decide_eq_false hok] at hr2
   rw [decide_eq_false hok]
   have HOK := Lib.hid hok
   clear hok
   go_wp2_with fail
   have hkz := Blk.seven HKR.out (n) (u) (e) (m) (p) na a l c
   have hrz := RRS.seven HXE.out HKR.out s HSZ.out HBE.out (by omega) (HNO.out HOK.out) false
   rw [show s + 2 = s + 1 + 1 from rfl] at hkz hrz
   have hpz : putZ z y = z := if_neg HOK.out
   have hdz : decide ((z + y).natAbs < ROOM) = false := decide_eq_false HOK.out
   rw [hpz, hdz]
   generalize (World.setCell _ _ _) = wz at hkz hrz ⊢
   have d0 := hkz.cell 0
   have d1 := hkz.cell 1
   have d2 := hkz.cell 2
   have d3 := hkz.cell 3
   have d4 := hkz.cell 4
   have d5 := hkz.cell 5
   have d6 := hkz.cell 6
   refine bodyPost_ret (v := .tuple #[.agg #[.bool (n), .bool (u), .bool (e), .bool (m), .bool (p), .bool na, .slice a l c], .bool false]) ?_ ?_ ?_
   rotate_left
   ·rfl
   ·exact hrz
   ·clear hrz hkz
    simp at d0 d1 d2 d3 d4 d5 d6
    simp [results, Tryz.results56, go_sem, d0, d1, d2, d3, d4, d5, d6]
end Go.Proofs.YtehmompbmnejkaaGreat
