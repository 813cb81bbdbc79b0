/- The values of a real measure: contracts of agg.Value, bushelref14.Value and derive.ofReal. No conditions but those stated. -/
import Derived.Test.YtehmompbmnejkaaGreatMDer
import Derived.Test.YtehmompbmnejkaaGreatMEx5
import Derived.Test.YtehmompbmnejkaaGreatMDbD
import Derived.Test.YtehmompbmnejkaaGreatMEx2
namespace Go.Proofs.YtehmompbmnejkaaGreat
open Go.RowKit Ieee
attribute [local go_sem] run_store_float

/-- the value of a sum's bytes, and their mean -/
def BVal (bs : List Int) (z : Nat) : Prop := z < 18446744073709551616 ∧ ((codeN bs = 0 ∧ IsVal (bOf bs) (zOf bs) z) ∨ (codeN bs ≠ 0 ∧ z = 0))
def BMean (bs : List Int) (n : Int) (z : Nat) : Prop := z < 18446744073709551616 ∧ ((codeN bs = 0 ∧ IsMeanS (bOf bs) (zOf bs) n z) ∨ (codeN bs ≠ 0 ∧ z = 0))
def RBVal (P : Nat → Prop) (w : World) (e : Ending) (w' : World) : Prop := ∃ z, e = .returned (.float .f64 z) ∧ P z ∧ Below w.heap.size w w'
theorem RBVal.mk {P : Nat → Prop} {w w0 w' : World} {S z : Nat} (hP : P z) (hS : w.heap.size = S) (hbw : Below S w w0) (hb : Below S w0 w') : RBVal P w (.returned (.float .f64 z)) w' := by
 subst hS
 exact ⟨z, rfl, hP, hbw.trans hb⟩
set_option maxHeartbeats 2000000 in
theorem aggval_any (w : World) (a : Option Addr) (n c mn mx : Nat) (bs : List Int) (hr : RowK .u8 w a n c bs) (hb : Byt bs) :
  Calls Tryz.prog 39 #[.agg #[.slice a n c, .float .f64 mn, .float .f64 mx]] w (RBVal (BVal bs) w) := by
 obtain ⟨hbx, hbw, hsz⟩ := boxed w 71 #[.slice a n c, .float .f64 mn, .float .f64 mx]
 have HBW := Lib.hid hbw
 have HR := Lib.hid (read_any _ a n c bs (hr.below hbw (Nat.le_refl _)) hb)
 have HOK := Lib.hid (fun h => read_ok hb h)
 have e0 := hbx 0
 simp only [List.getElem?_toArray, List.getElem?_cons_zero] at e0
 have HSZ := Lib.hid hsz
 clear hr hb hbw hbx hsz
 go_enter Tryz.func39, Tryz.ntmps39
 go_upto_region 1 with fail
 generalize (w.alloc (.cells #[.slice a n c, .float .f64 mn, .float .f64 mx] 71)) = w0 at *
 generalize hS : w.heap.size = S at *
 have HSS := Lib.hid hS
 have hSw : S ≤ w0.heap.size := by have := HSZ.out; omega
 clear hS
 go_wp2_with fail
 refine (HR.out).mono ?_; rintro e w1 ⟨hb1, hcs⟩
 have HB1 := Lib.hid (hb1.mono hSw)
 clear hb1 e0
 rcases hcs with ⟨h0, g, rfl, hs, hg⟩ | ⟨h0, rfl⟩
 ·have H0 := Lib.hid h0
  obtain ⟨-, h32, hz, -⟩ := HOK.out h0
  have HV := Lib.hid (sumval_any w1 g _ _ hs hz h32)
  clear h0 h32 hz hs hg
  go_wp2_with fail
  refine (HV.out).mono ?_; rintro e w2 ⟨z, rfl, hz, hb2⟩
  have HZ := Lib.hid hz
  have HB2 := Lib.hid (HB1.out.trans (hb2.mono (Nat.le_trans hSw HB1.out.size)))
  clear hz hb2
  go_wp2_with fail
  go_ret
  exact RBVal.mk ⟨HZ.out.1, .inl ⟨H0.out, HZ.out⟩⟩ HSS.out HBW.out HB2.out
 ·have H0 := Lib.hid h0
  clear h0
  go_wp2_with fail
  refine (val_bad _ _ (.inl rfl)).mono ?_; rintro e w2 ⟨rfl, rfl⟩
  go_wp2_with fail
  go_ret
  exact RBVal.mk ⟨by decide, .inr ⟨H0.out, rfl⟩⟩ HSS.out HBW.out HB1.out
/-- the value of a real measure -/
def RelVal (k : Int) (bs : List Int) (mn mx : Nat) (cnt : Int) (z : Nat) : Prop := (k = 2 ∧ z = mn) ∨ (k = 3 ∧ z = mx) ∨ (k = 1 ∧ BVal bs z) ∨ (k = 4 ∧ BMean bs cnt z)
def rvP (k : Int) (bs : List Int) (mn mx : Nat) (cnt : Int) (r : Bool) (n : Int) (z : Nat) : Prop := r = true ∧ n = 0 ∧ RelVal k bs mn mx cnt z
theorem rv_results {w : World} {s : Nat} {tmps : Array Value} {v0 v1 v2 : Value} (h2 : tmps[6]? = some (.pointer (some ⟨s, 0, none⟩))) (hk : Blk w s 37 #[v0, v1, v2]) :
  (Sem.run Tryz.prog (results Tryz.f20 tmps) w) = .ok (.agg #[v0, v1, v2]) w := by
 have d0 := hk.cell 0
 have d1 := hk.cell 1
 have d2 := hk.cell 2
 clear hk
 simp at d0 d1 d2
 simp [results, Tryz.results20, go_sem, h2, d0, d1, d2]
theorem RReal.mk {P : Bool → Int → Nat → Prop} {w w0 wr : World} {S : Nat} {z : Nat} (hP : P true 0 z) (hS : w.heap.size = S) (hbw : Below S w w0) (hb : Below (S + 2) w0 wr) :
  RReal P w (.returned (.agg #[.bool true, .int .i64 0, .float .f64 z])) (((wr.setCell ⟨S + 1, 0, none⟩ (.bool true)).setCell ⟨S + 1, 1, none⟩ (.int .i64 0)).setCell ⟨S + 1, 2, none⟩ (.float .f64 z)) := by
 subst hS
 exact ⟨z, rfl, hP, (((hbw.trans (hb.mono (Nat.le_add_right _ 2))).setCell (Nat.le_add_right _ 1) _).setCell (Nat.le_add_right _ 1) _).setCell (Nat.le_add_right _ 1) _⟩
set_option maxRecDepth 100000 in
set_option maxHeartbeats 4000000 in
theorem ofreal_any (w : World) (k : Int) (a : Option Addr) (n c mn mx : Nat) (bs : List Int) (cnt : Int) (hk1 : 1 ≤ k) (hk4 : k ≤ 4) (hr : RowK .u8 w a n c bs) (hb : Byt bs) (hc : I64 cnt) (hmx : mn < 18446744073709551616 ∧ mx < 18446744073709551616) :
  Calls Tryz.prog 20 #[.int .i64 k, .agg #[.slice a n c, .float .f64 mn, .float .f64 mx], .int .i64 cnt] w (RReal (rvP k bs mn mx cnt) w) := by
 have hW : ∃ W, (w.alloc (.cells #[.slice a n c, .float .f64 mn, .float .f64 mx] 71)).alloc (.cells #[.bool false, .int .i64 0, .float .f64 0] 37) = W := ⟨_, rfl⟩
 obtain ⟨hbx, hby, hbw, hsz⟩ := two_pbox w 71 37 #[.slice a n c, .float .f64 mn, .float .f64 mx] #[.bool false, .int .i64 0, .float .f64 0]
 have HBW := Lib.hid hbw
 have HROW := Lib.hid (hr.below hbw (Nat.le_refl _))
 have HBY := Lib.hid hb
 have HOK := Lib.hid (fun h => read_ok hb h)
 have HC := Lib.hid hc
 have HK5 := Lib.hid (show Blk ((w.alloc (.cells #[.slice a n c, .float .f64 mn, .float .f64 mx] 71)).alloc (.cells #[.bool false, .int .i64 0, .float .f64 0] 37)) (w.heap.size + 1) 37 #[.bool false, .int .i64 0, .float .f64 0] from by
  have h := Blk.new (w.alloc (.cells #[.slice a n c, .float .f64 mn, .float .f64 mx] 71)) 37 #[.bool false, .int .i64 0, .float .f64 0]
  rw [show (w.alloc (.cells #[.slice a n c, .float .f64 mn, .float .f64 mx] 71)).heap.size = w.heap.size + 1 from by simp] at h
  exact h)
 have e0 := hbx 0
 have e1 := hbx 1
 have e2 := hbx 2
 simp only [List.getElem?_toArray, List.getElem?_cons_zero, List.getElem?_cons_succ] at e0 e1 e2
 have HSZ := Lib.hid hsz
 clear hr hb hbw hbx hby hsz hc hW
 go_enter Tryz.func20, Tryz.ntmps20
 go_upto_region 1 with fail
 generalize ((w.alloc (.cells #[.slice a n c, .float .f64 mn, .float .f64 mx] 71)).alloc (.cells #[.bool false, .int .i64 0, .float .f64 0] 37)) = w0 at *
 generalize hS : w.heap.size = S at *
 have HSS := Lib.hid hS
 have hSw : S + 2 ≤ w0.heap.size := by have := HSZ.out; omega
 have HMM := Lib.hid hmx
 clear hS hmx
 have hcase : k = 1 ∨ k = 2 ∨ k = 3 ∨ k = 4 := by omega
 clear hk1 hk4
 have HB0 := Lib.hid (Below.refl (S + 2) w0)
 rcases hcase with rfl | rfl | rfl | rfl
 ·have HV := Lib.hid (fun w' h => aggval_any w' a n c mn mx bs (HROW.out.below (B := w0.heap.size) h (Nat.le_refl _)) HBY.out)
  go_wp2_with fail
  refine (HV.out _ (Below.refl _ _)).mono ?_; rintro e w1 ⟨z, rfl, hz, hb1⟩
  have HZ := Lib.hid hz
  have HB1 := Lib.hid (HB0.out.trans (hb1.mono hSw))
  clear hz hb1 e0 e1 e2
  go_wp2_with fail
  refine (dreal_any _ z).mono ?_; rintro e w5 ⟨rfl, hb5⟩
  have HB5 := Lib.hid (HB1.out.trans (hb5.mono (Nat.le_trans hSw HB1.out.size)))
  clear hb5 
  have hkz := HK5.out.below HB5.out (by omega)
  have z0 := hkz.c 0
  have z1 := hkz.c 1
  have z2 := hkz.c 2
  have zf : ∀ o, w5.frozen? ⟨S + 1, o, none⟩ = false := fun o => hkz.frozen o
  have HKZ := Lib.hid (hkz.three (.bool true) (.int .i64 0) (.float .f64 z))
  have HRZ := Lib.hid (RReal.mk (P := rvP 1 bs mn mx cnt) (z := z) ⟨rfl, rfl, .inr (.inr (.inl ⟨rfl, HZ.out⟩))⟩ HSS.out HBW.out HB5.out)
  clear hkz
  go_wp2_with fail
  refine bodyPost_ret ?_ ?_ HRZ.out
  rotate_left
  ·rfl
  ·exact rv_results rfl HKZ.out
 ·go_wp2_with fail
  refine (dreal_any _ mn).mono ?_; rintro e w5 ⟨rfl, hb5⟩
  have HB5 := Lib.hid (HB0.out.trans (hb5.mono (Nat.le_trans hSw HB0.out.size)))
  clear hb5 e0 e1 e2
  have hkz := HK5.out.below HB5.out (by omega)
  have z0 := hkz.c 0
  have z1 := hkz.c 1
  have z2 := hkz.c 2
  have zf : ∀ o, w5.frozen? ⟨S + 1, o, none⟩ = false := fun o => hkz.frozen o
  have HKZ := Lib.hid (hkz.three (.bool true) (.int .i64 0) (.float .f64 mn))
  have HRZ := Lib.hid (RReal.mk (P := rvP 2 bs mn mx cnt) (z := mn) ⟨rfl, rfl, .inl ⟨rfl, rfl⟩⟩ HSS.out HBW.out HB5.out)
  clear hkz
  go_wp2_with fail
  refine bodyPost_ret ?_ ?_ HRZ.out
  rotate_left
  ·rfl
  ·exact rv_results rfl HKZ.out
 ·go_wp2_with fail
  refine (dreal_any _ mx).mono ?_; rintro e w5 ⟨rfl, hb5⟩
  have HB5 := Lib.hid (HB0.out.trans (hb5.mono (Nat.le_trans hSw HB0.out.size)))
  clear hb5 e0 e1 e2
  have hkz := HK5.out.below HB5.out (by omega)
  have z0 := hkz.c 0
  have z1 := hkz.c 1
  have z2 := hkz.c 2
  have zf : ∀ o, w5.frozen? ⟨S + 1, o, none⟩ = false := fun o => hkz.frozen o
  have HKZ := Lib.hid (hkz.three (.bool true) (.int .i64 0) (.float .f64 mx))
  have HRZ := Lib.hid (RReal.mk (P := rvP 3 bs mn mx cnt) (z := mx) ⟨rfl, rfl, .inr (.inl ⟨rfl, rfl⟩)⟩ HSS.out HBW.out HB5.out)
  clear hkz
  go_wp2_with fail
  refine bodyPost_ret ?_ ?_ HRZ.out
  rotate_left
  ·rfl
  ·exact rv_results rfl HKZ.out
 ·have HR := Lib.hid (read_any _ a n c bs HROW.out HBY.out)
  go_wp2_with fail
  refine (HR.out).mono ?_; rintro e w1 ⟨hb1, hcs⟩
  have HB1 := Lib.hid (HB0.out.trans (hb1.mono hSw))
  clear hb1 e0 e1 e2
  rcases hcs with ⟨h0, g, rfl, hs, hg⟩ | ⟨h0, rfl⟩
  ·have H0 := Lib.hid h0
   obtain ⟨-, h32, hz, -⟩ := HOK.out h0
   have HV := Lib.hid (summean_any w1 g _ _ cnt hs hz h32 HC.out.1 HC.out.2)
   clear h0 h32 hz hs hg
   go_wp2_with fail
   refine (HV.out).mono ?_; rintro e w2 ⟨z, rfl, hz, hb2⟩
   have HZ := Lib.hid hz
   have HB2 := Lib.hid (HB1.out.trans (hb2.mono (Nat.le_trans hSw HB1.out.size)))
   clear hz hb2
   go_wp2_with fail
   refine (dreal_any _ z).mono ?_; rintro e w5 ⟨rfl, hb5⟩
   have HB5 := Lib.hid (HB2.out.trans (hb5.mono (Nat.le_trans hSw HB2.out.size)))
   clear hb5 
   have hkz := HK5.out.below HB5.out (by omega)
   have z0 := hkz.c 0
   have z1 := hkz.c 1
   have z2 := hkz.c 2
   have zf : ∀ o, w5.frozen? ⟨S + 1, o, none⟩ = false := fun o => hkz.frozen o
   have HKZ := Lib.hid (hkz.three (.bool true) (.int .i64 0) (.float .f64 z))
   have HRZ := Lib.hid (RReal.mk (P := rvP 4 bs mn mx cnt) (z := z) ⟨rfl, rfl, .inr (.inr (.inr ⟨rfl, HZ.out.1, .inl ⟨H0.out, HZ.out⟩⟩))⟩ HSS.out HBW.out HB5.out)
   clear hkz
   go_wp2_with fail
   refine bodyPost_ret ?_ ?_ HRZ.out
   rotate_left
   ·rfl
   ·exact rv_results rfl HKZ.out
  ·obtain ⟨K, hK⟩ : ∃ K, codeN bs = K := ⟨_, rfl⟩
   rw [hK] at h0 ⊢
   have t1 : ((K : Int) != 0) = true := by simp; omega
   have H0 := Lib.hid (And.intro hK h0)
   clear hK h0
   go_wp2_with fail
   refine (dreal_any _ 0).mono ?_; rintro e w5 ⟨rfl, hb5⟩
   have HB5 := Lib.hid (HB1.out.trans (hb5.mono (Nat.le_trans hSw HB1.out.size)))
   clear hb5 
   have hkz := HK5.out.below HB5.out (by omega)
   have z0 := hkz.c 0
   have z1 := hkz.c 1
   have z2 := hkz.c 2
   have zf : ∀ o, w5.frozen? ⟨S + 1, o, none⟩ = false := fun o => hkz.frozen o
   have HKZ := Lib.hid (hkz.three (.bool true) (.int .i64 0) (.float .f64 0))
   have HRZ := Lib.hid (RReal.mk (P := rvP 4 bs mn mx cnt) (z := 0) ⟨rfl, rfl, .inr (.inr (.inr ⟨rfl, by decide, .inr ⟨by rw [H0.out.1]; exact H0.out.2, rfl⟩⟩))⟩ HSS.out HBW.out HB5.out)
   clear hkz
   go_wp2_with fail
   refine bodyPost_ret ?_ ?_ HRZ.out
   rotate_left
   ·rfl
   ·exact rv_results rfl HKZ.out
end Go.Proofs.YtehmompbmnejkaaGreat
