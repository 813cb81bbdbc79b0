/- Contracts of bushelref12's Light and Fits. No conditions but those stated. -/
import Derived.Test.YtehmompbmnejkaaGreatDbD
import Derived.Test.YtehmompbmnejkaaGreatMSch
import Derived.Test.YtehmompbmnejkaaGreatMEx5
import Derived.Test.YtehmompbmnejkaaGreatMNames
namespace Go.Proofs.YtehmompbmnejkaaGreat
open Go.RowKit Ieee

/-- small facts -/
def FactsFew (zs : List FacZ) : Prop := ∀ z ∈ zs, z.1.cn ≤ 20 ∧ z.1.im ≤ 20 ∧ z.1.nn ≤ 20
set_option maxHeartbeats 2000000 in
theorem flight12_any (w : World) (za : Option Addr) (zn zc : Nat) (zs : List FacZ) (h : FactsAt w za zn zc zs) : Calls Tryz.prog 5 #[.slice za zn zc] w fun e w' => (∃ b, e = .returned (.bool b) ∧ (b = true → FactsFew zs)) ∧ Below w.heap.size w w' := by
 have HFN := Lib.hid h.2.1
 have mx : zn ≤ 9223372036854775807 := by have h1 := h.1.2.1; have h2 := h.1.2.2.1; unfold maxLen at h2; omega
 have HF := Lib.hid h
 obtain ⟨N, hN⟩ : ∃ N, w.heap.size = N := ⟨_, rfl⟩
 have HB0 : Hid (Below N w w) := Lib.hid (by rw [← hN]; exact Below.refl _ _)
 have HN := Lib.hid hN
 rw [hN]
 clear h hN
 go_enter Tryz.func5, Tryz.ntmps5
 go_wp2_with fail
 go_loopg [3] zn (fun g iu wr => ∃ (j : Nat), iu = .int .i64 j ∧ j + g = zn ∧ (∀ i, i < j → (fAt zs i).1.cn ≤ 20 ∧ (fAt zs i).1.im ≤ 20 ∧ (fAt zs i).1.nn ≤ 20) ∧ Below N w wr)
 case atStart => exact ⟨0, rfl, by omega, fun i hi => by omega, HB0.out⟩
 case round =>
 obtain ⟨j, rfl, hqq, hall, hb⟩ := hrel
 have HQQ := Lib.hid hqq
 have HALL := Lib.hid hall
 have HB := Lib.hid hb
 clear hqq hall hb
 by_cases hlt : j < zn
 case pos =>
  obtain ⟨b, off, rfl, hbl, hc⟩ := (HF.out.1.below HB.out (Nat.le_of_eq HN.out)).at (by omega)
  have c0 := hc (j * 3) (by omega)
  have c1 := hc (j * 3 + 1) (by omega)
  have c2 := hc (j * 3 + 2) (by omega)
  have hjl : j < zs.length := by rw [HFN.out]; exact hlt
  obtain ⟨g0, g1, g2⟩ := factCells_get (zs := zs) (i := j) hjl
  rw [g0] at c0
  rw [g1, ← Nat.add_assoc] at c1
  rw [g2, ← Nat.add_assoc] at c2
  have HM := Lib.hid (HF.out.2.2 (fAt zs j) (fAt_mem hjl))
  have HAS : Hid (∀ z, fAt zs j = z → z.1.cn ≤ 20 → z.1.im ≤ 20 → z.1.nn ≤ 20 → ∀ i, i < j + 1 → (fAt zs i).1.cn ≤ 20 ∧ (fAt zs i).1.im ≤ 20 ∧ (fAt zs i).1.nn ≤ 20) := Lib.hid (fun z hz h1 h2 h3 i hi => by
   by_cases hij : i = j
   ·subst hij; rw [hz]; exact ⟨h1, h2, h3⟩
   ·exact HALL.out i (by omega))
  obtain ⟨⟨⟨ca, cn, cc, ia, im, ic, na, nn, nc⟩, f⟩, hzz⟩ : ∃ z, fAt zs j = z := ⟨_, rfl⟩
  have HZZ := Lib.hid hzz
  rw [hzz] at c0 c1 c2 HM
  simp only at c0 c1 c2
  dsimp only at HM
  have mk : cn ≤ 9223372036854775807 := by have h1 := HM.out.1.2.1; have h2 := HM.out.1.2.2.1; simp only at h1 h2; unfold maxLen at h2; omega
  have mv : im ≤ 9223372036854775807 := by have h1 := HM.out.2.1.2.1; have h2 := HM.out.2.1.2.2.1; simp only at h1 h2; unfold maxLen at h2; omega
  have mn : nn ≤ 9223372036854775807 := by have h1 := HM.out.2.2.1.2.1; have h2 := HM.out.2.2.1.2.2.1; simp only at h1 h2; unfold maxLen at h2; omega
  clear hc g0 g1 g2 hzz hjl
  by_cases a1 : 20 < cn
  ·have t1 : decide ((20 : Int) < (cn : Int)) = true := decide_eq_true (by omega)
   clear a1
   go_wp2_with fail
   go_ret
   exact ⟨⟨_, rfl, fun h => by cases h⟩, HB.out⟩
  ·have t1 : decide ((20 : Int) < (cn : Int)) = false := decide_eq_false (by omega)
   have b1 : cn ≤ 20 := by omega
   clear a1
   by_cases a2 : 20 < im
   ·have t2 : decide ((20 : Int) < (im : Int)) = true := decide_eq_true (by omega)
    clear a2
    go_wp2_with fail
    go_ret
    exact ⟨⟨_, rfl, fun h => by cases h⟩, HB.out⟩
   ·have t2 : decide ((20 : Int) < (im : Int)) = false := decide_eq_false (by omega)
    have b2 : im ≤ 20 := by omega
    clear a2
    by_cases a3 : 20 < nn
    ·have t3 : decide ((20 : Int) < (nn : Int)) = true := decide_eq_true (by omega)
     clear a3
     go_wp2_with fail
     go_ret
     exact ⟨⟨_, rfl, fun h => by cases h⟩, HB.out⟩
    ·have t3 : decide ((20 : Int) < (nn : Int)) = false := decide_eq_false (by omega)
     have b3 : nn ≤ 20 := by omega
     have HAN := Lib.hid (HAS.out _ HZZ.out b1 b2 b3)
     clear a3
     go_wp2_with fail
     go_roundg (zn - j - 1)
     case measure => have := HQQ.out; omega
     case rel => exact ⟨j + 1, by go_num, by have := HQQ.out; omega, HAN.out, HB.out⟩
 case neg =>
 obtain rfl : zn = j := by have := HQQ.out; omega
 have HRF : Hid (FactsFew zs) := Lib.hid (fun z hz => by
  obtain ⟨i, hi, e⟩ := List.getElem_of_mem hz
  have e2 : fAt zs i = z := by unfold fAt; rw [List.getD_eq_getElem?_getD, List.getElem?_eq_getElem hi, e]; rfl
  have h1 := HALL.out i (by rw [← HFN.out]; exact hi)
  rw [e2] at h1
  exact h1)
 go_wp2_with fail
 go_ret
 exact ⟨⟨_, rfl, fun _ => HRF.out⟩, HB.out⟩

set_option maxHeartbeats 4000000 in
theorem ffits_any (w : World) (l : SchL) (s : Sch) (g : FacL) (f : FacV) (h : SchAt w l s) (hf : FactAt w g f) :
  Calls Tryz.prog 14 #[l.val, g.val] w fun e w' => (∃ r : Int, e = .returned (.int .i64 r) ∧ (r = 0 → g.im = l.ni ∧ g.nn = l.nn)) ∧ Below w.heap.size w w' := by
 obtain ⟨ad, nd, cd, ai, ni, ci, an, nn, cn, av, nv, cv⟩ := l
 obtain ⟨ca, kn, cc, ia, im, ic, na, mn, nc⟩ := g
 obtain ⟨hbx, hby, hbw, hsz⟩ := two_pbox w 26 54 #[.slice ad nd cd, .slice ai ni ci, .slice an nn cn, .slice av nv cv] #[.slice ca kn cc, .slice ia im ic, .slice na mn nc]
 have HS := Lib.hid (h.below hbw (Nat.le_refl _))
 have HF := Lib.hid (hf.below hbw (Nat.le_refl _))
 have HLD := Lib.hid (And.intro (show s.dims.length = nd from h.2.1) (show f.codes.length = kn from hf.1.1))
 have mk : kn ≤ 9223372036854775807 := by have h1 := hf.1.2.1; have h2 := hf.1.2.2.1; simp only at h1 h2; unfold maxLen at h2; omega
 have HBW := Lib.hid hbw
 have e0 := hbx 0
 have e1 := hbx 1
 have e2 := hbx 2
 have y0 := hby 0
 have y1 := hby 1
 have y2 := hby 2
 simp only [List.getElem?_toArray, List.getElem?_cons_zero, List.getElem?_cons_succ] at e0 e1 e2 y0 y1 y2
 have HSZ := Lib.hid hsz
 have HE := Lib.hid (And.intro e0 y0)
 clear h hf hbw hbx hby hsz
 unfold SchL.val FacL.val
 go_enter Tryz.func14, Tryz.ntmps14
 go_upto_region 1 with fail
 generalize ((w.alloc (.cells #[.slice ad nd cd, .slice ai ni ci, .slice an nn cn, .slice av nv cv] 26)).alloc (.cells #[.slice ca kn cc, .slice ia im ic, .slice na mn nc] 54)) = w0 at *
 generalize hS : w.heap.size = S at *
 have HS0 : Hid (S < w0.heap.size ∧ S + 1 < w0.heap.size) := Lib.hid (by have := HSZ.out; omega)
 have HSS := Lib.hid hS
 clear hS
 by_cases a1 : kn = nd
 case neg =>
  have t1 : ((kn : Int) != (nd : Int)) = true := by simp; omega
  clear a1
  go_wp2_with fail
  go_ret
  exact ⟨⟨_, rfl, fun h => by cases h⟩, by rw [HSS.out]; exact HBW.out⟩
 have t1 : ((kn : Int) != (nd : Int)) = false := by simp; omega
 by_cases a2 : im = ni
 case neg =>
  have t2 : ((im : Int) != (ni : Int)) = true := by simp; omega
  clear a2 a1
  go_wp2_with fail
  go_ret
  exact ⟨⟨_, rfl, fun h => by cases h⟩, by rw [HSS.out]; exact HBW.out⟩
 have t2 : ((im : Int) != (ni : Int)) = false := by simp; omega
 by_cases a3 : mn = nn
 case neg =>
  have t3 : ((mn : Int) != (nn : Int)) = true := by simp; omega
  clear a3 a2 a1
  go_wp2_with fail
  go_ret
  exact ⟨⟨_, rfl, fun h => by cases h⟩, by rw [HSS.out]; exact HBW.out⟩
 have t3 : ((mn : Int) != (nn : Int)) = false := by simp; omega
 have HOK := Lib.hid (And.intro a1 (And.intro a2 a3))
 clear a1 a2 a3
 go_wp2_with fail
 clear t1 t2 t3
 go_loopg [5] kn (fun gg iu wr => ∃ (j : Nat), iu = .int .i64 j ∧ j + gg = kn ∧ Below w0.heap.size w0 wr)
 case atStart => exact ⟨0, rfl, by omega, Below.refl _ _⟩
 case round =>
 obtain ⟨j, rfl, hqq, hb⟩ := hrel
 have HQQ := Lib.hid hqq
 have HB := Lib.hid hb
 have HS2 := Lib.hid (HS.out.below hb (Nat.le_refl _))
 have HF2 := Lib.hid (HF.out.below hb (Nat.le_refl _))
 have HW := Lib.hid (HBW.out.trans (hb.mono (Nat.le_of_lt HS0.out.1)))
 have z0 : wr.cell? ⟨S, 0, none⟩ = some (.slice ad nd cd) := by rw [hb.cell (p := ⟨S, 0, none⟩) HS0.out.1]; exact HE.out.1
 have z1 : wr.cell? ⟨S + 1, 0, none⟩ = some (.slice ca kn cc) := by rw [hb.cell (p := ⟨S + 1, 0, none⟩) HS0.out.2]; exact HE.out.2
 clear hqq hb e0 e1 e2 y0 y1 y2
 by_cases hlt : j < kn
 case pos =>
  obtain ⟨b, off, rfl, hbl, hc⟩ := HF2.out.1.at (by show 0 < kn; omega)
  have c0 := hc j hlt
  obtain ⟨db, doff, hda, hdl, hdc⟩ := HS2.out.1.at (by show 0 < nd; have := HOK.out.1; omega)
  simp only at hda
  subst hda
  have d1 := hdc (j * 2 + 1) (by show j * 2 + 1 < nd * 2; have := HOK.out.1; omega)
  obtain ⟨g0, g1⟩ := dimCells_get (ds := s.dims) (i := j) (by rw [HLD.out.1]; have := HOK.out.1; omega)
  rw [g1, ← Nat.add_assoc] at d1
  have hjd : j < nd := by have := HOK.out.1; omega
  generalize f.codes.getD j 0 = c at *
  generalize (dimAt s.dims j).2 = d at *
  clear hc hdc g0 g1
  by_cases b1 : c < 0
  ·have t1 : decide (c < 0) = true := decide_eq_true b1
   clear b1
   go_wp2_with fail
   go_quiet (fail)
   go_wp2_with fail
   go_ret
   exact ⟨⟨_, rfl, fun h => by cases h⟩, by rw [HSS.out]; exact sbelow_dn HW.out _⟩
  have t1 : decide (c < 0) = false := decide_eq_false b1
  clear b1
  by_cases b2 : d ≤ c
  ·have t2 : decide (d ≤ c) = true := decide_eq_true b2
   clear b2
   go_wp2_with fail
   go_quiet (fail)
   go_wp2_with fail
   go_ret
   exact ⟨⟨_, rfl, fun h => by cases h⟩, by rw [HSS.out]; exact sbelow_dn HW.out _⟩
  have t2 : decide (d ≤ c) = false := decide_eq_false b2
  clear b2
  go_wp2_with fail
  go_quiet (fail)
  go_wp2_with fail
  go_roundg (kn - j - 1)
  case measure => have := HQQ.out; omega
  case rel => exact ⟨j + 1, by go_num, by have := HQQ.out; omega, sbelow_dn HB.out _⟩
 case neg =>
 obtain rfl : kn = j := by have := HQQ.out; omega
 go_wp2_with fail
 go_ret
 exact ⟨⟨_, rfl, fun _ => HOK.out.2⟩, by rw [HSS.out]; exact HW.out⟩
end Go.Proofs.YtehmompbmnejkaaGreat
/- Contract of package bushelref10's Is. Conditions: those stated. -/
namespace Go.Proofs.YtehmompbmnejkaaGreat
open Go.RowKit

theorem rplace_at (a : Option Addr) (n cap : Nat) (xs : List ByteArray) (s : ByteArray) (r : Int) (w : World) (h : RowS w a n cap xs) (hr : place xs s = r) :
  Calls Tryz.prog 50 #[.slice a n cap, .string s] w fun e w' => e = .returned (.int .i64 r) ∧ w = w' := by
 rw [← hr]; exact rplace_any a n cap xs s w h

theorem ris_any (s : ByteArray) (w : World) : Calls Tryz.prog 24 #[.string s] w fun e w' => e = .returned (.bool (nameB s)) ∧ Below w.heap.size w w' := by
 by_cases h0 : s.size = 0
 ·have HN := Lib.hid (nameB_no (s := s) (fun h => by have := h.1; omega))
  have h1 : (s.size : Int) < 1 := by omega
  clear h0
  go_enter Tryz.func24, Tryz.ntmps24
  go_wp2_with fail
  go_ret
  exact ⟨ret_boolS HN.out.symm, Below.refl _ _⟩
 ·by_cases h16 : 16 < s.size
  ·have HN := Lib.hid (nameB_no (s := s) (fun h => by have := h.2.1; omega))
   have h1 : ¬ ((s.size : Int) < 1) := by omega
   have h2 : 16 < (s.size : Int) := by omega
   clear h0 h16
   go_enter Tryz.func24, Tryz.ntmps24
   go_wp2_with fail
   go_ret
   exact ⟨ret_boolS HN.out.symm, Below.refl _ _⟩
  ·have hs0 : 0 < s.size := by omega
   have h1 : ¬ ((s.size : Int) < 1) := by omega
   have h2 : ¬ (16 < (s.size : Int)) := by omega
   have hsz : s.size ≤ 16 := by omega
   clear h0 h16
   obtain ⟨pl, hpl⟩ : ∃ r, place wordList s = r := ⟨_, rfl⟩
   have HPL := Lib.hid hpl
   by_cases hw : 0 ≤ pl
   ·have HN := Lib.hid (nameB_no (s := s) (fun h => by have h5 := h.2.2.2.2; unfold wordB at h5; rw [decide_eq_false_iff_not, hpl] at h5; exact h5 hw))
    clear hpl
    go_enter Tryz.func24, Tryz.ntmps24
    go_wp2_with fail
    refine (rwords_any _).mono ?_; rintro e w1 ⟨rfl, hr, hb⟩
    have HR := Lib.hid hr
    have HB := Lib.hid hb
    clear hr hb
    go_wp2_with fail
    refine (rplace_at _ _ _ _ _ _ _ HR.out HPL.out).mono ?_; rintro e w2 ⟨rfl, rfl⟩
    go_wp2_with fail
    go_ret
    exact ⟨ret_boolS HN.out.symm, HB.out⟩
   ·have HW : Hid (wordB s = false) := by
     have h : wordB s = false := by unfold wordB; rw [decide_eq_false_iff_not, hpl]; exact hw
     exact Lib.hid h
    clear hpl
    go_enter Tryz.func24, Tryz.ntmps24
    go_wp2_with fail
    refine (rwords_any _).mono ?_; rintro e w1 ⟨rfl, hr, hb⟩
    have HR := Lib.hid hr
    have HB := Lib.hid hb
    clear hr hb
    go_wp2_with fail
    refine (rplace_at _ _ _ _ _ _ _ HR.out HPL.out).mono ?_; rintro e w2 ⟨rfl, rfl⟩
    go_wp2_with fail
    go_loopg [3, 4, 5] s.size (fun g u x y wr => w1 = wr ∧ ∃ k : Nat, k + g = s.size ∧ u = .int .i64 k ∧ (∀ (i : Nat) (h : i < s.size), i < k → OkC s[i].toNat) ∧ (∀ h : 0 < s.size, 0 < k → 97 ≤ s[0].toNat ∧ s[0].toNat ≤ 122))
    case atStart => exact ⟨rfl, 0, by omega, rfl, fun i h hk => by omega, fun h hk => by omega⟩
    case round =>
     obtain ⟨rfl, k, hk, rfl, hj, hj0⟩ := hrel
     have HJ := Lib.hid hj
     have HJ0 := Lib.hid hj0
     have HK := Lib.hid hk
     clear hj hj0 hk
     by_cases hlt : k < s.size
     ·by_cases hok : OkC (s[k]'hlt).toNat
      ·have HOK := Lib.hid hok
       by_cases hsm : 97 ≤ (s[k]'hlt).toNat ∧ (s[k]'hlt).toNat ≤ 122
       ·have a1 : 97 ≤ ((s[k]'hlt).toNat : Int) := by omega
        have a2 : ((s[k]'hlt).toNat : Int) ≤ 122 := by omega
        have HSM := Lib.hid hsm
        clear hok hsm
        by_cases hd : 48 ≤ ((s[k]'hlt).toNat : Int)
        ·go_wp2_with fail
         go_roundg (gk - 1)
         case measure => have := HK.out; omega
         case rel => exact ⟨rfl, k + 1, by have := HK.out; omega, by go_num, (fun i h hi => by
          by_cases e : i = k
          ·subst e; exact HOK.out
          ·exact HJ.out i h (by omega)), (fun h hk => by
          by_cases e : k = 0
          ·subst e; exact HSM.out
          ·exact HJ0.out h (by omega))⟩
        ·omega
       ·have hb : (48 ≤ ((s[k]'hlt).toNat : Int) ∧ ((s[k]'hlt).toNat : Int) ≤ 57 ∧ ¬ (97 ≤ ((s[k]'hlt).toNat : Int))) ∨ (95 ≤ ((s[k]'hlt).toNat : Int) ∧ ((s[k]'hlt).toNat : Int) ≤ 95 ∧ ¬ (97 ≤ ((s[k]'hlt).toNat : Int)) ∧ (((s[k]'hlt).toNat : Int) == 95) = true) := by
         unfold OkC at hok
         rcases hok with h | h | h
         ·exact absurd h hsm
         ·exact .inl ⟨by omega, by omega, by omega⟩
         ·exact .inr ⟨by omega, by omega, by omega, by simp; omega⟩
        clear hok
        by_cases hk0 : k = 0
        ·subst hk0
         have HN := Lib.hid (nameB_no (s := s) (fun h => hsm (h.2.2.1 hlt)))
         clear hsm
         rcases hb with ⟨a1, a2, a3⟩ | ⟨a1, a2, a3, a4⟩
         all_goals
          go_wp2_with fail
          go_ret
          exact ⟨ret_boolS HN.out.symm, HB.out⟩
        ·have hk1 : ((k : Int) == 0) = false := by simp; omega
         have HK0 := Lib.hid hk0
         clear hsm hk0
         rcases hb with ⟨a1, a2, a3⟩ | ⟨a1, a2, a3, a4⟩
         all_goals
          go_wp2_with fail
          go_roundg (gk - 1)
          case measure => have := HK.out; omega
          case rel => exact ⟨rfl, k + 1, by have := HK.out; omega, by go_num, (fun i h hi => by
           by_cases e : i = k
           ·subst e; exact HOK.out
           ·exact HJ.out i h (by omega)), (fun h hk => HJ0.out h (by have := HK0.out; omega))⟩
      ·have HN := Lib.hid (nameB_no (s := s) (fun h => hok (h.2.2.2.1 k hlt)))
       have hb : (((s[k]'hlt).toNat : Int) == 95) = false ∧ (((s[k]'hlt).toNat : Int) < 48 ∨ (57 < ((s[k]'hlt).toNat : Int) ∧ ((s[k]'hlt).toNat : Int) < 97) ∨ 122 < ((s[k]'hlt).toNat : Int)) := by
        unfold OkC at hok
        exact ⟨by simp; omega, by omega⟩
       clear hok
       obtain ⟨a0, hb⟩ := hb
       rcases hb with a1 | ⟨a1, a2⟩ | a1
       ·go_wp2_with fail
        go_ret
        exact ⟨ret_boolS HN.out.symm, HB.out⟩
       ·go_wp2_with fail
        go_ret
        exact ⟨ret_boolS HN.out.symm, HB.out⟩
       ·have a5 : decide (((s[k]'hlt).toNat : Int) ≤ 122) = false := by simp; omega
        have a6 : decide (((s[k]'hlt).toNat : Int) ≤ 57) = false := by simp; omega
        go_wp2_with fail
        go_ret
        exact ⟨ret_boolS HN.out.symm, HB.out⟩
     ·have HN : Hid (nameB s = true) := Lib.hid (nameB_yes ⟨by omega, by omega, fun h => HJ0.out h (by have := HK.out; omega), fun i h => HJ.out i h (by omega), HW.out⟩)
      go_wp2_with fail
      go_ret
      exact ⟨ret_boolS HN.out.symm, HB.out⟩
end Go.Proofs.YtehmompbmnejkaaGreat
