/- Contract of bushelref35.Tokens: the tokens of any text, or the place and the error. Condition: the text is no longer than Go's longest length. -/
import Derived.Test.YtaofjnidniekjaaGreatDoorMLxA
import Derived.Laws.Concat
namespace Go.Proofs.YtaofjnidniekjaaGreatDoor
open Go.RowKit

theorem info_rtok : (Tryz.prog.info? 109).map (fun i => (i.zero, i.size, i.bytes)) = some (some (.agg #[.int .i64 0, .string ⟨#[]⟩, .int .i64 0, .int .i64 0]), 4, 40) := by kernel_rfl
theorem in_blank (c : UInt8) : inB c ⟨#[32, 10]⟩ = decide (isBlank c) := by
 have := byte_all (p := fun c => inB c ⟨#[32, 10]⟩ == decide (isBlank c)) (by decide +kernel) c
 simpa using this
theorem in_sign (c : UInt8) : inB c ⟨#[40, 41, 44, 61]⟩ = decide (isSign c) := by
 have := byte_all (p := fun c => inB c ⟨#[40, 41, 44, 61]⟩ == decide (isSign c)) (by decide +kernel) c
 simpa using this
def runS1 : ByteArray := smallS ++ tensS
def runS : ByteArray := runS1 ++ ⟨#[95]⟩
theorem runS_sz : runS.size ≤ 9223372036854775807 := by decide +kernel
theorem runS_add1 (w : World) : (Op.stringOp .add smallS tensS).run Tryz.prog w = .ok (.string runS1) w := run_string_add_sum _ _ _ (by decide +kernel)
theorem runS_add2 (w : World) : (Op.stringOp .add runS1 ⟨#[95]⟩).run Tryz.prog w = .ok (.string runS) w := run_string_add_sum _ _ _ (by decide +kernel)
theorem in_runS (c : UInt8) : inB c runS = runB c := in_run c
attribute [irreducible] runS1 runS
theorem qleftR {P : Program} {f : FuncId} {args : Array Value} {w : World} {n : Nat} {v : Value}
  (h : Calls P f args (w.drewN n) fun e w' => e = .returned v ∧ w.drewN n = w') : Calls P f args (w.drewN n) fun e w' => e = .returned v ∧ ∃ m, w' = w.drewN m :=
 h.mono fun _ _ ⟨he, hm⟩ => ⟨he, n, hm.symm⟩
theorem OwnT.drewN {w : World} {B : Nat} {e : TypeId} {v : Value} {n : Nat} {xs : List Tok} (h : OwnT w B e v n xs) (q : Nat) : OwnT (w.drewN q) B e v n xs := h

set_option maxHeartbeats 1000000 in
set_option maxRecDepth 100000 in
theorem rtok_any (s : ByteArray) (w : World) (hs : s.size ≤ maxLen) : Calls Tryz.prog 24 #[.string s] w (RetLex 109 w (lexAll s)) := by
 have hmx : s.size ≤ 9223372036854775807 := by unfold maxLen at hs; omega
 clear hs
 obtain ⟨R, hR⟩ : ∃ R, lexAll s = R := ⟨_, rfl⟩
 rw [hR]
 by_cases h4 : 4096 < s.size
 ·have HRR : Hid (R = .bad 0 4) := by
   have h : R = .bad 0 4 := by rw [← hR]; unfold lexAll; rw [if_pos h4]
   exact Lib.hid h
  clear hR
  go_enter Tryz.func24, Tryz.ntmps24
  go_wp2_with fail
  exact bodyPost_ret (v := .tuple #[.slice none 0 0, .int .i64 0, .int .i64 4]) (by simp [results, Tryz.results24, go_sem]) rfl (.inr ⟨0, 4, HRR.out, by decide, rfl, Below.refl _ _⟩)
 ·have HRR : Hid (lx s s.size 0 [] = R) := by
   have h : lx s s.size 0 [] = R := by rw [← hR]; unfold lexAll; rw [if_neg h4]
   exact Lib.hid h
  clear hR
  go_enter Tryz.func24, Tryz.ntmps24
  go_wp2_with fail
  go_loopg [5, 6] s.size (fun g v u wr => ∃ (a : Nat) (out : List Tok), u = .int .i64 a ∧ lx s g a out = R ∧ a ≤ s.size ∧ s.size ≤ a + g ∧ OwnT wr w.heap.size 109 v out.length out ∧ out.length ≤ 1000 ∧ Below w.heap.size w wr)
  case atStart => exact ⟨0, [], rfl, HRR.out, by omega, by omega, OwnT.nil _ _ _, by decide, Below.refl _ _⟩
  case round =>
   obtain ⟨a, out, rfl, hlx, ha, hg, hown, ho, hbl⟩ := hrel
   obtain ⟨p, c, rfl⟩ := hown.form
   have HLX := Lib.hid hlx
   have HG := Lib.hid hg
   have HOWN := Lib.hid hown
   have HBL := Lib.hid hbl
   have hwr : w.heap.size ≤ wr.heap.size := hbl.size
   clear hlx hg hown hbl HRR
   obtain ⟨wo, rfl⟩ : ∃ wo : World, wo = wr := ⟨_, rfl⟩
   by_cases hlt : a < s.size
   ·obtain ⟨f, hf⟩ : ∃ f, gk = f + 1 := ⟨gk - 1, by have := HG.out; omega⟩
    subst hf
    by_cases hb : isBlank (s[a]'hlt)
    ·have HL2 := Lib.hid ((lx_blank hlt hb).symm.trans HLX.out)
     have HBK : Hid (inB (s[a]'hlt) ⟨#[32, 10]⟩ = true) := Lib.hid ((in_blank _).trans (decide_eq_true hb))
     clear hb
     go_wp2_with fail
     refine (in_at (s[a]'hlt) ⟨#[32, 10]⟩ true _ (by decide) HBK.out).mono ?_; rintro e w1 ⟨rfl, rfl⟩
     go_wp2_with fail
     go_roundg f
     case measure => omega
     case rel => exact ⟨a + 1, out, by go_num, HL2.out, by omega, by have := HG.out; omega, HOWN.out, ho, HBL.out⟩
    ·have HBK : Hid (inB (s[a]'hlt) ⟨#[32, 10]⟩ = false) := Lib.hid ((in_blank _).trans (decide_eq_false hb))
     have HNB := Lib.hid hb
     have hsz1 : (s.extract a (a + 1)).size = 1 := by rw [ext_size (by omega)]; omega
     have HSZ1 := Lib.hid hsz1
     have HFAR : Hid (∀ g, (Value.slice p out.length c).ownBlock = some g → g ≠ wo.heap.size) := Lib.hid (fun g hg => by have := (HOWN.out.lt hg).2; omega)
     clear hb hsz1
     by_cases hsg : isSign (s[a]'hlt)
     ·have HSG := Lib.hid hsg
      have HSK : Hid (inB (s[a]'hlt) ⟨#[40, 41, 44, 61]⟩ = true) := Lib.hid ((in_sign _).trans (decide_eq_true hsg))
      have hb3 := Lib.hid (HBL.out.alloc hwr (.cells #[.int .i64 4, .string (s.extract a (a + 1)), .int .i64 0, .int .i64 a] 109))
      clear hsg
      by_cases h1000 : out.length = 1000
      ·have HRB := Lib.hid ((lx_sign_many (f := f) hlt HNB.out HSG.out h1000).symm.trans HLX.out)
       have h3 : 1000 ≤ (out.length : Int) := by omega
       clear h1000
       go_wp2_with fail
       refine (in_at (s[a]'hlt) ⟨#[32, 10]⟩ false _ (by decide) HBK.out).mono ?_; rintro e w1 ⟨rfl, rfl⟩
       go_wp2_with fail
       refine (in_at (s[a]'hlt) ⟨#[40, 41, 44, 61]⟩ true _ (by decide) HSK.out).mono ?_; rintro e w1 ⟨rfl, rfl⟩
       go_wp2_with fail
       exact bodyPost_ret (v := .tuple #[.slice none 0 0, .int .i64 a, .int .i64 3]) (by simp [results, Tryz.results24, go_sem]) rfl (.inr ⟨a, 3, HRB.out.symm, by decide, rfl, hb3.out⟩)
      ·have HRB := Lib.hid ((lx_sign (f := f) hlt HNB.out HSG.out h1000).symm.trans HLX.out)
       have h3 : ¬ (1000 ≤ (out.length : Int)) := by omega
       have ho2 : out.length + 1 ≤ 1000 := by omega
       clear h1000
       go_wp2_with fail
       refine (in_at (s[a]'hlt) ⟨#[32, 10]⟩ false _ (by decide) HBK.out).mono ?_; rintro e w1 ⟨rfl, rfl⟩
       go_wp2_with fail
       refine (in_at (s[a]'hlt) ⟨#[40, 41, 44, 61]⟩ true _ (by decide) HSK.out).mono ?_; rintro e w1 ⟨rfl, rfl⟩
       go_wp2_with (at_builtin; refine appendT 71 109 info_rtok Tryz.underlying71 rfl _ _ rfl w.heap.size (wo.alloc (.cells #[.int .i64 4, .string (s.extract a (a + 1)), .int .i64 0, .int .i64 a] 109)) (.slice p out.length c) out.length out ⟨4, s.extract a (a + 1), 0, a⟩ rfl (wo.heap.size + 1) rfl (by simp) (HOWN.out.alloc _) (by omega) (by simp; omega) ?_)
       intro v2 w2 hown2 hgo hgr
       have hB8 := (Blk.new wo 109 #[.int .i64 4, .string (s.extract a (a + 1)), .int .i64 0, .int .i64 a]).grown hgr (fun e => HFAR.out _ e.symm rfl)
       have d1 : w2.cell? ⟨wo.heap.size, 1, none⟩ = some (.string (s.extract a (a + 1))) := by rw [hB8.cell]; rfl
       clear hB8 hgr
       go_wp2_with fail
       go_roundg f
       case measure => omega
       case rel => exact ⟨a + 1, out ++ [⟨4, s.extract a (a + 1), 0, a⟩], congrArg (Value.int .i64) (by have := HSZ1.out; omega), HRB.out, by omega, by have := HG.out; omega, by rw [List.length_append]; exact hown2, by rw [List.length_append]; exact ho2, hgo _ hb3.out⟩
     ·have HNS := Lib.hid hsg
      have HSK : Hid (inB (s[a]'hlt) ⟨#[40, 41, 44, 61]⟩ = false) := Lib.hid ((in_sign _).trans (decide_eq_false hsg))
      clear hsg
      have hEa0 : a ≤ rEnd s a := rEndF_ge _ _ _
      have hEs : rEnd s a ≤ s.size := rEndF_le s _ _ (by omega)
      have hE0 : rEndF s (s.size - a) a = rEnd s a := rfl
      have hrx := run_ext hlt
      have hra : runB (s[a]'hlt) = true → a + 1 ≤ rEnd s a := fun h => by rw [rEnd_step hlt h]; exact rEndF_ge _ _ _
      have hrb : runB (s[a]'hlt) = false → rEnd s a = a := fun h => rEndF_stop hlt h
      have hL1 := fun (k n : Int) hrun hR ho => lx_run (f := f) (out := out) hlt HNB.out HNS.out hrun (k := k) (n := n) hR ho
      have hL2 := fun (k n : Int) hrun hR ho => lx_run_many (f := f) (out := out) hlt HNB.out HNS.out hrun (k := k) (n := n) hR ho
      have hL3 := fun (er k n : Int) hrun hR he => lx_run_bad (f := f) (out := out) hlt HNB.out HNS.out hrun (er := er) (k := k) (n := n) hR he
      generalize rEnd s a = E at *
      have HE0 := Lib.hid hE0
      have HRX := Lib.hid hrx
      have HRA := Lib.hid hra
      have HRBB := Lib.hid hrb
      have HL1 := Lib.hid hL1
      have HL2 := Lib.hid hL2
      have HL3 := Lib.hid hL3
      clear hE0 hrx hra hrb hL1 hL2 hL3
      go_wp2_with fail
      refine (in_at (s[a]'hlt) ⟨#[32, 10]⟩ false _ (by decide) HBK.out).mono ?_; rintro e w1 ⟨rfl, rfl⟩
      go_wp2_with fail
      refine (in_at (s[a]'hlt) ⟨#[40, 41, 44, 61]⟩ false _ (by decide) HSK.out).mono ?_; rintro e w1 ⟨rfl, rfl⟩
      go_wp2_with fail
      go_loopg [8] (s.size - a) (fun g u wc => ∃ e : Nat, u = .int .i64 e ∧ a ≤ e ∧ e + g = s.size ∧ rEndF s g e = E ∧ Blk wc wo.heap.size 109 #[.int .i64 4, .string (s.extract a (a + 1)), .int .i64 0, .int .i64 a] ∧ OwnT wc w.heap.size 109 (.slice p out.length c) out.length out ∧ Below w.heap.size w wc)
      case atStart => exact ⟨a, rfl, Nat.le_refl _, by omega, HE0.out, Blk.new _ _ _, HOWN.out.alloc _, HBL.out.alloc hwr _⟩
      case round =>
       obtain ⟨e, rfl, he1, he2, he3, hblk, hownc, hblc⟩ := hrel
       have HE3 := Lib.hid he3
       have HE2 := Lib.hid he2
       have HBLK := Lib.hid hblk
       have HOC := Lib.hid hownc
       have HBC := Lib.hid hblc
       have hwc : wo.heap.size < wr.heap.size := hblk.lt
       clear he2 he3 hblk hownc hblc
       have hes : e ≤ s.size := by have := HE2.out; omega
       by_cases hgo : ∃ h : e < s.size, runB (s[e]'h) = true
       ·obtain ⟨hlt2, hr2⟩ := hgo
        have HR2 : Hid (inB (s[e]'hlt2) runS = true) := Lib.hid ((in_runS _).trans hr2)
        have HR3 := Lib.hid hr2
        clear hr2
        obtain ⟨g2, hg2⟩ : ∃ g2, gk = g2 + 1 := ⟨gk - 1, by have := HE2.out; omega⟩
        subst hg2
        have HE4 := Lib.hid ((rEndF_step (f := g2) hlt2 HR3.out).symm.trans HE3.out)
        have hd : decide ((e : Int) < (s.size : Int)) = true := by simpa using hlt2
        have hadd1 : ∀ w : World, (Op.stringOp .add smallS tensS).run Tryz.prog w = .ok (.string runS1) w := runS_add1
        have hadd2 : ∀ w : World, (Op.stringOp .add runS1 ⟨#[95]⟩).run Tryz.prog w = .ok (.string runS) w := runS_add2
        have g0 : (0 : Int) ≤ (e : Int) := by omega
        have g1 : (e : Int) < (s.size : Int) := by omega
        go_wp2_with fail
        go_quiet ((first | (go_at_call 49; exact qleftR (lxsmall_any _)) | (go_at_call 50; exact qleftR (tens_any _)) | (go_at_call 48; exact qleftR (in_at (s[e]'hlt2) runS true _ runS_sz HR2.out))))
        go_wp2_with fail
        go_roundg g2
        case measure => omega
        case rel => exact ⟨e + 1, by go_num, by omega, by have := HE2.out; omega, HE4.out, HBLK.out.drewN _, HOC.out.drewN _, blk_dn HBC.out _⟩
       ·have hEe : E = e := by
         rw [← HE3.out]
         by_cases h : e < s.size
         ·refine rEndF_stop h ?_
          cases hh : runB (s[e]'h)
          ·rfl
          ·exact absurd ⟨h, hh⟩ hgo
         ·exact rEndF_end (by omega)
        subst hEe
        have hq : (E < s.size) ∨ ¬ (E < s.size) := by omega
        have HGO := Lib.hid hgo
        have g0 : (0 : Int) ≤ (E : Int) := by omega
        have hadd1 : ∀ w : World, (Op.stringOp .add smallS tensS).run Tryz.prog w = .ok (.string runS1) w := runS_add1
        have hadd2 : ∀ w : World, (Op.stringOp .add runS1 ⟨#[95]⟩).run Tryz.prog w = .ok (.string runS) w := runS_add2
        clear hgo HE0 HE2 HE3 hes
        rcases hq with hlt2 | hlt2
        ·have HR2 : Hid (inB (s[E]'hlt2) runS = false) := by
          have h : inB (s[E]'hlt2) runS = false := by
           rw [in_runS]
           cases hh : runB (s[E]'hlt2)
           ·rfl
           ·exact absurd ⟨hlt2, hh⟩ HGO.out
          exact Lib.hid h
         have hd : decide ((E : Int) < (s.size : Int)) = true := by simpa using hlt2
         have g1 : (E : Int) < (s.size : Int) := by omega
         go_wp2_with fail
         go_quiet ((first | (go_at_call 49; exact qleftR (lxsmall_any _)) | (go_at_call 50; exact qleftR (tens_any _)) | (go_at_call 48; exact qleftR (in_at (s[E]'hlt2) runS false _ runS_sz HR2.out))))
         have HBLK2 := Lib.hid (HBLK.out.drewN nq)
         have HOC2 := Lib.hid (HOC.out.drewN nq)
         have HBC2 := Lib.hid (blk_dn HBC.out nq)
         generalize wr.drewN nq = wz at *
         clear HBLK HOC HBC hd hadd1 hadd2 HR2
         have hwz : wo.heap.size < wz.heap.size := HBLK2.out.lt
         cases hrun : runB (s[a]'hlt)
         ·have hEa := HRBB.out hrun
          have HRUN := Lib.hid hrun
          have HRB := Lib.hid ((lx_bad (f := f) (out := out) hlt HNB.out HNS.out hrun).symm.trans HLX.out)
          have heq : ((E : Int) == (a : Int)) = true := by rw [hEa]; simp
          clear hrun hEa
          go_wp2_with fail
          exact bodyPost_ret (v := .tuple #[.slice none 0 0, .int .i64 a, .int .i64 6]) (by simp [results, Tryz.results24, go_sem]) rfl (.inr ⟨a, 6, HRB.out.symm, by decide, rfl, HBC2.out⟩)
         ·have hEa := HRA.out hrun
          have HRUN := Lib.hid hrun
          have heq : ((E : Int) == (a : Int)) = false := by simp; omega
          have hts : (s.extract a E).size = E - a := ext_size hEs
          have ht0 : 0 < (s.extract a E).size := by omega
          have htm : (s.extract a E).size ≤ 9223372036854775807 := by omega
          have HTS := Lib.hid hts
          obtain ⟨⟨er, k, n⟩, hR⟩ : ∃ r : Int × Int × Int, runR (s.extract a E) = r := ⟨_, rfl⟩
          clear hts hrun
          by_cases her : er = 0
          ·subst her
           have HTO := Lib.hid (show TokOut (runR (s.extract a E)) (s.extract a E) a 0 k n a (s.extract a E) from ⟨hR, by simp, by simp⟩)
           have HR := Lib.hid hR
           clear hR
           by_cases h1000 : out.length = 1000
           ·have HRB := Lib.hid ((HL2.out k n HRUN.out HR.out h1000).symm.trans HLX.out)
            have h3 : 1000 ≤ (out.length : Int) := by omega
            clear h1000
            go_wp2_with fail
            refine (rrun_at a 0 k n a (s.extract a E) (s.extract a E) _ ht0 htm HRX.out HTO.out).mono ?_; rintro e w1 ⟨rfl, hb1⟩
            have hs1 : wo.heap.size < w1.heap.size := by have := hb1.size; omega
            have HB8 := Lib.hid (HBLK2.out.below hb1 hwz)
            have d0 : w1.cell? ⟨wo.heap.size, 0, none⟩ = some (.int .i64 4) := by rw [HB8.out.cell]; rfl
            have d1 : w1.cell? ⟨wo.heap.size, 1, none⟩ = some (.string (s.extract a (a + 1))) := by rw [HB8.out.cell]; rfl
            have d2 : w1.cell? ⟨wo.heap.size, 2, none⟩ = some (.int .i64 0) := by rw [HB8.out.cell]; rfl
            have d3 : w1.cell? ⟨wo.heap.size, 3, none⟩ = some (.int .i64 a) := by rw [HB8.out.cell]; rfl
            have df : ∀ i, w1.frozen? ⟨wo.heap.size, i, none⟩ = false := fun i => HB8.out.frozen i
            have HB3 := Lib.hid (HBC2.out.trans (hb1.mono (by omega)))
            have HO3 := Lib.hid (HOC2.out.below hb1 (Nat.le_refl _))
            clear hb1
            go_wp2_with fail
            exact bodyPost_ret (v := .tuple #[.slice none 0 0, .int .i64 a, .int .i64 3]) (by simp [results, Tryz.results24, go_sem]) rfl (.inr ⟨a, 3, HRB.out.symm, by decide, rfl, ((((HB3.out.setCell hwr _).setCell hwr _).setCell hwr _).setCell hwr _).alloc (by simp; omega) _⟩)
           ·have HRB := Lib.hid ((HL1.out k n HRUN.out HR.out h1000).symm.trans HLX.out)
            have h3 : ¬ (1000 ≤ (out.length : Int)) := by omega
            have ho2 : out.length + 1 ≤ 1000 := by omega
            clear h1000
            go_wp2_with fail
            refine (rrun_at a 0 k n a (s.extract a E) (s.extract a E) _ ht0 htm HRX.out HTO.out).mono ?_; rintro e w1 ⟨rfl, hb1⟩
            have hs1 : wo.heap.size < w1.heap.size := by have := hb1.size; omega
            have HB8 := Lib.hid (HBLK2.out.below hb1 hwz)
            have d0 : w1.cell? ⟨wo.heap.size, 0, none⟩ = some (.int .i64 4) := by rw [HB8.out.cell]; rfl
            have d1 : w1.cell? ⟨wo.heap.size, 1, none⟩ = some (.string (s.extract a (a + 1))) := by rw [HB8.out.cell]; rfl
            have d2 : w1.cell? ⟨wo.heap.size, 2, none⟩ = some (.int .i64 0) := by rw [HB8.out.cell]; rfl
            have d3 : w1.cell? ⟨wo.heap.size, 3, none⟩ = some (.int .i64 a) := by rw [HB8.out.cell]; rfl
            have df : ∀ i, w1.frozen? ⟨wo.heap.size, i, none⟩ = false := fun i => HB8.out.frozen i
            have HB3 := Lib.hid (HBC2.out.trans (hb1.mono (by omega)))
            have HO3 := Lib.hid (HOC2.out.below hb1 (Nat.le_refl _))
            clear hb1
            go_wp2_with (at_builtin; refine appendT 71 109 info_rtok Tryz.underlying71 rfl _ _ rfl w.heap.size _ (.slice p out.length c) out.length out ⟨k, s.extract a E, n, a⟩ rfl (w1.heap.size + 1) rfl (by simp) (((((HO3.out.far HFAR.out _).far HFAR.out _).far HFAR.out _).far HFAR.out _).alloc _) (by omega) (by simp; omega) ?_)
            intro v2 w2 hown2 hgo2 hgr
            have hB9 := (((((HB8.out.set_ 0 (.int .i64 k)).set_ 1 (.string (s.extract a E))).set_ 2 (.int .i64 n)).set_ 3 (.int .i64 a)).alloc (.cells #[.int .i64 k, .string (s.extract a E), .int .i64 n, .int .i64 a] 109)).grown hgr (fun e => HFAR.out _ e.symm rfl)
            have e1 : w2.cell? ⟨wo.heap.size, 1, none⟩ = some (.string (s.extract a E)) := by rw [hB9.cell]; rfl
            clear hB9 hgr d0 d1 d2 d3 df
            go_wp2_with fail
            go_roundg f
            case measure => omega
            case rel => exact ⟨E, out ++ [⟨k, s.extract a E, n, a⟩], congrArg (Value.int .i64) (by have := HTS.out; omega), HRB.out, hEs, by have := HG.out; omega, by rw [List.length_append]; exact hown2, by rw [List.length_append]; exact ho2, hgo2 _ (((((HB3.out.setCell hwr _).setCell hwr _).setCell hwr _).setCell hwr _).alloc (by simp; omega) _)⟩
          ·have HTO := Lib.hid (show TokOut (runR (s.extract a E)) (s.extract a E) a er k n 0 ⟨#[]⟩ from ⟨hR, by simp [her], by simp [her]⟩)
           have HRB := Lib.hid ((HL3.out er k n HRUN.out hR her).symm.trans HLX.out)
           have hne : (er != 0) = true := by simpa using her
           have HER := Lib.hid her
           clear hR her
           go_wp2_with fail
           refine (rrun_at a er k n 0 (s.extract a E) ⟨#[]⟩ _ ht0 htm HRX.out HTO.out).mono ?_; rintro e w1 ⟨rfl, hb1⟩
           have hs1 : w.heap.size ≤ w1.heap.size := by have := hb1.size; omega
           have HB3 := Lib.hid (HBC2.out.trans (hb1.mono (by omega)))
           clear hb1
           go_wp2_with fail
           exact bodyPost_ret (v := .tuple #[.slice none 0 0, .int .i64 a, .int .i64 er]) (by simp [results, Tryz.results24, go_sem]) rfl (.inr ⟨a, er, HRB.out.symm, HER.out, rfl, HB3.out.alloc hs1 _⟩)
        ·have hd : decide ((E : Int) < (s.size : Int)) = false := by simpa using hlt2
         go_wp2_with fail
         go_quiet (fail)
         have HBLK2 := Lib.hid (HBLK.out.drewN nq)
         have HOC2 := Lib.hid (HOC.out.drewN nq)
         have HBC2 := Lib.hid (blk_dn HBC.out nq)
         generalize wr.drewN nq = wz at *
         clear HBLK HOC HBC hd hadd1 hadd2
         have hwz : wo.heap.size < wz.heap.size := HBLK2.out.lt
         cases hrun : runB (s[a]'hlt)
         ·have hEa := HRBB.out hrun
          have HRUN := Lib.hid hrun
          have HRB := Lib.hid ((lx_bad (f := f) (out := out) hlt HNB.out HNS.out hrun).symm.trans HLX.out)
          have heq : ((E : Int) == (a : Int)) = true := by rw [hEa]; simp
          clear hrun hEa
          go_wp2_with fail
          exact bodyPost_ret (v := .tuple #[.slice none 0 0, .int .i64 a, .int .i64 6]) (by simp [results, Tryz.results24, go_sem]) rfl (.inr ⟨a, 6, HRB.out.symm, by decide, rfl, HBC2.out⟩)
         ·have hEa := HRA.out hrun
          have HRUN := Lib.hid hrun
          have heq : ((E : Int) == (a : Int)) = false := by simp; omega
          have hts : (s.extract a E).size = E - a := ext_size hEs
          have ht0 : 0 < (s.extract a E).size := by omega
          have htm : (s.extract a E).size ≤ 9223372036854775807 := by omega
          have HTS := Lib.hid hts
          obtain ⟨⟨er, k, n⟩, hR⟩ : ∃ r : Int × Int × Int, runR (s.extract a E) = r := ⟨_, rfl⟩
          clear hts hrun
          by_cases her : er = 0
          ·subst her
           have HTO := Lib.hid (show TokOut (runR (s.extract a E)) (s.extract a E) a 0 k n a (s.extract a E) from ⟨hR, by simp, by simp⟩)
           have HR := Lib.hid hR
           clear hR
           by_cases h1000 : out.length = 1000
           ·have HRB := Lib.hid ((HL2.out k n HRUN.out HR.out h1000).symm.trans HLX.out)
            have h3 : 1000 ≤ (out.length : Int) := by omega
            clear h1000
            go_wp2_with fail
            refine (rrun_at a 0 k n a (s.extract a E) (s.extract a E) _ ht0 htm HRX.out HTO.out).mono ?_; rintro e w1 ⟨rfl, hb1⟩
            have hs1 : wo.heap.size < w1.heap.size := by have := hb1.size; omega
            have HB8 := Lib.hid (HBLK2.out.below hb1 hwz)
            have d0 : w1.cell? ⟨wo.heap.size, 0, none⟩ = some (.int .i64 4) := by rw [HB8.out.cell]; rfl
            have d1 : w1.cell? ⟨wo.heap.size, 1, none⟩ = some (.string (s.extract a (a + 1))) := by rw [HB8.out.cell]; rfl
            have d2 : w1.cell? ⟨wo.heap.size, 2, none⟩ = some (.int .i64 0) := by rw [HB8.out.cell]; rfl
            have d3 : w1.cell? ⟨wo.heap.size, 3, none⟩ = some (.int .i64 a) := by rw [HB8.out.cell]; rfl
            have df : ∀ i, w1.frozen? ⟨wo.heap.size, i, none⟩ = false := fun i => HB8.out.frozen i
            have HB3 := Lib.hid (HBC2.out.trans (hb1.mono (by omega)))
            have HO3 := Lib.hid (HOC2.out.below hb1 (Nat.le_refl _))
            clear hb1
            go_wp2_with fail
            exact bodyPost_ret (v := .tuple #[.slice none 0 0, .int .i64 a, .int .i64 3]) (by simp [results, Tryz.results24, go_sem]) rfl (.inr ⟨a, 3, HRB.out.symm, by decide, rfl, ((((HB3.out.setCell hwr _).setCell hwr _).setCell hwr _).setCell hwr _).alloc (by simp; omega) _⟩)
           ·have HRB := Lib.hid ((HL1.out k n HRUN.out HR.out h1000).symm.trans HLX.out)
            have h3 : ¬ (1000 ≤ (out.length : Int)) := by omega
            have ho2 : out.length + 1 ≤ 1000 := by omega
            clear h1000
            go_wp2_with fail
            refine (rrun_at a 0 k n a (s.extract a E) (s.extract a E) _ ht0 htm HRX.out HTO.out).mono ?_; rintro e w1 ⟨rfl, hb1⟩
            have hs1 : wo.heap.size < w1.heap.size := by have := hb1.size; omega
            have HB8 := Lib.hid (HBLK2.out.below hb1 hwz)
            have d0 : w1.cell? ⟨wo.heap.size, 0, none⟩ = some (.int .i64 4) := by rw [HB8.out.cell]; rfl
            have d1 : w1.cell? ⟨wo.heap.size, 1, none⟩ = some (.string (s.extract a (a + 1))) := by rw [HB8.out.cell]; rfl
            have d2 : w1.cell? ⟨wo.heap.size, 2, none⟩ = some (.int .i64 0) := by rw [HB8.out.cell]; rfl
            have d3 : w1.cell? ⟨wo.heap.size, 3, none⟩ = some (.int .i64 a) := by rw [HB8.out.cell]; rfl
            have df : ∀ i, w1.frozen? ⟨wo.heap.size, i, none⟩ = false := fun i => HB8.out.frozen i
            have HB3 := Lib.hid (HBC2.out.trans (hb1.mono (by omega)))
            have HO3 := Lib.hid (HOC2.out.below hb1 (Nat.le_refl _))
            clear hb1
            go_wp2_with (at_builtin; refine appendT 71 109 info_rtok Tryz.underlying71 rfl _ _ rfl w.heap.size _ (.slice p out.length c) out.length out ⟨k, s.extract a E, n, a⟩ rfl (w1.heap.size + 1) rfl (by simp) (((((HO3.out.far HFAR.out _).far HFAR.out _).far HFAR.out _).far HFAR.out _).alloc _) (by omega) (by simp; omega) ?_)
            intro v2 w2 hown2 hgo2 hgr
            have hB9 := (((((HB8.out.set_ 0 (.int .i64 k)).set_ 1 (.string (s.extract a E))).set_ 2 (.int .i64 n)).set_ 3 (.int .i64 a)).alloc (.cells #[.int .i64 k, .string (s.extract a E), .int .i64 n, .int .i64 a] 109)).grown hgr (fun e => HFAR.out _ e.symm rfl)
            have e1 : w2.cell? ⟨wo.heap.size, 1, none⟩ = some (.string (s.extract a E)) := by rw [hB9.cell]; rfl
            clear hB9 hgr d0 d1 d2 d3 df
            go_wp2_with fail
            go_roundg f
            case measure => omega
            case rel => exact ⟨E, out ++ [⟨k, s.extract a E, n, a⟩], congrArg (Value.int .i64) (by have := HTS.out; omega), HRB.out, hEs, by have := HG.out; omega, by rw [List.length_append]; exact hown2, by rw [List.length_append]; exact ho2, hgo2 _ (((((HB3.out.setCell hwr _).setCell hwr _).setCell hwr _).setCell hwr _).alloc (by simp; omega) _)⟩
          ·have HTO := Lib.hid (show TokOut (runR (s.extract a E)) (s.extract a E) a er k n 0 ⟨#[]⟩ from ⟨hR, by simp [her], by simp [her]⟩)
           have HRB := Lib.hid ((HL3.out er k n HRUN.out hR her).symm.trans HLX.out)
           have hne : (er != 0) = true := by simpa using her
           have HER := Lib.hid her
           clear hR her
           go_wp2_with fail
           refine (rrun_at a er k n 0 (s.extract a E) ⟨#[]⟩ _ ht0 htm HRX.out HTO.out).mono ?_; rintro e w1 ⟨rfl, hb1⟩
           have hs1 : w.heap.size ≤ w1.heap.size := by have := hb1.size; omega
           have HB3 := Lib.hid (HBC2.out.trans (hb1.mono (by omega)))
           clear hb1
           go_wp2_with fail
           exact bodyPost_ret (v := .tuple #[.slice none 0 0, .int .i64 a, .int .i64 er]) (by simp [results, Tryz.results24, go_sem]) rfl (.inr ⟨a, er, HRB.out.symm, HER.out, rfl, HB3.out.alloc hs1 _⟩)
   ·have HRR2 := Lib.hid ((lx_end (f := gk) (out := out) (by omega : s.size ≤ a)).symm.trans HLX.out)
    go_wp2_with (at_builtin; refine appendT 71 109 info_rtok Tryz.underlying71 rfl _ _ rfl w.heap.size wo (.slice p out.length c) out.length out ⟨0, ⟨#[]⟩, 0, s.size⟩ rfl wo.heap.size rfl rfl HOWN.out (by omega) hwr ?_)
    intro v2 w2 hown2 hgo _
    go_wp2_with fail
    exact bodyPost_ret (v := .tuple #[v2, .int .i64 0, .int .i64 0]) (by simp [results, Tryz.results24, go_sem]) rfl (.inl ⟨out ++ [⟨0, ⟨#[]⟩, 0, s.size⟩], v2, HRR2.out.symm, rfl, by rw [List.length_append]; exact hown2, hgo _ HBL.out⟩)
end Go.Proofs.YtaofjnidniekjaaGreatDoor
