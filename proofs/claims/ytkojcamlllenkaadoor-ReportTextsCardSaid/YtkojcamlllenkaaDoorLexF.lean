/- Contract of lex.Tokens: the tokens of any text, or the place and the error. Condition: the text is no longer than Go's longest length. -/
import Derived.Test.YtkojcamlllenkaaDoorMLxA
namespace Go.Proofs.YtkojcamlllenkaaDoor
open Go.RowKit

theorem info_tok : (Tryd.prog.info? 116).map (fun i => (i.zero, i.size, i.bytes)) = some (some (.agg #[.int .i64 0, .string ⟨#[]⟩, .int .i64 0, .int .i64 0]), 4, 40) := by kernel_rfl

theorem sign_facts {c : UInt8} (hb : ¬ isBlank c) (h : isSign c) : runB c = false ∧ ((c.toNat : Int) = 40 ∨ (c.toNat : Int) = 41 ∨ (c.toNat : Int) = 44 ∨ (c.toNat : Int) = 61) := by
 rcases h with rfl | rfl | rfl | rfl
 ·exact ⟨by decide, .inl rfl⟩
 ·exact ⟨by decide, .inr (.inl rfl)⟩
 ·exact ⟨by decide, .inr (.inr (.inl rfl))⟩
 ·exact ⟨by decide, .inr (.inr (.inr rfl))⟩
theorem nosign_facts {c : UInt8} (h : ¬ isSign c) : ((c.toNat : Int) != 40) = true ∧ ((c.toNat : Int) != 41) = true ∧ ((c.toNat : Int) != 44) = true ∧ ((c.toNat : Int) != 61) = true := by
 unfold isSign at h
 have e : ∀ n : UInt8, c ≠ n → ((c.toNat : Int) != (n.toNat : Int)) = true := fun n hn => by
  rw [bne_iff_ne]; intro e; exact hn (UInt8.toNat_inj.1 (by omega))
 exact ⟨e 40 fun h' => h (.inl h'), e 41 fun h' => h (.inr (.inl h')), e 44 fun h' => h (.inr (.inr (.inl h'))), e 61 fun h' => h (.inr (.inr (.inr h')))⟩
theorem noblank_facts {c : UInt8} (h : ¬ isBlank c) : ((c.toNat : Int) == 32) = false ∧ ((c.toNat : Int) == 10) = false := by
 unfold isBlank at h
 have e : ∀ n : UInt8, c ≠ n → ((c.toNat : Int) == (n.toNat : Int)) = false := fun n hn => by
  rw [beq_eq_false_iff_ne]; intro e; exact hn (UInt8.toNat_inj.1 (by omega))
 exact ⟨e 32 fun h' => h (.inl h'), e 10 fun h' => h (.inr h')⟩

set_option maxHeartbeats 1000000 in
set_option maxRecDepth 100000 in
theorem ltok_any (s : ByteArray) (w : World) (hs : s.size ≤ maxLen) : Calls Tryd.prog 38 #[.string s] w (RetLex 116 w (lexAll s)) := by
 have hmx : s.size ≤ 9223372036854775807 := by unfold maxLen at hs; omega
 clear hs
 obtain ⟨R, hR⟩ : ∃ R, lexAll s = R := ⟨_, rfl⟩
 rw [hR]
 by_cases h4 : 4096 < s.size
 ·have HRR : Hid (R = .bad 0 4) := by
   have h : R = .bad 0 4 := by rw [← hR]; unfold lexAll; rw [if_pos h4]
   exact Lib.hid h
  clear hR
  go_enter Tryd.func38, Tryd.ntmps38
  go_wp2_with fail
  exact bodyPost_ret (v := .tuple #[.slice none 0 0, .int .i64 0, .int .i64 4]) (by simp [results, Tryd.results38, go_sem]) rfl (.inr ⟨0, 4, HRR.out, by decide, rfl, Below.refl _ _⟩)
 ·have HRR : Hid (lx s s.size 0 [] = R) := by
   have h : lx s s.size 0 [] = R := by rw [← hR]; unfold lexAll; rw [if_neg h4]
   exact Lib.hid h
  clear hR
  go_enter Tryd.func38, Tryd.ntmps38
  go_wp2_with fail
  go_loopg [5, 6] s.size (fun g v u wr => ∃ (a : Nat) (out : List Tok), u = .int .i64 a ∧ lx s g a out = R ∧ a ≤ s.size ∧ s.size ≤ a + g ∧ OwnT wr w.heap.size 116 v out.length out ∧ out.length ≤ 1000 ∧ Below w.heap.size w wr)
  case atStart => exact ⟨0, [], rfl, HRR.out, by omega, by omega, OwnT.nil _ _ _, by decide, Below.refl _ _⟩
  case round =>
   obtain ⟨a, out, rfl, hlx, ha, hg, hown, ho, hbl⟩ := hrel
   obtain ⟨p, c, rfl⟩ := hown.form
   have HLX := Lib.hid hlx
   have HG := Lib.hid hg
   have HOWN := Lib.hid hown
   have HBL := Lib.hid hbl
   have hwr : w.heap.size ≤ wr.heap.size := hbl.size
   clear hlx hg hown hbl HRR
   by_cases hlt : a < s.size
   ·obtain ⟨f, hf⟩ : ∃ f, gk = f + 1 := ⟨gk - 1, by have := HG.out; omega⟩
    subst hf
    by_cases hb : isBlank (s[a]'hlt)
    ·have HL2 := Lib.hid ((lx_blank hlt hb).symm.trans HLX.out)
     rcases hb with hb | hb
     ·have h1 : (((s[a]'hlt).toNat : Int) == 32) = true := by rw [hb]; rfl
      clear hb
      go_wp2_with fail
      go_roundg f
      case measure => omega
      case rel => exact ⟨a + 1, out, by go_num, HL2.out, by omega, by have := HG.out; omega, HOWN.out, ho, HBL.out⟩
     ·have h1 : (((s[a]'hlt).toNat : Int) == 32) = false := by rw [hb]; rfl
      have h2 : (((s[a]'hlt).toNat : Int) == 10) = true := by rw [hb]; rfl
      clear hb
      go_wp2_with fail
      go_roundg f
      case measure => omega
      case rel => exact ⟨a + 1, out, by go_num, HL2.out, by omega, by have := HG.out; omega, HOWN.out, ho, HBL.out⟩
    ·obtain ⟨h1, h2⟩ := noblank_facts hb
     by_cases hsg : isSign (s[a]'hlt)
     ·obtain ⟨hrun, hc4⟩ := sign_facts hb hsg
      have HRUN := Lib.hid hrun
      have HNB := Lib.hid hb
      have HSG := Lib.hid hsg
      clear hb hsg hrun
      have hfs : (((s[a]'hlt).toNat : Int) != 40) = false ∨ ((((s[a]'hlt).toNat : Int) != 40) = true ∧ (((s[a]'hlt).toNat : Int) != 41) = false) ∨ ((((s[a]'hlt).toNat : Int) != 40) = true ∧ (((s[a]'hlt).toNat : Int) != 41) = true ∧ (((s[a]'hlt).toNat : Int) != 44) = false) ∨ ((((s[a]'hlt).toNat : Int) != 40) = true ∧ (((s[a]'hlt).toNat : Int) != 41) = true ∧ (((s[a]'hlt).toNat : Int) != 44) = true ∧ (((s[a]'hlt).toNat : Int) != 61) = false) := by
       rcases hc4 with h | h | h | h
       ·exact .inl (by rw [h]; rfl)
       ·exact .inr (.inl (by rw [h]; exact ⟨rfl, rfl⟩))
       ·exact .inr (.inr (.inl (by rw [h]; exact ⟨rfl, rfl, rfl⟩)))
       ·exact .inr (.inr (.inr (by rw [h]; exact ⟨rfl, rfl, rfl, rfl⟩)))
      clear hc4
      by_cases h1000 : out.length = 1000
      ·have HRB := Lib.hid ((lx_sign_many (f := f) hlt HNB.out HSG.out h1000).symm.trans HLX.out)
       have h3 : ((out.length : Int) == 1000) = true := by rw [h1000]; rfl
       have hb3 := Lib.hid (HBL.out.alloc hwr (.cells #[.int .i64 4, .string (s.extract a (a + 1)), .int .i64 0, .int .i64 a] 116))
       clear h1000
       rcases hfs with q1 | ⟨q1, q2⟩ | ⟨q1, q2, q3⟩ | ⟨q1, q2, q3, q4⟩
       all_goals
        go_wp2_with fail
        refine (running_at (s[a]'hlt) false _ HRUN.out).mono ?_; rintro e w1 ⟨rfl, rfl⟩
        go_wp2_with fail
        exact bodyPost_ret (v := .tuple #[.slice none 0 0, .int .i64 a, .int .i64 3]) (by simp [results, Tryd.results38, go_sem]) rfl (.inr ⟨a, 3, HRB.out.symm, by decide, rfl, hb3.out⟩)
      ·have HRB := Lib.hid ((lx_sign (f := f) hlt HNB.out HSG.out h1000).symm.trans HLX.out)
       have h3 : ((out.length : Int) == 1000) = false := by simp; omega
       have ho2 : out.length + 1 ≤ 1000 := by omega
       have hb3 := Lib.hid (HBL.out.alloc hwr (.cells #[.int .i64 4, .string (s.extract a (a + 1)), .int .i64 0, .int .i64 a] 116))
       clear h1000
       rcases hfs with q1 | ⟨q1, q2⟩ | ⟨q1, q2, q3⟩ | ⟨q1, q2, q3, q4⟩
       all_goals
        go_wp2_with fail
        refine (running_at (s[a]'hlt) false _ HRUN.out).mono ?_; rintro e w1 ⟨rfl, rfl⟩
        go_wp2_with (at_builtin; refine appendT 93 116 info_tok Tryd.underlying93 rfl _ _ rfl w.heap.size (wr.alloc (.cells #[.int .i64 4, .string (s.extract a (a + 1)), .int .i64 0, .int .i64 a] 116)) (.slice p out.length c) out.length out ⟨4, s.extract a (a + 1), 0, a⟩ rfl (wr.heap.size + 1) rfl (by simp) (World.ownsRow.alloc HOWN.out _) (by omega) (by simp; omega) ?_)
        intro v2 w2 hown2 hgo _
        go_wp2_with fail
        go_roundg f
        case measure => omega
        case rel => exact ⟨a + 1, out ++ [⟨4, s.extract a (a + 1), 0, a⟩], by go_num, HRB.out, by omega, by have := HG.out; omega, by rw [List.length_append]; exact hown2, by rw [List.length_append]; exact ho2, hgo _ hb3.out⟩
     ·obtain ⟨n40, n41, n44, n61⟩ := nosign_facts hsg
      have HNB := Lib.hid hb
      have HNS := Lib.hid hsg
      clear hb hsg
      cases hrun : runB (s[a]'hlt)
      ·have HRUN := Lib.hid hrun
       have HRB := Lib.hid ((lx_bad (f := f) (out := out) hlt HNB.out HNS.out HRUN.out).symm.trans HLX.out)
       have hb3 := Lib.hid (HBL.out.alloc hwr (.cells #[.int .i64 4, .string (s.extract a (a + 1)), .int .i64 0, .int .i64 a] 116))
       clear hrun
       go_wp2_with fail
       refine (running_at (s[a]'hlt) false _ HRUN.out).mono ?_; rintro e w1 ⟨rfl, rfl⟩
       go_wp2_with fail
       exact bodyPost_ret (v := .tuple #[.slice none 0 0, .int .i64 a, .int .i64 6]) (by simp [results, Tryd.results38, go_sem]) rfl (.inr ⟨a, 6, HRB.out.symm, by decide, rfl, hb3.out⟩)
      ·have HRUN := Lib.hid hrun
       have hE0 := rEnd_step hlt hrun
       have hrx := run_ext hlt
       have hEa : a + 1 ≤ rEnd s a := by rw [hE0]; exact rEndF_ge _ _ _
       have hEs : rEnd s a ≤ s.size := rEndF_le s _ _ (by omega)
       have hL1 := fun (k n : Int) hR ho => lx_run (f := f) (out := out) hlt HNB.out HNS.out hrun (k := k) (n := n) hR ho
       have hL2 := fun (k n : Int) hR ho => lx_run_many (f := f) (out := out) hlt HNB.out HNS.out hrun (k := k) (n := n) hR ho
       have hL3 := fun (er k n : Int) hR he => lx_run_bad (f := f) (out := out) hlt HNB.out HNS.out hrun (er := er) (k := k) (n := n) hR he
       generalize rEnd s a = E at *
       have HE0 := Lib.hid hE0
       have HRX := Lib.hid hrx
       have HL1 := Lib.hid hL1
       have HL2 := Lib.hid hL2
       have HL3 := Lib.hid hL3
       clear hrun hE0 hrx hL1 hL2 hL3
       go_wp2_with fail
       refine (running_at (s[a]'hlt) true _ HRUN.out).mono ?_; rintro e w1 ⟨rfl, rfl⟩
       go_wp2_with fail
       go_loopg [9] (s.size - (a + 1)) (fun g u wc => wr.alloc (.cells #[.int .i64 4, .string (s.extract a (a + 1)), .int .i64 0, .int .i64 a] 116) = wc ∧ ∃ e : Nat, u = .int .i64 e ∧ a + 1 ≤ e ∧ e + g = s.size ∧ rEndF s g e = E)
       case atStart => exact ⟨rfl, a + 1, by go_num, Nat.le_refl _, by omega, HE0.out.symm⟩
       case round =>
        obtain ⟨rfl, e, rfl, he1, he2, he3⟩ := hrel
        have HE3 := Lib.hid he3
        have HE2 := Lib.hid he2
        clear he2 he3
        have hes : e ≤ s.size := by have := HE2.out; omega
        by_cases hgo : ∃ h : e < s.size, runB (s[e]'h) = true
        ·obtain ⟨hlt2, hr2⟩ := hgo
         have HR2 := Lib.hid hr2
         clear hr2
         obtain ⟨g2, hg2⟩ : ∃ g2, gk = g2 + 1 := ⟨gk - 1, by have := HE2.out; omega⟩
         subst hg2
         have HE4 := Lib.hid ((rEndF_step (f := g2) hlt2 HR2.out).symm.trans HE3.out)
         go_wp2_with fail
         refine (running_at (s[e]'hlt2) true _ HR2.out).mono ?_; rintro e w1 ⟨rfl, rfl⟩
         go_wp2_with fail
         go_roundg g2
         case measure => omega
         case rel => exact ⟨rfl, e + 1, by go_num, by omega, by have := HE2.out; omega, HE4.out⟩
        ·have hEe : E = e := by
          rw [← HE3.out]
          by_cases h : e < s.size
          ·refine rEndF_stop h ?_
           cases hh : runB (s[e]'h)
           ·rfl
           ·exact absurd ⟨h, hh⟩ hgo
          ·exact rEndF_end (by omega)
         subst hEe
         have hq : (E < s.size) ∨ ¬ (E < s.size) := by omega
         have HGO := Lib.hid hgo
         clear hgo he1 HE0 HE2 HE3 hes
         have hts : (s.extract a E).size = E - a := ext_size hEs
         have ht0 : 0 < (s.extract a E).size := by omega
         have htm : (s.extract a E).size ≤ 9223372036854775807 := by omega
         obtain ⟨⟨er, k, n⟩, hR⟩ : ∃ r : Int × Int × Int, runR (s.extract a E) = r := ⟨_, rfl⟩
         have HTS := Lib.hid hts
         clear hts
         by_cases her : er = 0
         ·subst her
          have HTO := Lib.hid (show TokOut (runR (s.extract a E)) (s.extract a E) a 0 k n a (s.extract a E) from ⟨hR, by simp, by simp⟩)
          have HR := Lib.hid hR
          clear hR
          have HFAR : Hid (∀ g, (Value.slice p out.length c).ownBlock = some g → g ≠ wr.heap.size) := Lib.hid (fun g hg => by have := (HOWN.out.lt hg).2; omega)
          by_cases h1000 : out.length = 1000
          ·have HRB := Lib.hid ((HL2.out k n HR.out h1000).symm.trans HLX.out)
           have h3 : ((out.length : Int) == 1000) = true := by rw [h1000]; rfl
           clear h1000
           rcases hq with hlt2 | hlt2
           ·have HR2 : Hid (runB (s[E]'hlt2) = false) := by
             have h : runB (s[E]'hlt2) = false := by
              cases hh : runB (s[E]'hlt2)
              ·rfl
              ·exact absurd ⟨hlt2, hh⟩ HGO.out
             exact Lib.hid h
            go_wp2_with fail
            refine (running_at (s[E]'hlt2) false _ HR2.out).mono ?_; rintro e w1 ⟨rfl, rfl⟩
            go_wp2_with fail
            refine (lrun_at a 0 k n a (s.extract a E) (s.extract a E) _ ht0 htm HRX.out HTO.out).mono ?_; rintro e w1 ⟨rfl, hb1⟩
            have hs1 : wr.heap.size < w1.heap.size := by have := hb1.size; simp at this; omega
            have hB8 := ((Blk.new wr 116 #[.int .i64 4, .string (s.extract a (a + 1)), .int .i64 0, .int .i64 a]).below hb1 (by simp))
            have d0 : w1.cell? ⟨wr.heap.size, 0, none⟩ = some (.int .i64 4) := by rw [hB8.cell]; rfl
            have d1 : w1.cell? ⟨wr.heap.size, 1, none⟩ = some (.string (s.extract a (a + 1))) := by rw [hB8.cell]; rfl
            have d2 : w1.cell? ⟨wr.heap.size, 2, none⟩ = some (.int .i64 0) := by rw [hB8.cell]; rfl
            have d3 : w1.cell? ⟨wr.heap.size, 3, none⟩ = some (.int .i64 a) := by rw [hB8.cell]; rfl
            have df : ∀ i, w1.frozen? ⟨wr.heap.size, i, none⟩ = false := fun i => hB8.frozen i
            have HB3 := Lib.hid ((HBL.out.alloc hwr (.cells #[.int .i64 4, .string (s.extract a (a + 1)), .int .i64 0, .int .i64 a] 116)).trans (hb1.mono (by simp; omega)))
            have HO3 := Lib.hid ((HOWN.out.alloc (.cells #[.int .i64 4, .string (s.extract a (a + 1)), .int .i64 0, .int .i64 a] 116)).below hb1 (Nat.le_refl _))
            clear hb1 hB8
            go_wp2_with fail
            exact bodyPost_ret (v := .tuple #[.slice none 0 0, .int .i64 a, .int .i64 3]) (by simp [results, Tryd.results38, go_sem]) rfl (.inr ⟨a, 3, HRB.out.symm, by decide, rfl, ((((HB3.out.setCell hwr _).setCell hwr _).setCell hwr _).setCell hwr _).alloc (by simp; omega) _⟩)
           ·go_wp2_with fail
            refine (lrun_at a 0 k n a (s.extract a E) (s.extract a E) _ ht0 htm HRX.out HTO.out).mono ?_; rintro e w1 ⟨rfl, hb1⟩
            have hs1 : wr.heap.size < w1.heap.size := by have := hb1.size; simp at this; omega
            have hB8 := ((Blk.new wr 116 #[.int .i64 4, .string (s.extract a (a + 1)), .int .i64 0, .int .i64 a]).below hb1 (by simp))
            have d0 : w1.cell? ⟨wr.heap.size, 0, none⟩ = some (.int .i64 4) := by rw [hB8.cell]; rfl
            have d1 : w1.cell? ⟨wr.heap.size, 1, none⟩ = some (.string (s.extract a (a + 1))) := by rw [hB8.cell]; rfl
            have d2 : w1.cell? ⟨wr.heap.size, 2, none⟩ = some (.int .i64 0) := by rw [hB8.cell]; rfl
            have d3 : w1.cell? ⟨wr.heap.size, 3, none⟩ = some (.int .i64 a) := by rw [hB8.cell]; rfl
            have df : ∀ i, w1.frozen? ⟨wr.heap.size, i, none⟩ = false := fun i => hB8.frozen i
            have HB3 := Lib.hid ((HBL.out.alloc hwr (.cells #[.int .i64 4, .string (s.extract a (a + 1)), .int .i64 0, .int .i64 a] 116)).trans (hb1.mono (by simp; omega)))
            have HO3 := Lib.hid ((HOWN.out.alloc (.cells #[.int .i64 4, .string (s.extract a (a + 1)), .int .i64 0, .int .i64 a] 116)).below hb1 (Nat.le_refl _))
            clear hb1 hB8
            go_wp2_with fail
            exact bodyPost_ret (v := .tuple #[.slice none 0 0, .int .i64 a, .int .i64 3]) (by simp [results, Tryd.results38, go_sem]) rfl (.inr ⟨a, 3, HRB.out.symm, by decide, rfl, ((((HB3.out.setCell hwr _).setCell hwr _).setCell hwr _).setCell hwr _).alloc (by simp; omega) _⟩)
          ·have HRB := Lib.hid ((HL1.out k n HR.out h1000).symm.trans HLX.out)
           have h3 : ((out.length : Int) == 1000) = false := by simp; omega
           have ho2 : out.length + 1 ≤ 1000 := by omega
           clear h1000
           rcases hq with hlt2 | hlt2
           ·have HR2 : Hid (runB (s[E]'hlt2) = false) := by
             have h : runB (s[E]'hlt2) = false := by
              cases hh : runB (s[E]'hlt2)
              ·rfl
              ·exact absurd ⟨hlt2, hh⟩ HGO.out
             exact Lib.hid h
            go_wp2_with fail
            refine (running_at (s[E]'hlt2) false _ HR2.out).mono ?_; rintro e w1 ⟨rfl, rfl⟩
            go_wp2_with fail
            refine (lrun_at a 0 k n a (s.extract a E) (s.extract a E) _ ht0 htm HRX.out HTO.out).mono ?_; rintro e w1 ⟨rfl, hb1⟩
            have hs1 : wr.heap.size < w1.heap.size := by have := hb1.size; simp at this; omega
            have hB8 := ((Blk.new wr 116 #[.int .i64 4, .string (s.extract a (a + 1)), .int .i64 0, .int .i64 a]).below hb1 (by simp))
            have d0 : w1.cell? ⟨wr.heap.size, 0, none⟩ = some (.int .i64 4) := by rw [hB8.cell]; rfl
            have d1 : w1.cell? ⟨wr.heap.size, 1, none⟩ = some (.string (s.extract a (a + 1))) := by rw [hB8.cell]; rfl
            have d2 : w1.cell? ⟨wr.heap.size, 2, none⟩ = some (.int .i64 0) := by rw [hB8.cell]; rfl
            have d3 : w1.cell? ⟨wr.heap.size, 3, none⟩ = some (.int .i64 a) := by rw [hB8.cell]; rfl
            have df : ∀ i, w1.frozen? ⟨wr.heap.size, i, none⟩ = false := fun i => hB8.frozen i
            have HB3 := Lib.hid ((HBL.out.alloc hwr (.cells #[.int .i64 4, .string (s.extract a (a + 1)), .int .i64 0, .int .i64 a] 116)).trans (hb1.mono (by simp; omega)))
            have HO3 := Lib.hid ((HOWN.out.alloc (.cells #[.int .i64 4, .string (s.extract a (a + 1)), .int .i64 0, .int .i64 a] 116)).below hb1 (Nat.le_refl _))
            clear hb1 hB8
            go_wp2_with (at_builtin; refine appendT 93 116 info_tok Tryd.underlying93 rfl _ _ rfl w.heap.size _ (.slice p out.length c) out.length out ⟨k, s.extract a E, n, a⟩ rfl (w1.heap.size + 1) rfl (by simp) (((((HO3.out.far HFAR.out _).far HFAR.out _).far HFAR.out _).far HFAR.out _).alloc _) (by omega) (by simp; omega) ?_)
            intro v2 w2 hown2 hgo2 _
            go_wp2_with fail
            go_roundg f
            case measure => omega
            case rel => exact ⟨E, out ++ [⟨k, s.extract a E, n, a⟩], rfl, HRB.out, hEs, by have := HG.out; omega, by rw [List.length_append]; exact hown2, by rw [List.length_append]; exact ho2, hgo2 _ (((((HB3.out.setCell hwr _).setCell hwr _).setCell hwr _).setCell hwr _).alloc (by simp; omega) _)⟩
           ·go_wp2_with fail
            refine (lrun_at a 0 k n a (s.extract a E) (s.extract a E) _ ht0 htm HRX.out HTO.out).mono ?_; rintro e w1 ⟨rfl, hb1⟩
            have hs1 : wr.heap.size < w1.heap.size := by have := hb1.size; simp at this; omega
            have hB8 := ((Blk.new wr 116 #[.int .i64 4, .string (s.extract a (a + 1)), .int .i64 0, .int .i64 a]).below hb1 (by simp))
            have d0 : w1.cell? ⟨wr.heap.size, 0, none⟩ = some (.int .i64 4) := by rw [hB8.cell]; rfl
            have d1 : w1.cell? ⟨wr.heap.size, 1, none⟩ = some (.string (s.extract a (a + 1))) := by rw [hB8.cell]; rfl
            have d2 : w1.cell? ⟨wr.heap.size, 2, none⟩ = some (.int .i64 0) := by rw [hB8.cell]; rfl
            have d3 : w1.cell? ⟨wr.heap.size, 3, none⟩ = some (.int .i64 a) := by rw [hB8.cell]; rfl
            have df : ∀ i, w1.frozen? ⟨wr.heap.size, i, none⟩ = false := fun i => hB8.frozen i
            have HB3 := Lib.hid ((HBL.out.alloc hwr (.cells #[.int .i64 4, .string (s.extract a (a + 1)), .int .i64 0, .int .i64 a] 116)).trans (hb1.mono (by simp; omega)))
            have HO3 := Lib.hid ((HOWN.out.alloc (.cells #[.int .i64 4, .string (s.extract a (a + 1)), .int .i64 0, .int .i64 a] 116)).below hb1 (Nat.le_refl _))
            clear hb1 hB8
            go_wp2_with (at_builtin; refine appendT 93 116 info_tok Tryd.underlying93 rfl _ _ rfl w.heap.size _ (.slice p out.length c) out.length out ⟨k, s.extract a E, n, a⟩ rfl (w1.heap.size + 1) rfl (by simp) (((((HO3.out.far HFAR.out _).far HFAR.out _).far HFAR.out _).far HFAR.out _).alloc _) (by omega) (by simp; omega) ?_)
            intro v2 w2 hown2 hgo2 _
            go_wp2_with fail
            go_roundg f
            case measure => omega
            case rel => exact ⟨E, out ++ [⟨k, s.extract a E, n, a⟩], rfl, HRB.out, hEs, by have := HG.out; omega, by rw [List.length_append]; exact hown2, by rw [List.length_append]; exact ho2, hgo2 _ (((((HB3.out.setCell hwr _).setCell hwr _).setCell hwr _).setCell hwr _).alloc (by simp; omega) _)⟩
         ·have HTO := Lib.hid (show TokOut (runR (s.extract a E)) (s.extract a E) a er k n 0 ⟨#[]⟩ from ⟨hR, by simp [her], by simp [her]⟩)
          have HRB := Lib.hid ((HL3.out er k n hR her).symm.trans HLX.out)
          have hne : (er != 0) = true := by simpa using her
          have HER := Lib.hid her
          clear hR her
          rcases hq with hlt2 | hlt2
          ·have HR2 : Hid (runB (s[E]'hlt2) = false) := by
            have h : runB (s[E]'hlt2) = false := by
             cases hh : runB (s[E]'hlt2)
             ·rfl
             ·exact absurd ⟨hlt2, hh⟩ HGO.out
            exact Lib.hid h
           go_wp2_with fail
           refine (running_at (s[E]'hlt2) false _ HR2.out).mono ?_; rintro e w1 ⟨rfl, rfl⟩
           go_wp2_with fail
           refine (lrun_at a er k n 0 (s.extract a E) ⟨#[]⟩ _ ht0 htm HRX.out HTO.out).mono ?_; rintro e w1 ⟨rfl, hb1⟩
           have hs1 : w.heap.size ≤ w1.heap.size := by have := hb1.size; simp at this; omega
           have HB3 := Lib.hid ((HBL.out.alloc hwr (.cells #[.int .i64 4, .string (s.extract a (a + 1)), .int .i64 0, .int .i64 a] 116)).trans (hb1.mono (by simp; omega)))
           clear hb1
           go_wp2_with fail
           exact bodyPost_ret (v := .tuple #[.slice none 0 0, .int .i64 a, .int .i64 er]) (by simp [results, Tryd.results38, go_sem]) rfl (.inr ⟨a, er, HRB.out.symm, HER.out, rfl, HB3.out.alloc hs1 _⟩)
          ·go_wp2_with fail
           refine (lrun_at a er k n 0 (s.extract a E) ⟨#[]⟩ _ ht0 htm HRX.out HTO.out).mono ?_; rintro e w1 ⟨rfl, hb1⟩
           have hs1 : w.heap.size ≤ w1.heap.size := by have := hb1.size; simp at this; omega
           have HB3 := Lib.hid ((HBL.out.alloc hwr (.cells #[.int .i64 4, .string (s.extract a (a + 1)), .int .i64 0, .int .i64 a] 116)).trans (hb1.mono (by simp; omega)))
           clear hb1
           go_wp2_with fail
           exact bodyPost_ret (v := .tuple #[.slice none 0 0, .int .i64 a, .int .i64 er]) (by simp [results, Tryd.results38, go_sem]) rfl (.inr ⟨a, er, HRB.out.symm, HER.out, rfl, HB3.out.alloc hs1 _⟩)
   ·have HRR2 := Lib.hid ((lx_end (f := gk) (out := out) (by omega : s.size ≤ a)).symm.trans HLX.out)
    go_wp2_with (at_builtin; refine appendT 93 116 info_tok Tryd.underlying93 rfl _ _ rfl w.heap.size wr (.slice p out.length c) out.length out ⟨0, ⟨#[]⟩, 0, s.size⟩ rfl wr.heap.size rfl rfl HOWN.out (by omega) hwr ?_)
    intro v2 w2 hown2 hgo _
    go_wp2_with fail
    exact bodyPost_ret (v := .tuple #[v2, .int .i64 0, .int .i64 0]) (by simp [results, Tryd.results38, go_sem]) rfl (.inl ⟨out ++ [⟨0, ⟨#[]⟩, 0, s.size⟩], v2, HRR2.out.symm, rfl, by rw [List.length_append]; exact hown2, hgo _ HBL.out⟩)
end Go.Proofs.YtkojcamlllenkaaDoor
