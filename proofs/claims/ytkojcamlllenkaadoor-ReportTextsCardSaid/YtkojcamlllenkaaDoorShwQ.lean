/- Contracts of the references' Light of a query, and of bushelref37's Show. Conditions: those stated. -/
import Derived.Test.YtkojcamlllenkaaDoorShwP
import Derived.Test.YtkojcamlllenkaaDoorLexG
import Derived.Test.YtkojcamlllenkaaDoorMPr1
namespace Go.Proofs.YtkojcamlllenkaaDoor
open Go.RowKit

set_option maxHeartbeats 2000000 in
theorem rflight_any (w : World) (fa : Option Addr) (fn fc : Nat) (fs : List Flt) (h : FltsAt w fa fn fc fs) : Calls Tryd.prog 15 #[.slice fa fn fc] w fun e w' => (∃ b, e = .returned (.bool b)) ∧ Below w.heap.size w w' := by
 have HFN := Lib.hid h.2.1
 have mx : fn ≤ 9223372036854775807 := by have h1 := h.1.2.1; have h2 := h.1.2.2.1; unfold maxLen at h2; omega
 have HF := Lib.hid h
 obtain ⟨N, hN⟩ : ∃ N, w.heap.size = N := ⟨_, rfl⟩
 have HB0 : Hid (Below N w w) := Lib.hid (Below.refl _ _)
 have HN := Lib.hid hN
 rw [hN]
 clear h hN
 go_enter Tryd.func15, Tryd.ntmps15
 by_cases h30 : 30 < fn
 ·have t1 : decide ((30 : Int) < (fn : Int)) = true := decide_eq_true (by omega)
  clear h30
  go_wp2_with fail
  go_ret
  exact ⟨⟨_, rfl⟩, HB0.out⟩
 have t1 : decide ((30 : Int) < (fn : Int)) = false := decide_eq_false (by omega)
 have hf30 : fn ≤ 30 := by omega
 clear h30
 go_wp2_with fail
 clear t1
 go_loopg [3] fn (fun g iu wr => ∃ (j : Nat), iu = .int .i64 j ∧ j + g = fn ∧ Below N w wr)
 case atStart => exact ⟨0, rfl, by omega, HB0.out⟩
 case round =>
 obtain ⟨j, rfl, hqq, hb⟩ := hrel
 have HQQ := Lib.hid hqq
 have HB := Lib.hid hb
 clear hqq hb
 by_cases hlt : j < fn
 case pos =>
  obtain ⟨b, off, rfl, hbl, hc⟩ := (HF.out.1.below HB.out (Nat.le_of_eq HN.out)).at (by omega)
  have c1 := hc (j * 2 + 1) (by omega)
  have hjl : j < fs.length := by rw [HFN.out]; exact hlt
  obtain ⟨-, g1⟩ := fltCells_get (fs := fs) (i := j) hjl
  rw [g1, ← Nat.add_assoc] at c1
  have HM := Lib.hid (HF.out.2.2 (fltAt fs j) (fltAt_mem hjl)).1
  obtain ⟨⟨fd, fcs, ka, kn, kc⟩, hfl⟩ : ∃ f, fltAt fs j = f := ⟨_, rfl⟩
  rw [hfl] at c1 HM
  simp only at c1 HM
  have mk : kn ≤ 9223372036854775807 := by have h1 := HM.out.2.1; have h2 := HM.out.2.2.1; unfold maxLen at h2; omega
  clear hc g1 hfl hjl
  by_cases a1 : 30 < kn
  ·have t1 : decide ((30 : Int) < (kn : Int)) = true := decide_eq_true (by omega)
   by_cases a2 : kn ≤ 4096
   ·have t2 : decide ((kn : Int) ≤ 4096) = true := decide_eq_true (by omega)
    clear a1 a2
    go_wp2_with fail
    go_ret
    exact ⟨⟨_, rfl⟩, HB.out⟩
   ·have t2 : decide ((kn : Int) ≤ 4096) = false := decide_eq_false (by omega)
    by_cases a3 : 5000 < kn
    ·have t3 : decide ((5000 : Int) < (kn : Int)) = true := decide_eq_true (by omega)
     clear a1 a2 a3
     go_wp2_with fail
     go_ret
     exact ⟨⟨_, rfl⟩, HB.out⟩
    ·have t3 : decide ((5000 : Int) < (kn : Int)) = false := decide_eq_false (by omega)
     clear a1 a2 a3
     go_wp2_with fail
     go_roundg (fn - j - 1)
     case measure => have := HQQ.out; omega
     case rel => exact ⟨j + 1, by go_num, by have := HQQ.out; omega, HB.out⟩
  ·have t1 : decide ((30 : Int) < (kn : Int)) = false := decide_eq_false (by omega)
   have t3 : decide ((5000 : Int) < (kn : Int)) = false := decide_eq_false (by omega)
   clear a1
   go_wp2_with fail
   go_roundg (fn - j - 1)
   case measure => have := HQQ.out; omega
   case rel => exact ⟨j + 1, by go_num, by have := HQQ.out; omega, HB.out⟩
 case neg =>
 obtain rfl : fn = j := by have := HQQ.out; omega
 go_wp2_with fail
 go_ret
 exact ⟨⟨_, rfl⟩, HB.out⟩

set_option maxHeartbeats 2000000 in
theorem rqlight_any (w : World) (m : QryL) (q : Qry) (h : QryAt w m q) : Calls Tryd.prog 5 #[m.val q] w fun e w' => (∃ b, e = .returned (.bool b)) ∧ Below w.heap.size w w' := by
 obtain ⟨af, nf, cf, ac, nc, cc, ao, no, co⟩ := m
 obtain ⟨gr, fq, cq, oq, lm⟩ := q
 have mc : nc ≤ 9223372036854775807 := by have h1 := h.2.1.2.1; have h2 := h.2.1.2.2.1; simp only at h1 h2; unfold maxLen at h2; omega
 have mo : no ≤ 9223372036854775807 := by have h1 := h.2.2.2.1.2.1; have h2 := h.2.2.2.1.2.2.1; simp only at h1 h2; unfold maxLen at h2; omega
 unfold QryL.val
 dsimp only
 obtain ⟨hbx, hbw, hsz⟩ := boxed w 32 #[.int .u32 gr, .slice af nf cf, .slice ac nc cc, .slice ao no co, .int .i64 lm]
 have HFL := Lib.hid (rflight_any _ af nf cf fq (h.1.below hbw (Nat.le_refl _)))
 have HBW := Lib.hid hbw
 have HK0 := Lib.hid (Blk.new w 32 #[.int .u32 gr, .slice af nf cf, .slice ac nc cc, .slice ao no co, .int .i64 lm])
 have e1 := hbx 1
 simp only [List.getElem?_toArray, List.getElem?_cons_zero, List.getElem?_cons_succ] at e1
 have HLT : Hid (w.heap.size ≤ (w.alloc (.cells #[.int .u32 gr, .slice af nf cf, .slice ac nc cc, .slice ao no co, .int .i64 lm] 32)).heap.size) := Lib.hid (by rw [hsz]; omega)
 clear h hbx hbw hsz
 go_enter Tryd.func5, Tryd.ntmps5
 go_upto_region 1 with fail
 generalize (w.alloc (.cells #[.int .u32 gr, .slice af nf cf, .slice ac nc cc, .slice ao no co, .int .i64 lm] 32)) = w0 at *
 obtain ⟨S, hS⟩ : ∃ S, w.heap.size = S := ⟨_, rfl⟩
 have HSS := Lib.hid hS
 rw [hS] at HBW HK0 HLT e1
 clear hS
 rw [HSS.out]
 go_wp2_with fail
 refine HFL.out.mono ?_
 rintro e w1 ⟨⟨b, rfl⟩, hb1⟩
 have HB1 := Lib.hid (HBW.out.trans (hb1.mono HLT.out))
 have HK1 := Lib.hid (HK0.out.below hb1 HK0.out.lt)
 clear hb1 e1 HFL
 have e2 : w1.cell? ⟨S, 2, none⟩ = some (.slice ac nc cc) := HK1.out.cell 2
 have e3 : w1.cell? ⟨S, 3, none⟩ = some (.slice ao no co) := HK1.out.cell 3
 rcases b with _ | _
 ·go_wp2_with fail
  go_ret
  exact ⟨⟨_, rfl⟩, by rw [HSS.out]; exact HB1.out⟩
 ·by_cases a1 : nc ≤ 30
  ·have t1 : decide ((nc : Int) ≤ 30) = true := decide_eq_true (by omega)
   go_wp2_with fail
   go_ret
   exact ⟨⟨_, rfl⟩, by rw [HSS.out]; exact HB1.out⟩
  ·have t1 : decide ((nc : Int) ≤ 30) = false := decide_eq_false (by omega)
   clear a1
   go_wp2_with fail
   go_ret
   exact ⟨⟨_, rfl⟩, by rw [HSS.out]; exact HB1.out⟩

end Go.Proofs.YtkojcamlllenkaaDoor
