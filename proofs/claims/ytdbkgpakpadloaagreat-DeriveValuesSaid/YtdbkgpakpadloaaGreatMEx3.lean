/- The chapter's examples of ratio: bushellaw04.awake. No conditions. -/
import Derived.Test.YtdbkgpakpadloaaGreatMRat2
import Derived.Test.YtdbkgpakpadloaaGreatMEx2
namespace Go.Proofs.YtdbkgpakpadloaaGreat
open Go.RowKit Ieee

end Go.Proofs.YtdbkgpakpadloaaGreat
/- Contract of package exact's Total; the chapter's examples. No conditions. -/
namespace Go.Proofs.YtdbkgpakpadloaaGreat
open Go.RowKit Ieee

end Go.Proofs.YtdbkgpakpadloaaGreat
/- Sums of at most 100 numbers hang on no order. No conditions. -/
namespace Go.Proofs.YtdbkgpakpadloaaGreat
open Go.RowKit Ieee

end Go.Proofs.YtdbkgpakpadloaaGreat
/- What package bushelref05's sums are as values; contract of its Value. Conditions: below 2^2240 units; units come with their flag. -/
namespace Go.Proofs.YtdbkgpakpadloaaGreat
open Go.RowKit Ieee

def fN (b : Nat) : Bool := decide (b % 2 = 1)
def fU (b : Nat) : Bool := decide (b / 2 % 2 = 1)
def fD (b : Nat) : Bool := decide (b / 4 % 2 = 1)
def fM (b : Nat) : Bool := decide (b / 8 % 2 = 1)
def fP (b : Nat) : Bool := decide (b / 16 % 2 = 1)
/-- a sum's cells in the reference -/
def rsCells (b : Nat) (ng : Bool) (a : Option Addr) (l c : Nat) : Array Value := #[.bool (fN b), .bool (fU b), .bool (fD b), .bool (fM b), .bool (fP b), .bool ng, .slice a l c]
/-- units come with their flag -/
def Plus (b : Nat) (z : Int) : Prop := z ≠ 0 → 16 ≤ b
theorem f0 {x : Nat} (h : decide (x % 2 = 1) = false) : x % 2 = 0 := by
 have := of_decide_eq_false h
 omega

set_option maxRecDepth 100000 in
set_option maxHeartbeats 8000000 in
theorem rsval_b (w : World) (b : Nat) (z : Int) (n u d m p ng : Bool) (a : Option Addr) (l c : Nat) (hN : NumC w ng a l c z) (hz : z.natAbs < ROOM) (hb : b < 32) (hpl : Plus b z) (hn : fN b = n) (hu : fU b = u) (hd : fD b = d) (hm : fM b = m) (hp : fP b = p) :
  Calls Tryz.prog 65 #[.agg #[.bool n, .bool u, .bool d, .bool m, .bool p, .bool ng, .slice a l c]] w (RVal b z w) := by
 have HI := Lib.hid (quo_zero (b := 0) (by decide) (by decide))
 unfold fN at hn
 unfold fU at hu
 unfold fD at hd
 unfold fM at hm
 unfold fP at hp
 cases n <;> cases u <;> cases d
 all_goals
  have HN := Lib.hid hn
  have HU := Lib.hid hu
  have HD := Lib.hid hd
  clear hn hu hd
 ·-- no flag
  have hsg := hN.sign
  have hlz := hN.abs.lenb
  have hbw : Below w.heap.size w (w.alloc (.cells #[.bool false, .bool false, .bool false, .bool m, .bool p, .bool ng, .slice a l c] 76)) := (Below.refl _ _).alloc (Nat.le_refl _) _
  have HB := Lib.hid hbw
  have HJ := Lib.hid (rjoin_any ng false a l c z.natAbs K2240 (-1074) (w.alloc (.cells #[.bool false, .bool false, .bool false, .bool m, .bool p, .bool ng, .slice a l c] 76)) (hN.abs.below hbw (Nat.le_refl _)) (by rw [← room_eq]; exact hz) (by decide))
  have HS0 := Lib.hid (fun ng w => rsign_sgn ng 0 w (by decide))
  rcases hlz with ⟨l1, z0, rfl⟩ | ⟨l1, z0⟩
  ·have hz0 : z = 0 := by omega
   subst hz0
   have hng : ng = false := hsg
   subst hng
   have hb8 : decide (b = 8) = (m && !p) := by
    rw [← hm, ← hp, Bool.eq_iff_iff]
    have h1 := f0 HN.out
    have h2 := f0 HU.out
    have h4 := f0 HD.out
    simp only [Bool.and_eq_true, Bool.not_eq_true', decide_eq_true_eq, decide_eq_false_iff_not]
    omega
   have H8 := Lib.hid hb8
   clear hbw hpl hz hb hN HI hm hp hb8 hsg HJ
   cases m
   all_goals
    go_enter Tryz.func65, Tryz.ntmps65
    go_wp2_with fail
    refine (HS0.out _ _).mono ?_; rintro e w1 ⟨rfl, rfl⟩
    go_wp2_with fail
    go_ret
    refine ⟨_, rfl, ⟨sgnW_lt (by decide), .inr (.inr (.inr ⟨f0 HN.out, f0 HU.out, f0 HD.out, ?_⟩))⟩, HB.out⟩
    rw [H8.out, join_sgn, show ((0 : Int)).natAbs = 0 from rfl, near_zero]
    rfl
  ·have hl : decide (0 < l) = true := by simp at l1 ⊢; omega
   have hpl2 := hpl (by omega)
   have h8 : decide (b = 8) = false := by simp; omega
   have H8 := Lib.hid h8
   have HSG := Lib.hid hsg
   clear hbw hpl hz hb hN HI hm hp hsg z0 hpl2 h8
   go_enter Tryz.func65, Tryz.ntmps65
   go_wp2_with fail
   refine HJ.out.mono ?_; rintro e w1 ⟨rfl, hb1⟩
   have HB1 := Lib.hid (HB.out.trans (hb1.mono HB.out.size))
   clear hb1
   go_wp2_with fail
   go_ret
   refine ⟨_, rfl, ⟨join_lt0 _ _ _, .inr (.inr (.inr ⟨f0 HN.out, f0 HU.out, f0 HD.out, ?_⟩))⟩, HB1.out⟩
   rw [H8.out, Bool.or_false, ← HSG.out]
 ·have hd2 := HI.out
  rw [if_neg (by decide)] at hd2
  have hdr := run_float_arith (P := Tryz.prog) (w.alloc (.cells #[.bool false, .bool false, .bool true, .bool m, .bool p, .bool ng, .slice a l c] 76)) .quo 38 .f64 _ _ _ hd2
  have hbw : Below w.heap.size w (w.alloc (.cells #[.bool false, .bool false, .bool true, .bool m, .bool p, .bool ng, .slice a l c] 76)) := (Below.refl _ _).alloc (Nat.le_refl _) _
  have HB := Lib.hid hbw
  have HS := Lib.hid (fun w => rsign_sgn true INF w (by decide))
  obtain ⟨qi, hqi⟩ : ∃ q : Nat, q = INF := ⟨_, rfl⟩
  rw [← hqi] at HS hdr
  have HQI := Lib.hid hqi
  clear hbw hd2 hm hp hpl hz hb hN HI hqi
  go_enter Tryz.func65, Tryz.ntmps65
  go_wp2_with fail
  refine (HS.out _).mono ?_; rintro e w1 ⟨rfl, rfl⟩
  go_wp2_with fail
  go_ret
  exact ⟨_, rfl, ⟨sgnW_lt (by rw [HQI.out]; decide), .inr (.inr (.inl ⟨f0 HN.out, f0 HU.out, of_decide_eq_true HD.out, by rw [HQI.out]; rfl⟩))⟩, HB.out⟩
 ·have hd2 := HI.out
  rw [if_neg (by decide)] at hd2
  have hdr := run_float_arith (P := Tryz.prog) (w.alloc (.cells #[.bool false, .bool true, .bool false, .bool m, .bool p, .bool ng, .slice a l c] 76)) .quo 38 .f64 _ _ _ hd2
  have hbw : Below w.heap.size w (w.alloc (.cells #[.bool false, .bool true, .bool false, .bool m, .bool p, .bool ng, .slice a l c] 76)) := (Below.refl _ _).alloc (Nat.le_refl _) _
  have HB := Lib.hid hbw
  have HS := Lib.hid (fun w => rsign_sgn false INF w (by decide))
  obtain ⟨qi, hqi⟩ : ∃ q : Nat, q = INF := ⟨_, rfl⟩
  rw [← hqi] at HS hdr
  have HQI := Lib.hid hqi
  clear hbw hd2 hm hp hpl hz hb hN HI hqi
  go_enter Tryz.func65, Tryz.ntmps65
  go_wp2_with fail
  refine (HS.out _).mono ?_; rintro e w1 ⟨rfl, rfl⟩
  go_wp2_with fail
  go_ret
  exact ⟨_, rfl, ⟨sgnW_lt (by rw [HQI.out]; decide), .inr (.inl ⟨f0 HN.out, of_decide_eq_true HU.out, f0 HD.out, by rw [HQI.out]; exact sgnW_no _⟩)⟩, HB.out⟩
 ·obtain ⟨r, hr0, hr1, hrun⟩ := run_float_nan .quo 38 0 0 (by decide) (by simp) (w.alloc (.cells #[.bool false, .bool true, .bool true, .bool m, .bool p, .bool ng, .slice a l c] 76))
  have hbw : Below w.heap.size w (w.alloc (.cells #[.bool false, .bool true, .bool true, .bool m, .bool p, .bool ng, .slice a l c] 76)) := (Below.refl _ _).alloc (Nat.le_refl _) _
  have HB := Lib.hid hbw.drew
  have R0 := Lib.hid hr0
  have R1 := Lib.hid hr1
  clear hbw hr0 hr1 hm hp hpl hz hb hN HI
  go_enter Tryz.func65, Tryz.ntmps65
  go_wp2_with fail
  go_ret
  exact ⟨r, rfl, ⟨R0.out, .inl (⟨.inr ⟨of_decide_eq_true HU.out, of_decide_eq_true HD.out⟩, R1.out⟩)⟩, HB.out⟩
 ·obtain ⟨r, hr0, hr1, hrun⟩ := run_float_nan .quo 38 0 0 (by decide) (by simp) (w.alloc (.cells #[.bool true, .bool false, .bool false, .bool m, .bool p, .bool ng, .slice a l c] 76))
  have hbw : Below w.heap.size w (w.alloc (.cells #[.bool true, .bool false, .bool false, .bool m, .bool p, .bool ng, .slice a l c] 76)) := (Below.refl _ _).alloc (Nat.le_refl _) _
  have HB := Lib.hid hbw.drew
  have R0 := Lib.hid hr0
  have R1 := Lib.hid hr1
  clear hbw hr0 hr1 hm hp hpl hz hb hN HI
  go_enter Tryz.func65, Tryz.ntmps65
  go_wp2_with fail
  go_ret
  exact ⟨r, rfl, ⟨R0.out, .inl (⟨.inl (of_decide_eq_true HN.out), R1.out⟩)⟩, HB.out⟩
 ·obtain ⟨r, hr0, hr1, hrun⟩ := run_float_nan .quo 38 0 0 (by decide) (by simp) (w.alloc (.cells #[.bool true, .bool false, .bool true, .bool m, .bool p, .bool ng, .slice a l c] 76))
  have hbw : Below w.heap.size w (w.alloc (.cells #[.bool true, .bool false, .bool true, .bool m, .bool p, .bool ng, .slice a l c] 76)) := (Below.refl _ _).alloc (Nat.le_refl _) _
  have HB := Lib.hid hbw.drew
  have R0 := Lib.hid hr0
  have R1 := Lib.hid hr1
  clear hbw hr0 hr1 hm hp hpl hz hb hN HI
  go_enter Tryz.func65, Tryz.ntmps65
  go_wp2_with fail
  go_ret
  exact ⟨r, rfl, ⟨R0.out, .inl (⟨.inl (of_decide_eq_true HN.out), R1.out⟩)⟩, HB.out⟩
 ·obtain ⟨r, hr0, hr1, hrun⟩ := run_float_nan .quo 38 0 0 (by decide) (by simp) (w.alloc (.cells #[.bool true, .bool true, .bool false, .bool m, .bool p, .bool ng, .slice a l c] 76))
  have hbw : Below w.heap.size w (w.alloc (.cells #[.bool true, .bool true, .bool false, .bool m, .bool p, .bool ng, .slice a l c] 76)) := (Below.refl _ _).alloc (Nat.le_refl _) _
  have HB := Lib.hid hbw.drew
  have R0 := Lib.hid hr0
  have R1 := Lib.hid hr1
  clear hbw hr0 hr1 hm hp hpl hz hb hN HI
  go_enter Tryz.func65, Tryz.ntmps65
  go_wp2_with fail
  go_ret
  exact ⟨r, rfl, ⟨R0.out, .inl (⟨.inl (of_decide_eq_true HN.out), R1.out⟩)⟩, HB.out⟩
 ·obtain ⟨r, hr0, hr1, hrun⟩ := run_float_nan .quo 38 0 0 (by decide) (by simp) (w.alloc (.cells #[.bool true, .bool true, .bool true, .bool m, .bool p, .bool ng, .slice a l c] 76))
  have hbw : Below w.heap.size w (w.alloc (.cells #[.bool true, .bool true, .bool true, .bool m, .bool p, .bool ng, .slice a l c] 76)) := (Below.refl _ _).alloc (Nat.le_refl _) _
  have HB := Lib.hid hbw.drew
  have R0 := Lib.hid hr0
  have R1 := Lib.hid hr1
  clear hbw hr0 hr1 hm hp hpl hz hb hN HI
  go_enter Tryz.func65, Tryz.ntmps65
  go_wp2_with fail
  go_ret
  exact ⟨r, rfl, ⟨R0.out, .inl (⟨.inl (of_decide_eq_true HN.out), R1.out⟩)⟩, HB.out⟩
theorem rsval_any (w : World) (b : Nat) (z : Int) (ng : Bool) (a : Option Addr) (l c : Nat) (hN : NumC w ng a l c z) (hz : z.natAbs < ROOM) (hb : b < 32) (hp : Plus b z) :
  Calls Tryz.prog 65 #[.agg (rsCells b ng a l c)] w (RVal b z w) :=
 rsval_b w b z _ _ _ _ _ ng a l c hN hz hb hp rfl rfl rfl rfl rfl
end Go.Proofs.YtdbkgpakpadloaaGreat
