/- The reference's reading (package bushelref36): dim. Conditions: those stated. -/
import Derived.Test.YtaofjnidniekjaaParRd
import Derived.Test.YtaofjnidniekjaaParF
namespace Go.Proofs.Ytaofjnidniekjaa
open Go.RowKit

set_option maxRecDepth 100000 in
set_option maxHeartbeats 1000000 in
theorem vdim_any (X : RX) (m : QryL) (p : PState) (w : World) (hX : X.At w) (hi : p.at' < X.L.length) :
    Calls Try.prog 80 #[StV X m p] w (RStN X m ((placeR (dimN X.s) X.L p).1, ((placeR (dimN X.s) X.L p).2 : Int)) w) := by
  have HP : Hid (∀ (w' : World) (ya : Option Addr) (yn yc : Nat), Below w.heap.size w w' → RowS w' ya yn yc (dimN X.s) → Calls Try.prog 79 #[StV X m p, .slice ya yn yc] w' (RStN X m ((placeR (dimN X.s) X.L p).1, ((placeR (dimN X.s) X.L p).2 : Int)) w')) := Lib.hid (fun w' ya yn yc hb hy => vplace_any X m p w' (hX.below hb (Nat.le_refl _)) hi ya yn yc _ hy)
  have HD : Hid (∀ w', Below w.heap.size w w' → RowG 2 w' X.l.ad X.l.nd X.l.cd (dimCells X.s.dims)) := Lib.hid (fun w' hb => hX.sch.1.below hb (Nat.le_refl _))
  have HLN : Hid (X.s.dims.length = X.l.nd) := Lib.hid hX.sch.2.1
  have hnd : X.l.nd ≤ 6 := by have := (chk_dims hX.chk).1; rw [HLN.out] at this; exact this
  clear hX hi
  unfold RStN at *
  obtain ⟨⟨p1, pn⟩, hp1⟩ : ∃ x, placeR (dimN X.s) X.L p = x := ⟨_, rfl⟩
  rw [hp1] at HP ⊢
  clear hp1
  unfold StV at *
  obtain ⟨⟨ad, nd, cd, ai, ni, ci, an, nn, cn, av, nv, cv⟩, s, ta, tc, L⟩ := X
  obtain ⟨af, nf, cf, ac, nc, cc, ao, no, co⟩ := m
  obtain ⟨i, ⟨g, fq, cq, oq, lm⟩, er⟩ := p
  (try dsimp only at *)
  obtain ⟨W0, hW0⟩ : ∃ W0, ((w.alloc (.cells #[.slice ad nd cd, .slice ai ni ci, .slice an nn cn, .slice av nv cv, .slice ta L.length tc, .int .i64 (i : Int), .int .u32 g, .slice af nf cf, .slice ac nc cc, .slice ao no co, .int .i64 lm, .int .i64 (er : Int)] 82)).alloc (.cells #[.slice none 0 0, .slice none 0 0, .slice none 0 0, .slice none 0 0, .slice none 0 0, .int .i64 0, .int .u32 0, .slice none 0 0, .slice none 0 0, .slice none 0 0, .int .i64 0, .int .i64 0] 82)) = W0 := ⟨_, rfl⟩
  have HB0 : Hid (Below w.heap.size w W0) := Lib.hid (by
    rw [← hW0]
    exact (((Below.refl _ _).alloc (Nat.le_refl _) _).alloc (by simp) _))
  have HZ0 : Hid (W0.heap.size = w.heap.size + 2) := Lib.hid (by rw [← hW0]; simp)
  have HK0 : Hid (Blk W0 (w.heap.size) 82 #[.slice ad nd cd, .slice ai ni ci, .slice an nn cn, .slice av nv cv, .slice ta L.length tc, .int .i64 (i : Int), .int .u32 g, .slice af nf cf, .slice ac nc cc, .slice ao no co, .int .i64 lm, .int .i64 (er : Int)]) := Lib.hid (by
    rw [← hW0]
    have h := Blk.new w 82 #[.slice ad nd cd, .slice ai ni ci, .slice an nn cn, .slice av nv cv, .slice ta L.length tc, .int .i64 (i : Int), .int .u32 g, .slice af nf cf, .slice ac nc cc, .slice ao no co, .int .i64 lm, .int .i64 (er : Int)]
    exact h.alloc _)
  have HK1 : Hid (Blk W0 (w.heap.size + 1) 82 #[.slice none 0 0, .slice none 0 0, .slice none 0 0, .slice none 0 0, .slice none 0 0, .int .i64 0, .int .u32 0, .slice none 0 0, .slice none 0 0, .slice none 0 0, .int .i64 0, .int .i64 0]) := Lib.hid (by
    rw [← hW0]
    have h := Blk.new (w.alloc (.cells #[.slice ad nd cd, .slice ai ni ci, .slice an nn cn, .slice av nv cv, .slice ta L.length tc, .int .i64 (i : Int), .int .u32 g, .slice af nf cf, .slice ac nc cc, .slice ao no co, .int .i64 lm, .int .i64 (er : Int)] 82)) 82 #[.slice none 0 0, .slice none 0 0, .slice none 0 0, .slice none 0 0, .slice none 0 0, .int .i64 0, .int .u32 0, .slice none 0 0, .slice none 0 0, .slice none 0 0, .int .i64 0, .int .i64 0]
    rw [World.size_alloc] at h
    exact h)
  (try unfold StV)
  (try dsimp only)
  go_enter Try.func80, Try.ntmps80
  go_upto_region 1 with fail
  clear hW0
  generalize hS : w.heap.size = S at *
  have HSW := Lib.hid hS
  clear hS
  have c0 : W0.cell? ⟨S, 0, none⟩ = some (.slice ad nd cd) := HK0.out.cell 0
  go_wp2_with fail
  go_loopg [4, 5] nd (fun q v iu wr => ∃ (j : Nat), iu = .int .i64 j ∧ j + q = nd ∧ wr.ownsRow (S + 2) 9 1 v j (((dimN s).take j).map Value.string) ∧ Below (S + 2) W0 wr)
  case atStart => exact ⟨0, rfl, by omega, World.ownsRow_nil _ _ _ _, Below.refl _ _⟩
  case round =>
    obtain ⟨j, rfl, hq, hown, hb⟩ := hrel
    have HQ := Lib.hid hq
    have HOW := Lib.hid hown
    have HB := Lib.hid hb
    have HBW := Lib.hid (HB0.out.trans (hb.mono (show S ≤ S + 2 by omega)))
    have hsz : S + 2 ≤ wr.heap.size := by have := hb.size; have := HZ0.out; omega
    have c0 : wr.cell? ⟨S, 0, none⟩ = some (.slice ad nd cd) := (HK0.out.below HB.out (by omega)).cell 0
    clear hq hown hb
    by_cases hlt : j < nd
    · obtain ⟨b, off, e, hbl, hc⟩ := (HD.out wr HBW.out).at (by show 0 < nd; omega)
      (try simp only at e)
      subst e
      have hlen : s.dims.length = nd := HLN.out
      have d0 := hc (j * 2) (by show j * 2 < nd * 2; omega)
      obtain ⟨g0, -⟩ := dimCells_get (ds := s.dims) (i := j) (by omega)
      rw [g0] at d0
      have HT := Lib.hid (dim_take (ds := s.dims) (i := j) (by omega))
      obtain ⟨nm, hnm⟩ : ∃ x, (dimAt s.dims j).1 = x := ⟨_, rfl⟩
      rw [hnm] at d0 HT
      obtain ⟨L0, hL0⟩ : ∃ L, ((s.dims.map (·.1)).take j).map Value.string = L := ⟨_, rfl⟩
      have hown : wr.ownsRow (S + 2) 9 1 u4 j (((s.dims.map (·.1)).take j).map Value.string) := HOW.out
      rw [hL0] at hown HT
      have HOW1 := Lib.hid hown
      clear hc g0 hnm hlen hown hL0 HOW
      go_wp2_with (at_builtin; refine wpList_append_oneG (z := .string ByteArray.empty) (sz := 1) (bytes := 16) info_string rfl (by decide) Try.underlying35 rfl _ _ rfl wr _ #[.string nm] (S + 2) u4 j L0 wr.heap.size rfl rfl rfl rfl HOW1.out (fun u hu => by simp at hu; subst hu; rfl) (by omega) (by unfold maxLen; omega) hsz ?_)
      intro v' w' h2 h3 h4
      have HOW2 : Hid (w'.ownsRow (S + 2) 9 1 v' (j + 1) (((dimN s).take (j + 1)).map Value.string)) := Lib.hid (by unfold dimN; rw [HT.out]; exact h2)
      have HB2 := Lib.hid (h4 W0 HB.out)
      clear h2 h3 h4 d0 c0
      go_wp2_with fail
      go_roundg (nd - j - 1)
      case measure => have := HQ.out; omega
      case rel => exact ⟨j + 1, by go_num, by have := HQ.out; omega, HOW2.out, HB2.out⟩
    · obtain rfl : j = nd := by have := HQ.out; omega
      have hlen : s.dims.length = j := HLN.out
      have hown := HOW.out
      rw [List.take_of_length_le (by unfold dimN; rw [List.length_map, hlen]; exact Nat.le_refl _)] at hown
      obtain ⟨ya, yc, rfl⟩ := own_form hown
      have HRS := Lib.hid (RowS.of_g (RowG.of_own hown))
      have HKA := Lib.hid (HK0.out.below HB.out (by omega))
      have HKB := Lib.hid (HK1.out.below HB.out (by omega))
      clear hown hlen HOW c0
      have c0 : wr.cell? ⟨S, 0, none⟩ = some (.slice ad j cd) := HKA.out.cell 0
      have c1 : wr.cell? ⟨S, 1, none⟩ = some (.slice ai ni ci) := HKA.out.cell 1
      have c2 : wr.cell? ⟨S, 2, none⟩ = some (.slice an nn cn) := HKA.out.cell 2
      have c3 : wr.cell? ⟨S, 3, none⟩ = some (.slice av nv cv) := HKA.out.cell 3
      have c4 : wr.cell? ⟨S, 4, none⟩ = some (.slice ta L.length tc) := HKA.out.cell 4
      have c5 : wr.cell? ⟨S, 5, none⟩ = some (.int .i64 (i : Int)) := HKA.out.cell 5
      have c6 : wr.cell? ⟨S, 6, none⟩ = some (.int .u32 g) := HKA.out.cell 6
      have c7 : wr.cell? ⟨S, 7, none⟩ = some (.slice af nf cf) := HKA.out.cell 7
      have c8 : wr.cell? ⟨S, 8, none⟩ = some (.slice ac nc cc) := HKA.out.cell 8
      have c9 : wr.cell? ⟨S, 9, none⟩ = some (.slice ao no co) := HKA.out.cell 9
      have c10 : wr.cell? ⟨S, 10, none⟩ = some (.int .i64 lm) := HKA.out.cell 10
      have c11 : wr.cell? ⟨S, 11, none⟩ = some (.int .i64 (er : Int)) := HKA.out.cell 11
      go_wp2_with fail
      refine (HP.out wr ya j yc HBW.out HRS.out).mono ?_; rintro e w2 ⟨rfl, hb2⟩
      have HB2 := Lib.hid (HBW.out.trans (hb2.mono (by omega)))
      have HKC := Lib.hid (HKB.out.below hb2 HKB.out.lt)
      clear hb2
      clear c0 c1 c2 c3 c4 c5 c6 c7 c8 c9 c10 c11
      have d0 : w2.cell? ⟨S + 1, 0, none⟩ = some (.slice none 0 0) := HKC.out.cell 0
      have d1 : w2.cell? ⟨S + 1, 1, none⟩ = some (.slice none 0 0) := HKC.out.cell 1
      have d2 : w2.cell? ⟨S + 1, 2, none⟩ = some (.slice none 0 0) := HKC.out.cell 2
      have d3 : w2.cell? ⟨S + 1, 3, none⟩ = some (.slice none 0 0) := HKC.out.cell 3
      have d4 : w2.cell? ⟨S + 1, 4, none⟩ = some (.slice none 0 0) := HKC.out.cell 4
      have d5 : w2.cell? ⟨S + 1, 5, none⟩ = some (.int .i64 0) := HKC.out.cell 5
      have d6 : w2.cell? ⟨S + 1, 6, none⟩ = some (.int .u32 0) := HKC.out.cell 6
      have d7 : w2.cell? ⟨S + 1, 7, none⟩ = some (.slice none 0 0) := HKC.out.cell 7
      have d8 : w2.cell? ⟨S + 1, 8, none⟩ = some (.slice none 0 0) := HKC.out.cell 8
      have d9 : w2.cell? ⟨S + 1, 9, none⟩ = some (.slice none 0 0) := HKC.out.cell 9
      have d10 : w2.cell? ⟨S + 1, 10, none⟩ = some (.int .i64 0) := HKC.out.cell 10
      have d11 : w2.cell? ⟨S + 1, 11, none⟩ = some (.int .i64 0) := HKC.out.cell 11
      have fzd : ∀ o, w2.frozen? ⟨S + 1, o, none⟩ = false := fun o => HKC.out.frozen o
      go_wp2_with fail
      have HKF := Lib.hid (blk_st12 (HKC.out) (.slice ad j cd) (.slice ai ni ci) (.slice an nn cn) (.slice av nv cv) (.slice ta L.length tc) (.int .i64 (p1.at' : Int)) (.int .u32 p1.q.group) (.slice af nf cf) (.slice ac nc cc) (.slice ao no co) (.int .i64 p1.q.limit) (.int .i64 (p1.err : Int)))
      have HBF := Lib.hid (below_st12 (HB2.out) (b := S + 1) (by have := HSW.out; omega) (.slice ad j cd) (.slice ai ni ci) (.slice an nn cn) (.slice av nv cv) (.slice ta L.length tc) (.int .i64 (p1.at' : Int)) (.int .u32 p1.q.group) (.slice af nf cf) (.slice ac nc cc) (.slice ao no co) (.int .i64 p1.q.limit) (.int .i64 (p1.err : Int)))
      generalize ((((((((((((w2.setCell ⟨S + 1, 0, none⟩ (.slice ad j cd)).setCell ⟨S + 1, 1, none⟩ (.slice ai ni ci)).setCell ⟨S + 1, 2, none⟩ (.slice an nn cn)).setCell ⟨S + 1, 3, none⟩ (.slice av nv cv)).setCell ⟨S + 1, 4, none⟩ (.slice ta L.length tc)).setCell ⟨S + 1, 5, none⟩ (.int .i64 (p1.at' : Int))).setCell ⟨S + 1, 6, none⟩ (.int .u32 p1.q.group)).setCell ⟨S + 1, 7, none⟩ (.slice af nf cf)).setCell ⟨S + 1, 8, none⟩ (.slice ac nc cc)).setCell ⟨S + 1, 9, none⟩ (.slice ao no co)).setCell ⟨S + 1, 10, none⟩ (.int .i64 p1.q.limit)).setCell ⟨S + 1, 11, none⟩ (.int .i64 (p1.err : Int))) = Wf at *
      have z0 : Wf.cell? ⟨S + 1, 0, none⟩ = some (.slice ad j cd) := HKF.out.cell 0
      have z1 : Wf.cell? ⟨S + 1, 1, none⟩ = some (.slice ai ni ci) := HKF.out.cell 1
      have z2 : Wf.cell? ⟨S + 1, 2, none⟩ = some (.slice an nn cn) := HKF.out.cell 2
      have z3 : Wf.cell? ⟨S + 1, 3, none⟩ = some (.slice av nv cv) := HKF.out.cell 3
      have z4 : Wf.cell? ⟨S + 1, 4, none⟩ = some (.slice ta L.length tc) := HKF.out.cell 4
      have z5 : Wf.cell? ⟨S + 1, 5, none⟩ = some (.int .i64 (p1.at' : Int)) := HKF.out.cell 5
      have z6 : Wf.cell? ⟨S + 1, 6, none⟩ = some (.int .u32 p1.q.group) := HKF.out.cell 6
      have z7 : Wf.cell? ⟨S + 1, 7, none⟩ = some (.slice af nf cf) := HKF.out.cell 7
      have z8 : Wf.cell? ⟨S + 1, 8, none⟩ = some (.slice ac nc cc) := HKF.out.cell 8
      have z9 : Wf.cell? ⟨S + 1, 9, none⟩ = some (.slice ao no co) := HKF.out.cell 9
      have z10 : Wf.cell? ⟨S + 1, 10, none⟩ = some (.int .i64 p1.q.limit) := HKF.out.cell 10
      have z11 : Wf.cell? ⟨S + 1, 11, none⟩ = some (.int .i64 (p1.err : Int)) := HKF.out.cell 11
      refine bodyPost_ret (v := .tuple #[.agg #[.slice ad j cd, .slice ai ni ci, .slice an nn cn, .slice av nv cv, .slice ta L.length tc, .int .i64 (p1.at' : Int), .int .u32 p1.q.group, .slice af nf cf, .slice ac nc cc, .slice ao no co, .int .i64 p1.q.limit, .int .i64 (p1.err : Int)], .int .i64 (pn : Int)]) (by simp [results, Try.results80, go_sem, z0, z1, z2, z3, z4, z5, z6, z7, z8, z9, z10, z11]) rfl ?_
      exact ⟨rfl, by rw [HSW.out]; exact HBF.out⟩
end Go.Proofs.Ytaofjnidniekjaa
