/- The reference's reading (package bushelref36): col. Conditions: those stated. -/
import Derived.Test.YtaofjnidniekjaaParRg
import Derived.Test.YtaofjnidniekjaaMReg
import Derived.StillTailTactics
namespace Go.Proofs.Ytaofjnidniekjaa
open Go.RowKit

theorem own_none1 (w : World) (e : TypeId) (N : Nat) (h : N ≤ w.heap.size) : (w.alloc (.cells #[] e)).ownsRow N e 1 (.slice (some ⟨w.heap.size, 0, none⟩) 0 0) 0 [] :=
  ⟨rfl, .inr ⟨w.heap.size, 0, #[], rfl, h, heap_alloc_new w _, Nat.le_refl _, Nat.zero_le _, rfl, rfl⟩⟩
theorem col_qry {w : World} {af ac ao ra : Option Addr} {nf cf nc cc no co rc : Nat} {q : QP} {fl : List Flt} (h : QryAt w ⟨af, nf, cf, ac, nc, cc, ao, no, co⟩ (q.at' fl)) {x : Int × Int} (hx : I64 x.1 ∧ I64 x.2) (hr : RowG 2 w ra (nc + 1) rc (colCells (q.cols ++ [x]))) : QryAt w ⟨af, nf, cf, ra, nc + 1, rc, ao, no, co⟩ (({ q with cols := q.cols ++ [x] } : QP).at' fl) :=
  ⟨h.1, hr, by have := h.2.2.1; show (q.cols ++ [x]).length = nc + 1; rw [List.length_append]; exact congrArg (· + 1) this, h.2.2.2.1, h.2.2.2.2.1, h.2.2.2.2.2.1, h.2.2.2.2.2.2.1, fun c hc => by
    rcases List.mem_append.1 hc with hc | hc
    · exact h.2.2.2.2.2.2.2.1 c hc
    · rw [List.mem_singleton.1 hc]; exact hx, h.2.2.2.2.2.2.2.2⟩

set_option maxRecDepth 100000 in
set_option maxHeartbeats 4000000 in
theorem vcol_any (X : RX) (m : QryL) (fl : List Flt) (p : PState) (G : Nat → Prop) (w : World) (hX : X.At w) (hpG : StG G X m fl p w) :
    Calls Try.prog 74 #[StV X m p] w (RStO X (colR (measN X.s) X.L p) G w) := by
  have hp := hpG.here
  have HSG := Lib.hid hpG
  clear hpG
  have hmany := hX.good.many
  have HG := Lib.hid hX.good
  have HCH := Lib.hid hX.chk
  have HIS := Lib.hid (fun (w' : World) (hb : Below w.heap.size w w') (u : ByteArray) (b : Bool) (hb' : isR X.L p u.data.toList = b) => vis_any X m p w' (hX.below hb (Nat.le_refl _)) hp.at' u b hb')
  have HON := Lib.hid (fun (w' : World) => von_any X m p w' (by have := hp.at'; omega))
  have HFA := Lib.hid (fun (w' : World) => vfail_any X m p w' 6)
  have HWA := Lib.hid (fun (hn : (onR p).at' < X.L.length) (w' : World) (hb : Below w.heap.size w w') => vwant_any X m (onR p) w' (hX.below hb (Nat.le_refl _)) hn ⟨#[40]⟩ [40] rfl)
  have HWN := Lib.hid (fun (hn : (onR p).at' < X.L.length) => want_at hX.good (t := [40]) hn)
  have HPL := Lib.hid (fun (p1 : PState) (hn : p1.at' < X.L.length) (w' : World) (ya : Option Addr) (yn yc : Nat) (hb : Below w.heap.size w w') (hy : RowS w' ya yn yc (measN X.s)) => vplace_any X m p1 w' (hX.below hb (Nat.le_refl _)) hn ya yn yc _ hy)
  have HPN := Lib.hid (fun (p1 : PState) (hn : p1.at' < X.L.length) => place_at hX.good (measN X.s) hn)
  have HWB := Lib.hid (fun (p1 : PState) (hn : p1.at' < X.L.length) (w' : World) (hb : Below w.heap.size w w') => vwant_any X m p1 w' (hX.below hb (Nat.le_refl _)) hn ⟨#[41]⟩ [41] rfl)
  have HWM := Lib.hid (fun (p1 : PState) (hn : p1.at' < X.L.length) => want_at hX.good (t := [41]) hn)
  have HIR := Lib.hid (fun (w' : World) (hb : Below w.heap.size w w') => (hX.sch.2.2.1.below hb (Nat.le_refl _)).g)
  have HNR := Lib.hid (fun (w' : World) (hb : Below w.heap.size w w') => (hX.sch.2.2.2.1.below hb (Nat.le_refl _)).g)
  have HML := Lib.hid (meas_few hX.chk)
  have hni : X.l.ni ≤ 3 := by have h1 := (chk_dims hX.chk).2.2.1; have h2 : X.s.ints.length = X.l.ni := hX.sch.2.2.1.1; omega
  have hnn : X.l.nn ≤ 2 := by have h1 := (chk_dims hX.chk).2.2.2; have h2 : X.s.nums.length = X.l.nn := hX.sch.2.2.2.1.1; omega
  have HST := Lib.hid hp
  obtain ⟨r, hr⟩ : ∃ x, colR (measN X.s) X.L p = x := ⟨_, rfl⟩
  rw [hr]
  have HCR := Lib.hid hr
  clear hr hX hp
  unfold RSt RStN at *
  unfold onR at HON HWA HWN
  unfold StV at *
  obtain ⟨⟨ad, nd, cd, ai, ni, ci, an, nn, cn, av, nv, cv⟩, s, ta, tc, L⟩ := X
  obtain ⟨af, nf, cf, ac, nc, cc, ao, no, co⟩ := m
  obtain ⟨i, ⟨g, fq, cq, oq, lm⟩, er⟩ := p
  (try dsimp only at *)
  obtain ⟨W0, hW0⟩ : ∃ W0, ((w.alloc (.cells #[.slice ad nd cd, .slice ai ni ci, .slice an nn cn, .slice av nv cv, .slice ta L.length tc, .int .i64 (i : Int), .int .u32 g, .slice af nf cf, .slice ac nc cc, .slice ao no co, .int .i64 lm, .int .i64 (er : Int)] 82)).alloc (.cells #[.slice none 0 0, .slice none 0 0, .slice none 0 0, .slice none 0 0, .slice none 0 0, .int .i64 0, .int .u32 0, .slice none 0 0, .slice none 0 0, .slice none 0 0, .int .i64 0, .int .i64 0] 82)) = W0 := ⟨_, rfl⟩
  have HB0 : Hid (Below w.heap.size w W0) := Lib.hid (by
    rw [← hW0]
    exact (((Below.refl _ _).alloc (Nat.le_refl _) _).alloc (by simp) _))
  have HZ0 : Hid (W0.heap.size = w.heap.size + 2) := Lib.hid (by rw [← hW0]; simp)
  have HK0 : Hid (Blk W0 (w.heap.size) 82 #[.slice ad nd cd, .slice ai ni ci, .slice an nn cn, .slice av nv cv, .slice ta L.length tc, .int .i64 (i : Int), .int .u32 g, .slice af nf cf, .slice ac nc cc, .slice ao no co, .int .i64 lm, .int .i64 (er : Int)]) := Lib.hid (by
    rw [← hW0]
    have h := Blk.new w 82 #[.slice ad nd cd, .slice ai ni ci, .slice an nn cn, .slice av nv cv, .slice ta L.length tc, .int .i64 (i : Int), .int .u32 g, .slice af nf cf, .slice ac nc cc, .slice ao no co, .int .i64 lm, .int .i64 (er : Int)]
    exact h.alloc _)
  have HK1 : Hid (Blk W0 (w.heap.size + 1) 82 #[.slice none 0 0, .slice none 0 0, .slice none 0 0, .slice none 0 0, .slice none 0 0, .int .i64 0, .int .u32 0, .slice none 0 0, .slice none 0 0, .slice none 0 0, .int .i64 0, .int .i64 0]) := Lib.hid (by
    rw [← hW0]
    have h := Blk.new (w.alloc (.cells #[.slice ad nd cd, .slice ai ni ci, .slice an nn cn, .slice av nv cv, .slice ta L.length tc, .int .i64 (i : Int), .int .u32 g, .slice af nf cf, .slice ac nc cc, .slice ao no co, .int .i64 lm, .int .i64 (er : Int)] 82)) 82 #[.slice none 0 0, .slice none 0 0, .slice none 0 0, .slice none 0 0, .slice none 0 0, .int .i64 0, .int .u32 0, .slice none 0 0, .slice none 0 0, .slice none 0 0, .int .i64 0, .int .i64 0]
    rw [World.size_alloc] at h
    exact h)
  (try unfold StV)
  (try dsimp only)
  go_enter Try.func74, Try.ntmps74
  go_upto_region 1 with fail
  clear hW0
  generalize hS : w.heap.size = S at *
  have HSW := Lib.hid hS
  clear hS
  go_wp2_with fail
  have HKA0 := Lib.hid (HK0.out.alloc (.cells #[.string ⟨#[99, 111, 117, 110, 116]⟩, .string ⟨#[115, 117, 109]⟩, .string ⟨#[109, 105, 110]⟩, .string ⟨#[109, 97, 120]⟩, .string ⟨#[109, 101, 97, 110]⟩, .string ⟨#[100, 101, 118]⟩, .string ⟨#[115, 104, 97, 114, 101]⟩] 9))
  have HKB0 := Lib.hid (HK1.out.alloc (.cells #[.string ⟨#[99, 111, 117, 110, 116]⟩, .string ⟨#[115, 117, 109]⟩, .string ⟨#[109, 105, 110]⟩, .string ⟨#[109, 97, 120]⟩, .string ⟨#[109, 101, 97, 110]⟩, .string ⟨#[100, 101, 118]⟩, .string ⟨#[115, 104, 97, 114, 101]⟩] 9))
  have HKL0 := Lib.hid (Blk.new W0 9 #[.string ⟨#[99, 111, 117, 110, 116]⟩, .string ⟨#[115, 117, 109]⟩, .string ⟨#[109, 105, 110]⟩, .string ⟨#[109, 97, 120]⟩, .string ⟨#[109, 101, 97, 110]⟩, .string ⟨#[100, 101, 118]⟩, .string ⟨#[115, 104, 97, 114, 101]⟩])
  have HBL0 := Lib.hid (HB0.out.alloc (by have := HZ0.out; omega) (.cells #[.string ⟨#[99, 111, 117, 110, 116]⟩, .string ⟨#[115, 117, 109]⟩, .string ⟨#[109, 105, 110]⟩, .string ⟨#[109, 97, 120]⟩, .string ⟨#[109, 101, 97, 110]⟩, .string ⟨#[100, 101, 118]⟩, .string ⟨#[115, 104, 97, 114, 101]⟩] 9))
  generalize W0.alloc (.cells #[.string ⟨#[99, 111, 117, 110, 116]⟩, .string ⟨#[115, 117, 109]⟩, .string ⟨#[109, 105, 110]⟩, .string ⟨#[109, 97, 120]⟩, .string ⟨#[109, 101, 97, 110]⟩, .string ⟨#[100, 101, 118]⟩, .string ⟨#[115, 104, 97, 114, 101]⟩] 9) = w0 at *
  have HLS : Hid (S + 1 < W0.heap.size) := Lib.hid (by have := HZ0.out; omega)
  generalize W0.heap.size = SL at *
  go_loopg [4] 7 (fun q ku wr => ∃ (k : Nat), ku = .int .i64 k ∧ k + q = 7 ∧ (er = 0 → kindAt L i (aggW.drop k) k = kindAt L i aggW 0) ∧ Blk wr S 82 #[.slice ad nd cd, .slice ai ni ci, .slice an nn cn, .slice av nv cv, .slice ta L.length tc, .int .i64 (i : Int), .int .u32 g, .slice af nf cf, .slice ac nc cc, .slice ao no co, .int .i64 lm, .int .i64 (er : Int)] ∧ Blk wr (S + 1) 82 #[.slice none 0 0, .slice none 0 0, .slice none 0 0, .slice none 0 0, .slice none 0 0, .int .i64 0, .int .u32 0, .slice none 0 0, .slice none 0 0, .slice none 0 0, .int .i64 0, .int .i64 0] ∧ Blk wr SL 9 #[.string ⟨#[99, 111, 117, 110, 116]⟩, .string ⟨#[115, 117, 109]⟩, .string ⟨#[109, 105, 110]⟩, .string ⟨#[109, 97, 120]⟩, .string ⟨#[109, 101, 97, 110]⟩, .string ⟨#[100, 101, 118]⟩, .string ⟨#[115, 104, 97, 114, 101]⟩] ∧ Below S w wr)
  case atStart => exact ⟨0, rfl, rfl, fun _ => rfl, HKA0.out, HKB0.out, HKL0.out, HBL0.out⟩
  case round =>
    obtain ⟨k, rfl, hq, hka, hk0, hk1, hkl, hb⟩ := hrel
    have HQ := Lib.hid hq
    have HKA := Lib.hid hka
    have HKS := Lib.hid hk0
    have HKB := Lib.hid hk1
    have HKL := Lib.hid hkl
    have HB := Lib.hid hb
    clear hq hka hk0 hk1 hkl hb HKA0 HKB0 HKL0 HBL0
    by_cases hlt : k < 7
    · obtain ⟨u, hu, hd⟩ := kind_drop hlt
      have c0 : wr.cell? ⟨SL, k, none⟩ = some (.string u) := by rw [Blk.cell HKL.out]; exact hu
      have HDR := Lib.hid hd
      obtain ⟨b, hb⟩ : ∃ b, isR L ⟨i, ⟨g, fq, cq, oq, lm⟩, er⟩ u.data.toList = b := ⟨_, rfl⟩
      have HBW := Lib.hid hb
      have HII := Lib.hid (HIS.out wr.drew (HB.out.drew) u b hb)
      have hg1 : 1 ≤ gk := by have := HQ.out; omega
      have i0 : (0 : Int) ≤ (k : Int) ∧ (k : Int) < 7 := by omega
      clear hu hd hb
      have d0 : wr.cell? ⟨S, 0, none⟩ = some (.slice ad nd cd) := HKS.out.cell 0
      have d1 : wr.cell? ⟨S, 1, none⟩ = some (.slice ai ni ci) := HKS.out.cell 1
      have d2 : wr.cell? ⟨S, 2, none⟩ = some (.slice an nn cn) := HKS.out.cell 2
      have d3 : wr.cell? ⟨S, 3, none⟩ = some (.slice av nv cv) := HKS.out.cell 3
      have d4 : wr.cell? ⟨S, 4, none⟩ = some (.slice ta L.length tc) := HKS.out.cell 4
      have d5 : wr.cell? ⟨S, 5, none⟩ = some (.int .i64 (i : Int)) := HKS.out.cell 5
      have d6 : wr.cell? ⟨S, 6, none⟩ = some (.int .u32 g) := HKS.out.cell 6
      have d7 : wr.cell? ⟨S, 7, none⟩ = some (.slice af nf cf) := HKS.out.cell 7
      have d8 : wr.cell? ⟨S, 8, none⟩ = some (.slice ac nc cc) := HKS.out.cell 8
      have d9 : wr.cell? ⟨S, 9, none⟩ = some (.slice ao no co) := HKS.out.cell 9
      have d10 : wr.cell? ⟨S, 10, none⟩ = some (.int .i64 lm) := HKS.out.cell 10
      have d11 : wr.cell? ⟨S, 11, none⟩ = some (.int .i64 (er : Int)) := HKS.out.cell 11
      go_upto_region 5 with fail
      go_still_tail 5, (by kernel_rfl)
      change wpList _ _ _ _ _ wr.drew
      clear d0 d1 d2 d3 d4 d5 d6 d7 d8 d9 d10 d11
      clear c0 i0
      go_wp2_with fail
      refine HII.out.mono ?_; rintro e w1 ⟨rfl, hb1⟩
      have HB1 := Lib.hid (HB.out.drew.trans (hb1.mono (by have := HKS.out.lt; show S ≤ wr.heap.size; omega)))
      have HKS1 := Lib.hid (HKS.out.drew.below hb1 HKS.out.lt)
      have HKB1 := Lib.hid (HKB.out.drew.below hb1 HKB.out.lt)
      have HKL1 := Lib.hid (HKL.out.drew.below hb1 HKL.out.lt)
      clear hb1 HII
      rcases b with _ | _
      · have HKN : Hid (er = 0 → kindAt L i (aggW.drop (k + 1)) (k + 1) = kindAt L i aggW 0) := Lib.hid (fun he => by
          rw [← HKA.out he, HDR.out]
          have hw : wordAt L i u.data.toList = false := by
            have h := HBW.out
            unfold isR at h
            subst he
            exact h
          show _ = if wordAt L i u.data.toList then _ else _
          rw [hw]; rfl)
        go_wp2_with fail
        go_roundg (gk - 1)
        case measure => omega
        case rel => exact ⟨k + 1, by go_num, by have := HQ.out; omega, HKN.out, HKS1.out, HKB1.out, HKL1.out, HB1.out⟩
      · have hwa := word_at HG.out HBW.out
        have HER : Hid (er = 0) := Lib.hid hwa.1
        have HI1 : Hid (i + 1 < L.length) := Lib.hid hwa.2
        have HKK : Hid (kindAt L i aggW 0 = some k) := Lib.hid (by
          rw [← HKA.out hwa.1, HDR.out]
          have hw : wordAt L i u.data.toList = true := by
            have h := HBW.out
            unfold isR at h
            simp only [Bool.and_eq_true] at h
            exact h.2
          show (if wordAt L i u.data.toList then _ else _) = _
          rw [hw]; rfl)
        clear hwa
        go_upto_region 7 with fail
        have HKS2 := Lib.hid (HKS1.out.alloc (.cells #[.int .i64 (k : Int), .int .i64 0] 66))
        have HKB2 := Lib.hid (HKB1.out.alloc (.cells #[.int .i64 (k : Int), .int .i64 0] 66))
        have HKT2 := Lib.hid (Blk.new w1 66 #[.int .i64 (k : Int), .int .i64 0])
        have HB2 := Lib.hid (HB1.out.alloc (by have := HKS1.out.lt; omega) (.cells #[.int .i64 (k : Int), .int .i64 0] 66))
        have HTS3 : Hid (S + 1 < w1.heap.size) := Lib.hid HKB1.out.lt
        have HTS2 : Hid (w1.heap.size ≠ S) := Lib.hid (by have := HTS3.out; omega)
        generalize w1.alloc (.cells #[.int .i64 (k : Int), .int .i64 0] 66) = w2 at *
        generalize w1.heap.size = T at *
        have d0 : w2.cell? ⟨S, 0, none⟩ = some (.slice ad nd cd) := HKS2.out.cell 0
        have d1 : w2.cell? ⟨S, 1, none⟩ = some (.slice ai ni ci) := HKS2.out.cell 1
        have d2 : w2.cell? ⟨S, 2, none⟩ = some (.slice an nn cn) := HKS2.out.cell 2
        have d3 : w2.cell? ⟨S, 3, none⟩ = some (.slice av nv cv) := HKS2.out.cell 3
        have d4 : w2.cell? ⟨S, 4, none⟩ = some (.slice ta L.length tc) := HKS2.out.cell 4
        have d5 : w2.cell? ⟨S, 5, none⟩ = some (.int .i64 (i : Int)) := HKS2.out.cell 5
        have d6 : w2.cell? ⟨S, 6, none⟩ = some (.int .u32 g) := HKS2.out.cell 6
        have d7 : w2.cell? ⟨S, 7, none⟩ = some (.slice af nf cf) := HKS2.out.cell 7
        have d8 : w2.cell? ⟨S, 8, none⟩ = some (.slice ac nc cc) := HKS2.out.cell 8
        have d9 : w2.cell? ⟨S, 9, none⟩ = some (.slice ao no co) := HKS2.out.cell 9
        have d10 : w2.cell? ⟨S, 10, none⟩ = some (.int .i64 lm) := HKS2.out.cell 10
        have d11 : w2.cell? ⟨S, 11, none⟩ = some (.int .i64 (er : Int)) := HKS2.out.cell 11
        have fzd : ∀ o, w2.frozen? ⟨S, o, none⟩ = false := fun o => HKS2.out.frozen o
        go_wp2_with fail
        refine (HON.out _).mono ?_; rintro e w3 ⟨rfl, hb3⟩
        have HB3 := Lib.hid (HB2.out.trans (hb3.mono (by have := HKS2.out.lt; omega)))
        have HKS3 := Lib.hid (HKS2.out.below hb3 HKS2.out.lt)
        have HKB3 := Lib.hid (HKB2.out.below hb3 HKB2.out.lt)
        have HKT3 := Lib.hid (HKT2.out.below hb3 HKT2.out.lt)
        dsimp only
        clear hb3
        clear d0 d1 d2 d3 d4 d5 d6 d7 d8 d9 d10 d11 fzd
        have d0 : w3.cell? ⟨S, 0, none⟩ = some (.slice ad nd cd) := HKS3.out.cell 0
        have d1 : w3.cell? ⟨S, 1, none⟩ = some (.slice ai ni ci) := HKS3.out.cell 1
        have d2 : w3.cell? ⟨S, 2, none⟩ = some (.slice an nn cn) := HKS3.out.cell 2
        have d3 : w3.cell? ⟨S, 3, none⟩ = some (.slice av nv cv) := HKS3.out.cell 3
        have d4 : w3.cell? ⟨S, 4, none⟩ = some (.slice ta L.length tc) := HKS3.out.cell 4
        have d5 : w3.cell? ⟨S, 5, none⟩ = some (.int .i64 (i : Int)) := HKS3.out.cell 5
        have d6 : w3.cell? ⟨S, 6, none⟩ = some (.int .u32 g) := HKS3.out.cell 6
        have d7 : w3.cell? ⟨S, 7, none⟩ = some (.slice af nf cf) := HKS3.out.cell 7
        have d8 : w3.cell? ⟨S, 8, none⟩ = some (.slice ac nc cc) := HKS3.out.cell 8
        have d9 : w3.cell? ⟨S, 9, none⟩ = some (.slice ao no co) := HKS3.out.cell 9
        have d10 : w3.cell? ⟨S, 10, none⟩ = some (.int .i64 lm) := HKS3.out.cell 10
        have d11 : w3.cell? ⟨S, 11, none⟩ = some (.int .i64 (er : Int)) := HKS3.out.cell 11
        have fzd : ∀ o, w3.frozen? ⟨S, o, none⟩ = false := fun o => HKS3.out.frozen o
        go_upto_region 8 with fail
        clear d0 d1 d2 d3 d4 d5 d6 d7 d8 d9 d10 d11 fzd
        have HKS4 := Lib.hid (blk_st12 HKS3.out (.slice ad nd cd) (.slice ai ni ci) (.slice an nn cn) (.slice av nv cv) (.slice ta L.length tc) (.int .i64 ((i : Int) + 1)) (.int .u32 g) (.slice af nf cf) (.slice ac nc cc) (.slice ao no co) (.int .i64 lm) (.int .i64 (er : Int)))
        have HKB4 := Lib.hid (blk_far12 HKB3.out (b := S) (by first | omega | exact HTS2.out) (.slice ad nd cd) (.slice ai ni ci) (.slice an nn cn) (.slice av nv cv) (.slice ta L.length tc) (.int .i64 ((i : Int) + 1)) (.int .u32 g) (.slice af nf cf) (.slice ac nc cc) (.slice ao no co) (.int .i64 lm) (.int .i64 (er : Int)))
        have HKT4 := Lib.hid (blk_far12 HKT3.out (b := S) (by first | omega | exact HTS2.out) (.slice ad nd cd) (.slice ai ni ci) (.slice an nn cn) (.slice av nv cv) (.slice ta L.length tc) (.int .i64 ((i : Int) + 1)) (.int .u32 g) (.slice af nf cf) (.slice ac nc cc) (.slice ao no co) (.int .i64 lm) (.int .i64 (er : Int)))
        have HB4 := Lib.hid (below_st12 HB3.out (b := S) (by have := HSW.out; omega) (.slice ad nd cd) (.slice ai ni ci) (.slice an nn cn) (.slice av nv cv) (.slice ta L.length tc) (.int .i64 ((i : Int) + 1)) (.int .u32 g) (.slice af nf cf) (.slice ac nc cc) (.slice ao no co) (.int .i64 lm) (.int .i64 (er : Int)))
        generalize ((((((((((((w3.setCell ⟨S, 0, none⟩ (.slice ad nd cd)).setCell ⟨S, 1, none⟩ (.slice ai ni ci)).setCell ⟨S, 2, none⟩ (.slice an nn cn)).setCell ⟨S, 3, none⟩ (.slice av nv cv)).setCell ⟨S, 4, none⟩ (.slice ta L.length tc)).setCell ⟨S, 5, none⟩ (.int .i64 ((i : Int) + 1))).setCell ⟨S, 6, none⟩ (.int .u32 g)).setCell ⟨S, 7, none⟩ (.slice af nf cf)).setCell ⟨S, 8, none⟩ (.slice ac nc cc)).setCell ⟨S, 9, none⟩ (.slice ao no co)).setCell ⟨S, 10, none⟩ (.int .i64 lm)).setCell ⟨S, 11, none⟩ (.int .i64 (er : Int))) = w4 at *
        go_upto_if 25 with fail
        go_cut [] (fun wx => ∃ i3 e3 mm : Nat, r = ⟨i3, ⟨g, fq, cq ++ [((k : Int), (mm : Int))], oq, lm⟩, e3⟩ ∧ i3 < L.length ∧ (e3 = 0 → i < i3) ∧ mm ≤ 1000 ∧ Blk wx S 82 #[.slice ad nd cd, .slice ai ni ci, .slice an nn cn, .slice av nv cv, .slice ta L.length tc, .int .i64 (i3 : Int), .int .u32 g, .slice af nf cf, .slice ac nc cc, .slice ao no co, .int .i64 lm, .int .i64 (e3 : Int)] ∧ Blk wx (S + 1) 82 #[.slice none 0 0, .slice none 0 0, .slice none 0 0, .slice none 0 0, .slice none 0 0, .int .i64 0, .int .u32 0, .slice none 0 0, .slice none 0 0, .slice none 0 0, .int .i64 0, .int .i64 0] ∧ Blk wx T 66 #[.int .i64 (k : Int), .int .i64 (mm : Int)] ∧ Below S w wx)
        case first =>
          by_cases hk0 : k = 0
          · have HCX : Hid (r = ⟨i + 1, ⟨g, fq, cq ++ [((k : Int), ((0 : Nat) : Int))], oq, lm⟩, er⟩) := Lib.hid (by
              rw [← HCR.out]
              unfold colR
              dsimp only
              rw [if_pos HER.out, HKK.out, hk0]
              rfl)
            have t1 : decide (0 < k) = false := by rw [hk0]; rfl
            have t2 : k ≤ 0 := by omega
            clear hk0
            go_wp2_with fail
            go_meet
            exact ⟨i + 1, er, 0, HCX.out, HI1.out, fun _ => Nat.lt_succ_self i, Nat.zero_le _, HKS4.out, HKB4.out, HKT4.out, HB4.out⟩
          · have t1 : decide (0 < k) = true := decide_eq_true (by omega)
            have t2 : 0 < k := by omega
            obtain ⟨p1, hp1⟩ : ∃ x, wantR L ⟨i + 1, ⟨g, fq, cq, oq, lm⟩, er⟩ [40] = x := ⟨_, rfl⟩
            have HW1 := Lib.hid (HWN.out HI1.out)
            have HWA1 := Lib.hid (HWA.out HI1.out)
            rw [hp1] at HW1 HWA1
            have HP1 := Lib.hid hp1
            clear hp1
            have hq1 := HW1.out.2.1
            obtain ⟨i2, q2, e2⟩ := p1
            dsimp only at hq1
            subst hq1
            obtain ⟨⟨p2, mm⟩, hp2⟩ : ∃ x, placeR (measN s) L ⟨i2, ⟨g, fq, cq, oq, lm⟩, e2⟩ = x := ⟨_, rfl⟩
            have HN2 := Lib.hid (HPN.out ⟨i2, ⟨g, fq, cq, oq, lm⟩, e2⟩ HW1.out.1)
            have HPL2 := Lib.hid (HPL.out ⟨i2, ⟨g, fq, cq, oq, lm⟩, e2⟩ HW1.out.1)
            rw [hp2] at HN2 HPL2
            have HP2 := Lib.hid hp2
            clear hp2
            have hq2 := HN2.out.2.1
            obtain ⟨i3, q3, e3⟩ := p2
            dsimp only at hq2
            subst hq2
            obtain ⟨p3, hp3⟩ : ∃ x, wantR L ⟨i3, ⟨g, fq, cq, oq, lm⟩, e3⟩ [41] = x := ⟨_, rfl⟩
            have HW3 := Lib.hid (HWM.out ⟨i3, ⟨g, fq, cq, oq, lm⟩, e3⟩ HN2.out.1)
            have HWB3 := Lib.hid (HWB.out ⟨i3, ⟨g, fq, cq, oq, lm⟩, e3⟩ HN2.out.1)
            rw [hp3] at HW3 HWB3
            have HP3 := Lib.hid hp3
            clear hp3
            have hq3 := HW3.out.2.1
            obtain ⟨i4, q4, e4⟩ := p3
            dsimp only at hq3
            subst hq3
            dsimp only at *
            have HCX : Hid (r = ⟨i4, ⟨g, fq, cq ++ [((k : Int), (mm : Int))], oq, lm⟩, e4⟩) := Lib.hid (by
              rw [← HCR.out]
              obtain ⟨k2, rfl⟩ : ∃ k2, k = k2 + 1 := ⟨k - 1, by omega⟩
              unfold colR
              dsimp only
              rw [if_pos HER.out, HKK.out]
              dsimp only [onR]
              rw [HP1.out, HP2.out]
              dsimp only
              rw [HP3.out])
            clear hk0
            go_upto_region 9 with fail
            obtain ⟨w5, rfl⟩ : ∃ x, x = w4 := ⟨_, rfl⟩
            have HKS := HKS4
            have HKB5 := HKB4
            have HKT := HKT4
            have HB5 := HB4
            go_cut [] (fun wx => Blk wx S 82 #[.slice ad nd cd, .slice ai ni ci, .slice an nn cn, .slice av nv cv, .slice ta L.length tc, .int .i64 (i3 : Int), .int .u32 g, .slice af nf cf, .slice ac nc cc, .slice ao no co, .int .i64 lm, .int .i64 (e3 : Int)] ∧ Blk wx (S + 1) 82 #[.slice none 0 0, .slice none 0 0, .slice none 0 0, .slice none 0 0, .slice none 0 0, .int .i64 0, .int .u32 0, .slice none 0 0, .slice none 0 0, .slice none 0 0, .int .i64 0, .int .i64 0] ∧ Blk wx T 66 #[.int .i64 (k : Int), .int .i64 (mm : Int)] ∧ Below S w wx)
            case first =>
              have HS0 := Lib.hid (HKS.out).drew
              have HB0R := Lib.hid (Below.refl w5.drew.heap.size w5.drew)
              have hBS : S < w5.drew.heap.size := HS0.out.lt
              refine wp_regionN (fun w' => Blk w' S 82 #[.slice ad nd cd, .slice ai ni ci, .slice an nn cn, .slice av nv cv, .slice ta L.length tc, .int .i64 ((i : Int) + 1), .int .u32 g, .slice af nf cf, .slice ac nc cc, .slice ao no co, .int .i64 lm, .int .i64 (er : Int)]) [13, 14, 15, 16, 17] (by kernel_rfl) (by exact HS0.out) (fun hHeld => ?_)
              refine wpAnyN_take (i := 0) (oi := ⟨some 27, _, _, _, _, _⟩) (v := ?_) rfl (by kernel_rfl) (by kernel_rfl) (by kernel_rfl) (by kernel_rfl) (by kernel_rfl) (fun _ _ _ h => h) (Or.inl ⟨by rfl, ?_⟩) (by assumption) ?_
              rotate_left 1
              · (intro w hSw; obtain ⟨u0, u1, u2, u3, u4, u5, u6, u7, u8, u9, u10, u11⟩ := blk12 hSw; go_simp; try with_reducible rfl)
              try simp only [Act.put, List.setIfInBounds_toArray, List.set_cons_zero, List.set_cons_succ]
              refine wpAnyN_take (i := 3) (oi := ⟨some 30, _, _, _, _, _⟩) (v := ?_) rfl (by kernel_rfl) (by kernel_rfl) (by kernel_rfl) (by kernel_rfl) (by kernel_rfl) (fun _ _ _ h => h) (Or.inl ⟨by rfl, ?_⟩) (by assumption) ?_
              rotate_left 1
              · (intro w hSw; obtain ⟨u0, u1, u2, u3, u4, u5, u6, u7, u8, u9, u10, u11⟩ := blk12 hSw; go_simp; try with_reducible rfl)
              try simp only [Act.put, List.setIfInBounds_toArray, List.set_cons_zero, List.set_cons_succ]
              refine wpAnyN_take (i := 4) (oi := ⟨some 31, _, _, _, _, _⟩) (v := ?_) rfl (by kernel_rfl) (by kernel_rfl) (by kernel_rfl) (by kernel_rfl) (by kernel_rfl) (fun _ _ _ h => h) (Or.inl ⟨by rfl, ?_⟩) (by assumption) ?_
              rotate_left 1
              · (intro w hSw; obtain ⟨u0, u1, u2, u3, u4, u5, u6, u7, u8, u9, u10, u11⟩ := blk12 hSw; go_simp; try with_reducible rfl)
              try simp only [Act.put, List.setIfInBounds_toArray, List.set_cons_zero, List.set_cons_succ]
              refine wpAnyN_take (i := 5) (oi := ⟨some 32, _, _, _, _, _⟩) (v := ?_) rfl (by kernel_rfl) (by kernel_rfl) (by kernel_rfl) (by kernel_rfl) (by kernel_rfl) (fun _ _ _ h => h) (Or.inl ⟨by rfl, ?_⟩) (by assumption) ?_
              rotate_left 1
              · (intro w hSw; obtain ⟨u0, u1, u2, u3, u4, u5, u6, u7, u8, u9, u10, u11⟩ := blk12 hSw; go_simp; try with_reducible rfl)
              try simp only [Act.put, List.setIfInBounds_toArray, List.set_cons_zero, List.set_cons_succ]
              refine wpAnyN_take (i := 7) (oi := ⟨some 34, _, _, _, _, _⟩) (v := ?_) rfl (by kernel_rfl) (by kernel_rfl) (by kernel_rfl) (by kernel_rfl) (by kernel_rfl) (fun _ _ _ h => h) (Or.inl ⟨by rfl, ?_⟩) (by assumption) ?_
              rotate_left 1
              · (intro w hSw; obtain ⟨u0, u1, u2, u3, u4, u5, u6, u7, u8, u9, u10, u11⟩ := blk12 hSw; go_simp; try with_reducible rfl)
              try simp only [Act.put, List.setIfInBounds_toArray, List.set_cons_zero, List.set_cons_succ]
              refine wpAnyN_take (i := 8) (oi := ⟨some 35, _, _, _, _, _⟩) (v := ?_) rfl (by kernel_rfl) (by kernel_rfl) (by kernel_rfl) (by kernel_rfl) (by kernel_rfl) (fun _ _ _ h => h) (Or.inl ⟨by rfl, ?_⟩) (by assumption) ?_
              rotate_left 1
              · (intro w hSw; obtain ⟨u0, u1, u2, u3, u4, u5, u6, u7, u8, u9, u10, u11⟩ := blk12 hSw; go_simp; try with_reducible rfl)
              try simp only [Act.put, List.setIfInBounds_toArray, List.set_cons_zero, List.set_cons_succ]
              refine wpAnyN_take (i := 9) (oi := ⟨some 36, _, _, _, _, _⟩) (v := ?_) rfl (by kernel_rfl) (by kernel_rfl) (by kernel_rfl) (by kernel_rfl) (by kernel_rfl) (fun _ _ _ h => h) (Or.inl ⟨by rfl, ?_⟩) (by assumption) ?_
              rotate_left 1
              · (intro w hSw; obtain ⟨u0, u1, u2, u3, u4, u5, u6, u7, u8, u9, u10, u11⟩ := blk12 hSw; go_simp; try with_reducible rfl)
              try simp only [Act.put, List.setIfInBounds_toArray, List.set_cons_zero, List.set_cons_succ]
              refine wpAnyN_both (i := 1) (j := 2) (o := ⟨some 28, _, _, _, _, _⟩) (p := ⟨some 29, _, _, _, _, _⟩) (by kernel_rfl) rfl rfl (fun K hK => ?_) (fun K hK => ?_)
              · go_simp
                refine (HWA1.out _ (HB5.out.drew.trans (HB0R.out.mono (by have := HKS.out.lt; show S ≤ w5.heap.size; omega)))).mono ?_; rintro e x0 ⟨rfl, hbx⟩
                have HB_0 := Lib.hid (HB0R.out.trans (hbx.mono HB0R.out.size))
                clear hbx
                refine hK.out _ _ (by exact HS0.out.below HB_0.out hBS) ?_
                clear hK K hHeld
                intro hHeld
                try simp only [Act.put, List.setIfInBounds_toArray, List.set_cons_zero, List.set_cons_succ]
                refine wpAnyN_one (i := 2) (o := ⟨some 29, _, _, _, _, _⟩) (by kernel_rfl) rfl (fun K hK => ?_)
                go_simp
                have HO1 := Lib.hid (own_none1 x0 9 _ HB_0.out.size)
                have HB_1 := Lib.hid (HB_0.out.alloc HB_0.out.size (.cells #[] 9))
                refine hK.out _ _ (by exact HS0.out.below HB_1.out hBS) ?_
                clear hK K hHeld
                intro hHeld
                try simp only [Act.put, List.setIfInBounds_toArray, List.set_cons_zero, List.set_cons_succ]
                refine wpAnyN_one (i := 6) (o := ⟨some 33, _, _, _, _, _⟩) (by kernel_rfl) rfl (fun K hK => ?_)
                refine step_append_rowG (z := .string ByteArray.empty) (sz := 1) (bytes := 16) info_string rfl (by decide) Try.underlying35 rfl _ _ (by rfl) _ w5.drew.heap.size _ 0 [] ai ni ci (s.ints.map Value.string) (by rfl) (by rfl) HO1.out (HIR.out _ (HB5.out.drew.trans (HB_1.out.mono (by have := HKS.out.lt; show S ≤ w5.heap.size; omega)))) str_cells (by omega) (by unfold maxLen; omega) HB_1.out.size ?_
                intro v2 x2 h2 h3 h4
                rw [Nat.zero_add, List.nil_append] at h2
                have HO2 := Lib.hid h2
                have HB_2 := Lib.hid (h4 _ HB_1.out)
                clear h2 h3 h4
                refine hK.out _ _ (by exact HS0.out.below HB_2.out hBS) ?_
                clear hK K hHeld
                intro hHeld
                try simp only [Act.put, List.setIfInBounds_toArray, List.set_cons_zero, List.set_cons_succ]
                refine wpAnyN_one (i := 10) (o := ⟨some 37, _, _, _, _, _⟩) (by kernel_rfl) rfl (fun K hK => ?_)
                refine step_append_rowG (z := .string ByteArray.empty) (sz := 1) (bytes := 16) info_string rfl (by decide) Try.underlying35 rfl _ _ (by rfl) _ w5.drew.heap.size v2 ni (s.ints.map Value.string) an nn cn (s.nums.map Value.string) (by rfl) (by rfl) HO2.out (HNR.out _ (HB5.out.drew.trans (HB_2.out.mono (by have := HKS.out.lt; show S ≤ w5.heap.size; omega)))) str_cells (by omega) (by unfold maxLen; omega) HB_2.out.size ?_
                intro v3 x3 h2 h3 h4
                obtain ⟨ra, rc, rfl⟩ := own_form h2
                have HO3 := Lib.hid h2
                have HB_3 := Lib.hid (h4 _ HB_2.out)
                clear h2 h3 h4
                refine hK.out _ _ (by exact HS0.out.below HB_3.out hBS) ?_
                clear hK K hHeld
                intro hHeld
                try simp only [Act.put, List.setIfInBounds_toArray, List.set_cons_zero, List.set_cons_succ]
                refine wpAnyN_one (i := 11) (o := ⟨some 38, _, _, _, _, _⟩) (by kernel_rfl) rfl (fun K hK => ?_)
                go_simp
                refine (HPL2.out x3 ra (ni + nn) rc (HB5.out.drew.trans (HB_3.out.mono (by have := HKS.out.lt; show S ≤ w5.heap.size; omega))) (RowS.of_g (by unfold measN; rw [List.map_append]; exact own_rowg HO3.out))).mono ?_; rintro e x4 ⟨rfl, hbx⟩
                have HB_4 := Lib.hid (HB_3.out.trans (hbx.mono HB_3.out.size))
                clear hbx
                refine hK.out _ _ (by exact HS0.out.below HB_4.out hBS) ?_
                clear hK K hHeld
                intro hHeld
                try simp only [Act.put, List.setIfInBounds_toArray, List.set_cons_zero, List.set_cons_succ]
                refine wpAnyN_take (i := 12) (oi := ⟨some 26, _, _, _, _, _⟩) (v := ?_) rfl (by kernel_rfl) (by kernel_rfl) (by kernel_rfl) (by kernel_rfl) (by kernel_rfl) (fun _ _ _ h => h) (Or.inl ⟨by rfl, ?_⟩) (by assumption) ?_
                rotate_left 1
                · (intro w hSw; obtain ⟨u0, u1, u2, u3, u4, u5, u6, u7, u8, u9, u10, u11⟩ := blk12 hSw; go_simp; try with_reducible rfl)
                try simp only [Act.put, List.setIfInBounds_toArray, List.set_cons_zero, List.set_cons_succ]
                refine wpAnyN_free (i := 13) (oi := ⟨some 39, _, _, _, _, _⟩) (v := ?_) rfl (by kernel_rfl) (by kernel_rfl) (by kernel_rfl) (by kernel_rfl) (by kernel_rfl) (fun _ _ _ h => h) (Or.inl ⟨by rfl, ?_⟩) ?_
                rotate_left 1
                · (intro w hSw; clear hSw; go_simp; try with_reducible rfl)
                try simp only [Act.put, List.setIfInBounds_toArray, List.set_cons_zero, List.set_cons_succ]
                refine wpAnyN_free (i := 14) (oi := ⟨some 40, _, _, _, _, _⟩) (v := ?_) rfl (by kernel_rfl) (by kernel_rfl) (by kernel_rfl) (by kernel_rfl) (by kernel_rfl) (fun _ _ _ h => h) (Or.inl ⟨by rfl, ?_⟩) ?_
                rotate_left 1
                · (intro w hSw; clear hSw; go_simp; try with_reducible rfl)
                try simp only [Act.put, List.setIfInBounds_toArray, List.set_cons_zero, List.set_cons_succ]
                clear hHeld
                have HKS9 := Lib.hid (HS0.out.below HB_4.out hBS)
                have HKB9 := Lib.hid ((HKB5.out.drew).below HB_4.out (by have := HKB5.out.lt; show S + 1 < w5.heap.size; omega))
                have HKT9 := Lib.hid ((HKT.out.drew).below HB_4.out (by have := HKT.out.lt; show T < w5.heap.size; omega))
                have HB9 := Lib.hid (HB5.out.drew.trans (HB_4.out.mono (by have := HKS.out.lt; show S ≤ w5.heap.size; omega)))
                have c0 : x4.cell? ⟨S, 0, none⟩ = some (.slice ad nd cd) := HKS9.out.cell 0
                have c1 : x4.cell? ⟨S, 1, none⟩ = some (.slice ai ni ci) := HKS9.out.cell 1
                have c2 : x4.cell? ⟨S, 2, none⟩ = some (.slice an nn cn) := HKS9.out.cell 2
                have c3 : x4.cell? ⟨S, 3, none⟩ = some (.slice av nv cv) := HKS9.out.cell 3
                have c4 : x4.cell? ⟨S, 4, none⟩ = some (.slice ta L.length tc) := HKS9.out.cell 4
                have c5 : x4.cell? ⟨S, 5, none⟩ = some (.int .i64 ((i : Int) + 1)) := HKS9.out.cell 5
                have c6 : x4.cell? ⟨S, 6, none⟩ = some (.int .u32 g) := HKS9.out.cell 6
                have c7 : x4.cell? ⟨S, 7, none⟩ = some (.slice af nf cf) := HKS9.out.cell 7
                have c8 : x4.cell? ⟨S, 8, none⟩ = some (.slice ac nc cc) := HKS9.out.cell 8
                have c9 : x4.cell? ⟨S, 9, none⟩ = some (.slice ao no co) := HKS9.out.cell 9
                have c10 : x4.cell? ⟨S, 10, none⟩ = some (.int .i64 lm) := HKS9.out.cell 10
                have c11 : x4.cell? ⟨S, 11, none⟩ = some (.int .i64 (er : Int)) := HKS9.out.cell 11
                have fzc : ∀ o, x4.frozen? ⟨S, o, none⟩ = false := fun o => HKS9.out.frozen o
                have q1 : x4.cell? ⟨T, 1, none⟩ = some (.int .i64 0) := HKT9.out.cell 1
                have qf : ∀ o, x4.frozen? ⟨T, o, none⟩ = false := fun o => HKT9.out.frozen o
                have hST : ¬ T = S := HTS2.out
                have hTS : ¬ S = T := fun h => HTS2.out h.symm
                refine wpAnyN_late (i := 15) (o := ⟨none, _, _, _, _, _⟩) (by kernel_rfl) (by kernel_rfl) rfl (fun K hK => ?_)
                go_simp
                refine hK.out _ _ ?_
                clear hK K
                try simp only [Act.put, List.setIfInBounds_toArray, List.set_cons_zero, List.set_cons_succ]
                refine wpAnyN_free (i := 16) (oi := ⟨some 41, _, _, _, _, _⟩) (v := ?_) rfl (by kernel_rfl) (by kernel_rfl) (by kernel_rfl) (by kernel_rfl) (by kernel_rfl) (fun _ _ _ h => h) (Or.inl ⟨by rfl, ?_⟩) ?_
                rotate_left 1
                · (intro w hSw; clear hSw; go_simp; try with_reducible rfl)
                try simp only [Act.put, List.setIfInBounds_toArray, List.set_cons_zero, List.set_cons_succ]
                clear c0 c1 c2 c3 c4 c5 c6 c7 c8 c9 c10 c11 fzc
                have HKSY := Lib.hid (blk_st12 HKS9.out (.slice ad nd cd) (.slice ai ni ci) (.slice an nn cn) (.slice av nv cv) (.slice ta L.length tc) (.int .i64 (i3 : Int)) (.int .u32 g) (.slice af nf cf) (.slice ac nc cc) (.slice ao no co) (.int .i64 lm) (.int .i64 (e3 : Int)))
                have HKBY := Lib.hid (blk_far12 HKB9.out (b := S) (by first | omega | exact HTS2.out) (.slice ad nd cd) (.slice ai ni ci) (.slice an nn cn) (.slice av nv cv) (.slice ta L.length tc) (.int .i64 (i3 : Int)) (.int .u32 g) (.slice af nf cf) (.slice ac nc cc) (.slice ao no co) (.int .i64 lm) (.int .i64 (e3 : Int)))
                have HKTY := Lib.hid (blk_far12 HKT9.out (b := S) (by first | omega | exact HTS2.out) (.slice ad nd cd) (.slice ai ni ci) (.slice an nn cn) (.slice av nv cv) (.slice ta L.length tc) (.int .i64 (i3 : Int)) (.int .u32 g) (.slice af nf cf) (.slice ac nc cc) (.slice ao no co) (.int .i64 lm) (.int .i64 (e3 : Int)))
                have HBY := Lib.hid (below_st12 HB9.out (b := S) (by have := HSW.out; omega) (.slice ad nd cd) (.slice ai ni ci) (.slice an nn cn) (.slice av nv cv) (.slice ta L.length tc) (.int .i64 (i3 : Int)) (.int .u32 g) (.slice af nf cf) (.slice ac nc cc) (.slice ao no co) (.int .i64 lm) (.int .i64 (e3 : Int)))
                generalize ((((((((((((x4.setCell ⟨S, 0, none⟩ (.slice ad nd cd)).setCell ⟨S, 1, none⟩ (.slice ai ni ci)).setCell ⟨S, 2, none⟩ (.slice an nn cn)).setCell ⟨S, 3, none⟩ (.slice av nv cv)).setCell ⟨S, 4, none⟩ (.slice ta L.length tc)).setCell ⟨S, 5, none⟩ (.int .i64 (i3 : Int))).setCell ⟨S, 6, none⟩ (.int .u32 g)).setCell ⟨S, 7, none⟩ (.slice af nf cf)).setCell ⟨S, 8, none⟩ (.slice ac nc cc)).setCell ⟨S, 9, none⟩ (.slice ao no co)).setCell ⟨S, 10, none⟩ (.int .i64 lm)).setCell ⟨S, 11, none⟩ (.int .i64 (e3 : Int))) = y at *
                have r1 : y.cell? ⟨T, 1, none⟩ = some (.int .i64 0) := HKTY.out.cell 1
                have rf : ∀ o, y.frozen? ⟨T, o, none⟩ = false := fun o => HKTY.out.frozen o
                clear q1 qf
                refine wpAnyN_late (i := 17) (o := ⟨none, _, _, _, _, _⟩) (by kernel_rfl) (by kernel_rfl) rfl (fun K hK => ?_)
                go_simp
                refine hK.out _ _ ?_
                clear hK K
                try simp only [Act.put, List.setIfInBounds_toArray, List.set_cons_zero, List.set_cons_succ]
                refine wpAnyN_end (by kernel_rfl) ?_
                have HKZ := Lib.hid (HKSY.out.far (p := ⟨T, 1, none⟩) (by exact fun h => HTS2.out h.symm) (.int .i64 (mm : Int)))
                have HKZB := Lib.hid (HKBY.out.far (p := ⟨T, 1, none⟩) (by have := HTS3.out; show S + 1 ≠ T; omega) (.int .i64 (mm : Int)))
                have HKZT := Lib.hid (HKTY.out.set_ 1 (.int .i64 (mm : Int)))
                have HBZ := Lib.hid (below_set HBY.out (p := ⟨T, 1, none⟩) (by have := HTS3.out; show S ≤ T; omega) (.int .i64 (mm : Int)))
                clear r1 rf
                go_wp2_with fail
                go_meet
                exact ⟨HKZ.out, HKZB.out, HKZT.out, HBZ.out⟩
              · go_simp
                have HO0 := Lib.hid (own_none1 w5.drew 9 _ HB0R.out.size)
                have HB_0 := Lib.hid (HB0R.out.alloc HB0R.out.size (.cells #[] 9))
                refine hK.out _ _ (by exact HS0.out.below HB_0.out hBS) ?_
                clear hK K hHeld
                intro hHeld
                try simp only [Act.put, List.setIfInBounds_toArray, List.set_cons_zero, List.set_cons_succ]
                refine wpAnyN_one (i := 1) (o := ⟨some 28, _, _, _, _, _⟩) (by kernel_rfl) rfl (fun K hK => ?_)
                go_simp
                refine (HWA1.out _ (HB5.out.drew.trans (HB_0.out.mono (by have := HKS.out.lt; show S ≤ w5.heap.size; omega)))).mono ?_; rintro e x1 ⟨rfl, hbx⟩
                have HB_1 := Lib.hid (HB_0.out.trans (hbx.mono HB_0.out.size))
                have HO1 := Lib.hid (own_below HO0.out hbx (Nat.le_refl _))
                clear hbx
                refine hK.out _ _ (by exact HS0.out.below HB_1.out hBS) ?_
                clear hK K hHeld
                intro hHeld
                try simp only [Act.put, List.setIfInBounds_toArray, List.set_cons_zero, List.set_cons_succ]
                refine wpAnyN_one (i := 6) (o := ⟨some 33, _, _, _, _, _⟩) (by kernel_rfl) rfl (fun K hK => ?_)
                refine step_append_rowG (z := .string ByteArray.empty) (sz := 1) (bytes := 16) info_string rfl (by decide) Try.underlying35 rfl _ _ (by rfl) _ w5.drew.heap.size _ 0 [] ai ni ci (s.ints.map Value.string) (by rfl) (by rfl) HO1.out (HIR.out _ (HB5.out.drew.trans (HB_1.out.mono (by have := HKS.out.lt; show S ≤ w5.heap.size; omega)))) str_cells (by omega) (by unfold maxLen; omega) HB_1.out.size ?_
                intro v2 x2 h2 h3 h4
                rw [Nat.zero_add, List.nil_append] at h2
                have HO2 := Lib.hid h2
                have HB_2 := Lib.hid (h4 _ HB_1.out)
                clear h2 h3 h4
                refine hK.out _ _ (by exact HS0.out.below HB_2.out hBS) ?_
                clear hK K hHeld
                intro hHeld
                try simp only [Act.put, List.setIfInBounds_toArray, List.set_cons_zero, List.set_cons_succ]
                refine wpAnyN_one (i := 10) (o := ⟨some 37, _, _, _, _, _⟩) (by kernel_rfl) rfl (fun K hK => ?_)
                refine step_append_rowG (z := .string ByteArray.empty) (sz := 1) (bytes := 16) info_string rfl (by decide) Try.underlying35 rfl _ _ (by rfl) _ w5.drew.heap.size v2 ni (s.ints.map Value.string) an nn cn (s.nums.map Value.string) (by rfl) (by rfl) HO2.out (HNR.out _ (HB5.out.drew.trans (HB_2.out.mono (by have := HKS.out.lt; show S ≤ w5.heap.size; omega)))) str_cells (by omega) (by unfold maxLen; omega) HB_2.out.size ?_
                intro v3 x3 h2 h3 h4
                obtain ⟨ra, rc, rfl⟩ := own_form h2
                have HO3 := Lib.hid h2
                have HB_3 := Lib.hid (h4 _ HB_2.out)
                clear h2 h3 h4
                refine hK.out _ _ (by exact HS0.out.below HB_3.out hBS) ?_
                clear hK K hHeld
                intro hHeld
                try simp only [Act.put, List.setIfInBounds_toArray, List.set_cons_zero, List.set_cons_succ]
                refine wpAnyN_one (i := 11) (o := ⟨some 38, _, _, _, _, _⟩) (by kernel_rfl) rfl (fun K hK => ?_)
                go_simp
                refine (HPL2.out x3 ra (ni + nn) rc (HB5.out.drew.trans (HB_3.out.mono (by have := HKS.out.lt; show S ≤ w5.heap.size; omega))) (RowS.of_g (by unfold measN; rw [List.map_append]; exact own_rowg HO3.out))).mono ?_; rintro e x4 ⟨rfl, hbx⟩
                have HB_4 := Lib.hid (HB_3.out.trans (hbx.mono HB_3.out.size))
                clear hbx
                refine hK.out _ _ (by exact HS0.out.below HB_4.out hBS) ?_
                clear hK K hHeld
                intro hHeld
                try simp only [Act.put, List.setIfInBounds_toArray, List.set_cons_zero, List.set_cons_succ]
                refine wpAnyN_take (i := 12) (oi := ⟨some 26, _, _, _, _, _⟩) (v := ?_) rfl (by kernel_rfl) (by kernel_rfl) (by kernel_rfl) (by kernel_rfl) (by kernel_rfl) (fun _ _ _ h => h) (Or.inl ⟨by rfl, ?_⟩) (by assumption) ?_
                rotate_left 1
                · (intro w hSw; obtain ⟨u0, u1, u2, u3, u4, u5, u6, u7, u8, u9, u10, u11⟩ := blk12 hSw; go_simp; try with_reducible rfl)
                try simp only [Act.put, List.setIfInBounds_toArray, List.set_cons_zero, List.set_cons_succ]
                refine wpAnyN_free (i := 13) (oi := ⟨some 39, _, _, _, _, _⟩) (v := ?_) rfl (by kernel_rfl) (by kernel_rfl) (by kernel_rfl) (by kernel_rfl) (by kernel_rfl) (fun _ _ _ h => h) (Or.inl ⟨by rfl, ?_⟩) ?_
                rotate_left 1
                · (intro w hSw; clear hSw; go_simp; try with_reducible rfl)
                try simp only [Act.put, List.setIfInBounds_toArray, List.set_cons_zero, List.set_cons_succ]
                refine wpAnyN_free (i := 14) (oi := ⟨some 40, _, _, _, _, _⟩) (v := ?_) rfl (by kernel_rfl) (by kernel_rfl) (by kernel_rfl) (by kernel_rfl) (by kernel_rfl) (fun _ _ _ h => h) (Or.inl ⟨by rfl, ?_⟩) ?_
                rotate_left 1
                · (intro w hSw; clear hSw; go_simp; try with_reducible rfl)
                try simp only [Act.put, List.setIfInBounds_toArray, List.set_cons_zero, List.set_cons_succ]
                clear hHeld
                have HKS9 := Lib.hid (HS0.out.below HB_4.out hBS)
                have HKB9 := Lib.hid ((HKB5.out.drew).below HB_4.out (by have := HKB5.out.lt; show S + 1 < w5.heap.size; omega))
                have HKT9 := Lib.hid ((HKT.out.drew).below HB_4.out (by have := HKT.out.lt; show T < w5.heap.size; omega))
                have HB9 := Lib.hid (HB5.out.drew.trans (HB_4.out.mono (by have := HKS.out.lt; show S ≤ w5.heap.size; omega)))
                have c0 : x4.cell? ⟨S, 0, none⟩ = some (.slice ad nd cd) := HKS9.out.cell 0
                have c1 : x4.cell? ⟨S, 1, none⟩ = some (.slice ai ni ci) := HKS9.out.cell 1
                have c2 : x4.cell? ⟨S, 2, none⟩ = some (.slice an nn cn) := HKS9.out.cell 2
                have c3 : x4.cell? ⟨S, 3, none⟩ = some (.slice av nv cv) := HKS9.out.cell 3
                have c4 : x4.cell? ⟨S, 4, none⟩ = some (.slice ta L.length tc) := HKS9.out.cell 4
                have c5 : x4.cell? ⟨S, 5, none⟩ = some (.int .i64 ((i : Int) + 1)) := HKS9.out.cell 5
                have c6 : x4.cell? ⟨S, 6, none⟩ = some (.int .u32 g) := HKS9.out.cell 6
                have c7 : x4.cell? ⟨S, 7, none⟩ = some (.slice af nf cf) := HKS9.out.cell 7
                have c8 : x4.cell? ⟨S, 8, none⟩ = some (.slice ac nc cc) := HKS9.out.cell 8
                have c9 : x4.cell? ⟨S, 9, none⟩ = some (.slice ao no co) := HKS9.out.cell 9
                have c10 : x4.cell? ⟨S, 10, none⟩ = some (.int .i64 lm) := HKS9.out.cell 10
                have c11 : x4.cell? ⟨S, 11, none⟩ = some (.int .i64 (er : Int)) := HKS9.out.cell 11
                have fzc : ∀ o, x4.frozen? ⟨S, o, none⟩ = false := fun o => HKS9.out.frozen o
                have q1 : x4.cell? ⟨T, 1, none⟩ = some (.int .i64 0) := HKT9.out.cell 1
                have qf : ∀ o, x4.frozen? ⟨T, o, none⟩ = false := fun o => HKT9.out.frozen o
                have hST : ¬ T = S := HTS2.out
                have hTS : ¬ S = T := fun h => HTS2.out h.symm
                refine wpAnyN_late (i := 15) (o := ⟨none, _, _, _, _, _⟩) (by kernel_rfl) (by kernel_rfl) rfl (fun K hK => ?_)
                go_simp
                refine hK.out _ _ ?_
                clear hK K
                try simp only [Act.put, List.setIfInBounds_toArray, List.set_cons_zero, List.set_cons_succ]
                refine wpAnyN_free (i := 16) (oi := ⟨some 41, _, _, _, _, _⟩) (v := ?_) rfl (by kernel_rfl) (by kernel_rfl) (by kernel_rfl) (by kernel_rfl) (by kernel_rfl) (fun _ _ _ h => h) (Or.inl ⟨by rfl, ?_⟩) ?_
                rotate_left 1
                · (intro w hSw; clear hSw; go_simp; try with_reducible rfl)
                try simp only [Act.put, List.setIfInBounds_toArray, List.set_cons_zero, List.set_cons_succ]
                clear c0 c1 c2 c3 c4 c5 c6 c7 c8 c9 c10 c11 fzc
                have HKSY := Lib.hid (blk_st12 HKS9.out (.slice ad nd cd) (.slice ai ni ci) (.slice an nn cn) (.slice av nv cv) (.slice ta L.length tc) (.int .i64 (i3 : Int)) (.int .u32 g) (.slice af nf cf) (.slice ac nc cc) (.slice ao no co) (.int .i64 lm) (.int .i64 (e3 : Int)))
                have HKBY := Lib.hid (blk_far12 HKB9.out (b := S) (by first | omega | exact HTS2.out) (.slice ad nd cd) (.slice ai ni ci) (.slice an nn cn) (.slice av nv cv) (.slice ta L.length tc) (.int .i64 (i3 : Int)) (.int .u32 g) (.slice af nf cf) (.slice ac nc cc) (.slice ao no co) (.int .i64 lm) (.int .i64 (e3 : Int)))
                have HKTY := Lib.hid (blk_far12 HKT9.out (b := S) (by first | omega | exact HTS2.out) (.slice ad nd cd) (.slice ai ni ci) (.slice an nn cn) (.slice av nv cv) (.slice ta L.length tc) (.int .i64 (i3 : Int)) (.int .u32 g) (.slice af nf cf) (.slice ac nc cc) (.slice ao no co) (.int .i64 lm) (.int .i64 (e3 : Int)))
                have HBY := Lib.hid (below_st12 HB9.out (b := S) (by have := HSW.out; omega) (.slice ad nd cd) (.slice ai ni ci) (.slice an nn cn) (.slice av nv cv) (.slice ta L.length tc) (.int .i64 (i3 : Int)) (.int .u32 g) (.slice af nf cf) (.slice ac nc cc) (.slice ao no co) (.int .i64 lm) (.int .i64 (e3 : Int)))
                generalize ((((((((((((x4.setCell ⟨S, 0, none⟩ (.slice ad nd cd)).setCell ⟨S, 1, none⟩ (.slice ai ni ci)).setCell ⟨S, 2, none⟩ (.slice an nn cn)).setCell ⟨S, 3, none⟩ (.slice av nv cv)).setCell ⟨S, 4, none⟩ (.slice ta L.length tc)).setCell ⟨S, 5, none⟩ (.int .i64 (i3 : Int))).setCell ⟨S, 6, none⟩ (.int .u32 g)).setCell ⟨S, 7, none⟩ (.slice af nf cf)).setCell ⟨S, 8, none⟩ (.slice ac nc cc)).setCell ⟨S, 9, none⟩ (.slice ao no co)).setCell ⟨S, 10, none⟩ (.int .i64 lm)).setCell ⟨S, 11, none⟩ (.int .i64 (e3 : Int))) = y at *
                have r1 : y.cell? ⟨T, 1, none⟩ = some (.int .i64 0) := HKTY.out.cell 1
                have rf : ∀ o, y.frozen? ⟨T, o, none⟩ = false := fun o => HKTY.out.frozen o
                clear q1 qf
                refine wpAnyN_late (i := 17) (o := ⟨none, _, _, _, _, _⟩) (by kernel_rfl) (by kernel_rfl) rfl (fun K hK => ?_)
                go_simp
                refine hK.out _ _ ?_
                clear hK K
                try simp only [Act.put, List.setIfInBounds_toArray, List.set_cons_zero, List.set_cons_succ]
                refine wpAnyN_end (by kernel_rfl) ?_
                have HKZ := Lib.hid (HKSY.out.far (p := ⟨T, 1, none⟩) (by exact fun h => HTS2.out h.symm) (.int .i64 (mm : Int)))
                have HKZB := Lib.hid (HKBY.out.far (p := ⟨T, 1, none⟩) (by have := HTS3.out; show S + 1 ≠ T; omega) (.int .i64 (mm : Int)))
                have HKZT := Lib.hid (HKTY.out.set_ 1 (.int .i64 (mm : Int)))
                have HBZ := Lib.hid (below_set HBY.out (p := ⟨T, 1, none⟩) (by have := HTS3.out; show S ≤ T; omega) (.int .i64 (mm : Int)))
                clear r1 rf
                go_wp2_with fail
                go_meet
                exact ⟨HKZ.out, HKZB.out, HKZT.out, HBZ.out⟩
            case rest =>
              obtain ⟨hka, hkb, hkt, hb⟩ := hcut
              obtain ⟨w6, rfl⟩ : ∃ x, x = wc := ⟨_, rfl⟩
              have HKS6 := Lib.hid hka
              have HKB6 := Lib.hid hkb
              have HKT6 := Lib.hid hkt
              have HB6 := Lib.hid hb
              clear hka hkb hkt hb
              have d0 : w6.cell? ⟨S, 0, none⟩ = some (.slice ad nd cd) := HKS6.out.cell 0
              have d1 : w6.cell? ⟨S, 1, none⟩ = some (.slice ai ni ci) := HKS6.out.cell 1
              have d2 : w6.cell? ⟨S, 2, none⟩ = some (.slice an nn cn) := HKS6.out.cell 2
              have d3 : w6.cell? ⟨S, 3, none⟩ = some (.slice av nv cv) := HKS6.out.cell 3
              have d4 : w6.cell? ⟨S, 4, none⟩ = some (.slice ta L.length tc) := HKS6.out.cell 4
              have d5 : w6.cell? ⟨S, 5, none⟩ = some (.int .i64 (i3 : Int)) := HKS6.out.cell 5
              have d6 : w6.cell? ⟨S, 6, none⟩ = some (.int .u32 g) := HKS6.out.cell 6
              have d7 : w6.cell? ⟨S, 7, none⟩ = some (.slice af nf cf) := HKS6.out.cell 7
              have d8 : w6.cell? ⟨S, 8, none⟩ = some (.slice ac nc cc) := HKS6.out.cell 8
              have d9 : w6.cell? ⟨S, 9, none⟩ = some (.slice ao no co) := HKS6.out.cell 9
              have d10 : w6.cell? ⟨S, 10, none⟩ = some (.int .i64 lm) := HKS6.out.cell 10
              have d11 : w6.cell? ⟨S, 11, none⟩ = some (.int .i64 (e3 : Int)) := HKS6.out.cell 11
              have fzd : ∀ o, w6.frozen? ⟨S, o, none⟩ = false := fun o => HKS6.out.frozen o
              go_wp2_with fail
              refine (HWB3.out _ HB6.out).mono ?_; rintro e w7 ⟨rfl, hb7⟩
              have HB7 := Lib.hid (HB6.out.trans (hb7.mono (by have := HKS6.out.lt; omega)))
              have HKS7 := Lib.hid (HKS6.out.below hb7 HKS6.out.lt)
              have HKB7 := Lib.hid (HKB6.out.below hb7 HKB6.out.lt)
              have HKT7 := Lib.hid (HKT6.out.below hb7 HKT6.out.lt)
              clear hb7
              clear d0 d1 d2 d3 d4 d5 d6 d7 d8 d9 d10 d11 fzd
              have d0 : w7.cell? ⟨S, 0, none⟩ = some (.slice ad nd cd) := HKS7.out.cell 0
              have d1 : w7.cell? ⟨S, 1, none⟩ = some (.slice ai ni ci) := HKS7.out.cell 1
              have d2 : w7.cell? ⟨S, 2, none⟩ = some (.slice an nn cn) := HKS7.out.cell 2
              have d3 : w7.cell? ⟨S, 3, none⟩ = some (.slice av nv cv) := HKS7.out.cell 3
              have d4 : w7.cell? ⟨S, 4, none⟩ = some (.slice ta L.length tc) := HKS7.out.cell 4
              have d5 : w7.cell? ⟨S, 5, none⟩ = some (.int .i64 (i3 : Int)) := HKS7.out.cell 5
              have d6 : w7.cell? ⟨S, 6, none⟩ = some (.int .u32 g) := HKS7.out.cell 6
              have d7 : w7.cell? ⟨S, 7, none⟩ = some (.slice af nf cf) := HKS7.out.cell 7
              have d8 : w7.cell? ⟨S, 8, none⟩ = some (.slice ac nc cc) := HKS7.out.cell 8
              have d9 : w7.cell? ⟨S, 9, none⟩ = some (.slice ao no co) := HKS7.out.cell 9
              have d10 : w7.cell? ⟨S, 10, none⟩ = some (.int .i64 lm) := HKS7.out.cell 10
              have d11 : w7.cell? ⟨S, 11, none⟩ = some (.int .i64 (e3 : Int)) := HKS7.out.cell 11
              have fzd : ∀ o, w7.frozen? ⟨S, o, none⟩ = false := fun o => HKS7.out.frozen o
              go_wp2_with fail
              clear d0 d1 d2 d3 d4 d5 d6 d7 d8 d9 d10 d11 fzd
              have HKS8 := Lib.hid (blk_st12 HKS7.out (.slice ad nd cd) (.slice ai ni ci) (.slice an nn cn) (.slice av nv cv) (.slice ta L.length tc) (.int .i64 (i4 : Int)) (.int .u32 g) (.slice af nf cf) (.slice ac nc cc) (.slice ao no co) (.int .i64 lm) (.int .i64 (e4 : Int)))
              have HKB8 := Lib.hid (blk_far12 HKB7.out (b := S) (by first | omega | exact HTS2.out) (.slice ad nd cd) (.slice ai ni ci) (.slice an nn cn) (.slice av nv cv) (.slice ta L.length tc) (.int .i64 (i4 : Int)) (.int .u32 g) (.slice af nf cf) (.slice ac nc cc) (.slice ao no co) (.int .i64 lm) (.int .i64 (e4 : Int)))
              have HKT8 := Lib.hid (blk_far12 HKT7.out (b := S) (by first | omega | exact HTS2.out) (.slice ad nd cd) (.slice ai ni ci) (.slice an nn cn) (.slice av nv cv) (.slice ta L.length tc) (.int .i64 (i4 : Int)) (.int .u32 g) (.slice af nf cf) (.slice ac nc cc) (.slice ao no co) (.int .i64 lm) (.int .i64 (e4 : Int)))
              have HB8 := Lib.hid (below_st12 HB7.out (b := S) (by have := HSW.out; omega) (.slice ad nd cd) (.slice ai ni ci) (.slice an nn cn) (.slice av nv cv) (.slice ta L.length tc) (.int .i64 (i4 : Int)) (.int .u32 g) (.slice af nf cf) (.slice ac nc cc) (.slice ao no co) (.int .i64 lm) (.int .i64 (e4 : Int)))
              generalize ((((((((((((w7.setCell ⟨S, 0, none⟩ (.slice ad nd cd)).setCell ⟨S, 1, none⟩ (.slice ai ni ci)).setCell ⟨S, 2, none⟩ (.slice an nn cn)).setCell ⟨S, 3, none⟩ (.slice av nv cv)).setCell ⟨S, 4, none⟩ (.slice ta L.length tc)).setCell ⟨S, 5, none⟩ (.int .i64 (i4 : Int))).setCell ⟨S, 6, none⟩ (.int .u32 g)).setCell ⟨S, 7, none⟩ (.slice af nf cf)).setCell ⟨S, 8, none⟩ (.slice ac nc cc)).setCell ⟨S, 9, none⟩ (.slice ao no co)).setCell ⟨S, 10, none⟩ (.int .i64 lm)).setCell ⟨S, 11, none⟩ (.int .i64 (e4 : Int))) = w8 at *
              go_meet
              refine ⟨i4, e4, mm, HCX.out, HW3.out.1, fun he => ?_, ?_, HKS8.out, HKB8.out, HKT8.out, HB8.out⟩
              · obtain ⟨k1, k2⟩ := HW3.out.2.2 he
                obtain ⟨k3, k4, -⟩ := HN2.out.2.2.1 k1
                obtain ⟨k5, k6⟩ := HW1.out.2.2 k3
                (try dsimp only at *)
                omega
              · have h1 := HN2.out.2.2.2
                have h2 := HML.out
                (try dsimp only at h1 h2)
                omega
        case rest =>
          obtain ⟨i3, e3, mm, hr, hi3, he3, hmm, hka, hkb, hkt, hb⟩ := hcut
          obtain ⟨w5, rfl⟩ : ∃ x, x = wc := ⟨_, rfl⟩
          have HRR := Lib.hid hr
          have HI3 := Lib.hid hi3
          have HE3 := Lib.hid he3
          have HMM := Lib.hid hmm
          have HKS := Lib.hid hka
          have HKB5 := Lib.hid hkb
          have HKT := Lib.hid hkt
          have HB5 := Lib.hid hb
          have HNC : Hid (cq.length = nc) := Lib.hid HST.out.q.2.2.1
          have hnc : nc ≤ 1001 := by have h1 := (HST.out.len HER.out).1; have h2 := HST.out.at'; have h3 := HNC.out; dsimp only at *; omega
          have HOLD : Hid (∀ w', Below w5.heap.size w5 w' → RowG 2 w' ac nc cc (colCells cq)) := Lib.hid (fun w' hbb => HST.out.q.2.1.below (HB5.out.trans (hbb.mono (by have := HKS.out.lt; omega))) (Nat.le_of_eq HSW.out))
          have HONE := Lib.hid (colCells_one cq)
          clear hr hi3 he3 hmm hka hkb hkt hb
          go_upto_region 11 with fail
          go_cut [] (fun wx => ∃ ra rc, Blk wx S 82 #[.slice ad nd cd, .slice ai ni ci, .slice an nn cn, .slice av nv cv, .slice ta L.length tc, .int .i64 (i3 : Int), .int .u32 g, .slice af nf cf, .slice ra (nc + 1) rc, .slice ao no co, .int .i64 lm, .int .i64 (e3 : Int)] ∧ Blk wx (S + 1) 82 #[.slice none 0 0, .slice none 0 0, .slice none 0 0, .slice none 0 0, .slice none 0 0, .int .i64 0, .int .u32 0, .slice none 0 0, .slice none 0 0, .slice none 0 0, .int .i64 0, .int .i64 0] ∧ wx.ownsRow (S + 2) 66 2 (.slice ra (nc + 1) rc) (nc + 1) (colCells cq ++ [.int .i64 (k : Int), .int .i64 (mm : Int)]) ∧ Below S w wx)
          case first =>
            have HS0 := Lib.hid (HKS.out).drew
            have HE0 := Lib.hid (HKT.out).drew
            have HOR0 : Hid (∀ w', Below w5.drew.heap.size w5.drew w' → RowG 2 w' ac nc cc (colCells cq)) := Lib.hid (fun w' hb => HOLD.out w' (((Below.refl _ _).drew).trans hb))
            have hBS : S < w5.drew.heap.size := HS0.out.lt
            have hBE : T < w5.drew.heap.size := HE0.out.lt
            refine wp_regionN (fun w' => Blk w' S 82 #[.slice ad nd cd, .slice ai ni ci, .slice an nn cn, .slice av nv cv, .slice ta L.length tc, .int .i64 (i3 : Int), .int .u32 g, .slice af nf cf, .slice ac nc cc, .slice ao no co, .int .i64 lm, .int .i64 (e3 : Int)] ∧ Blk w' T 66 #[.int .i64 (k : Int), .int .i64 (mm : Int)]) [10] (by kernel_rfl) (by exact ⟨HS0.out, HE0.out⟩) (fun hHeld => ?_)
            refine wpAnyN_take (i := 1) (oi := ⟨some 45, _, _, _, _, _⟩) (v := ?_) rfl (by kernel_rfl) (by kernel_rfl) (by kernel_rfl) (by kernel_rfl) (by kernel_rfl) (fun _ _ _ h => h) (Or.inl ⟨by rfl, ?_⟩) (by assumption) ?_
            rotate_left 1
            · (intro w hSw; obtain ⟨u0, u1, u2, u3, u4, u5, u6, u7, u8, u9, u10, u11⟩ := blk12 hSw.1; have v0 : w.cell? ⟨T, 0, none⟩ = some (.int .i64 (k : Int)) := hSw.2.cell 0; have v1 : w.cell? ⟨T, 1, none⟩ = some (.int .i64 (mm : Int)) := hSw.2.cell 1; go_simp; try with_reducible rfl)
            try simp only [Act.put, List.setIfInBounds_toArray, List.set_cons_zero, List.set_cons_succ]
            refine wpAnyN_take (i := 2) (oi := ⟨some 46, _, _, _, _, _⟩) (v := ?_) rfl (by kernel_rfl) (by kernel_rfl) (by kernel_rfl) (by kernel_rfl) (by kernel_rfl) (fun _ _ _ h => h) (Or.inl ⟨by rfl, ?_⟩) (by assumption) ?_
            rotate_left 1
            · (intro w hSw; obtain ⟨u0, u1, u2, u3, u4, u5, u6, u7, u8, u9, u10, u11⟩ := blk12 hSw.1; have v0 : w.cell? ⟨T, 0, none⟩ = some (.int .i64 (k : Int)) := hSw.2.cell 0; have v1 : w.cell? ⟨T, 1, none⟩ = some (.int .i64 (mm : Int)) := hSw.2.cell 1; go_simp; try with_reducible rfl)
            try simp only [Act.put, List.setIfInBounds_toArray, List.set_cons_zero, List.set_cons_succ]
            refine wpAnyN_take (i := 3) (oi := ⟨some 47, _, _, _, _, _⟩) (v := ?_) rfl (by kernel_rfl) (by kernel_rfl) (by kernel_rfl) (by kernel_rfl) (by kernel_rfl) (fun _ _ _ h => h) (Or.inl ⟨by rfl, ?_⟩) (by assumption) ?_
            rotate_left 1
            · (intro w hSw; obtain ⟨u0, u1, u2, u3, u4, u5, u6, u7, u8, u9, u10, u11⟩ := blk12 hSw.1; have v0 : w.cell? ⟨T, 0, none⟩ = some (.int .i64 (k : Int)) := hSw.2.cell 0; have v1 : w.cell? ⟨T, 1, none⟩ = some (.int .i64 (mm : Int)) := hSw.2.cell 1; go_simp; try with_reducible rfl)
            try simp only [Act.put, List.setIfInBounds_toArray, List.set_cons_zero, List.set_cons_succ]
            refine wpAnyN_take (i := 5) (oi := ⟨some 49, _, _, _, _, _⟩) (v := ?_) rfl (by kernel_rfl) (by kernel_rfl) (by kernel_rfl) (by kernel_rfl) (by kernel_rfl) (fun _ _ _ h => h) (Or.inl ⟨by rfl, ?_⟩) (by assumption) ?_
            rotate_left 1
            · (intro w hSw; obtain ⟨u0, u1, u2, u3, u4, u5, u6, u7, u8, u9, u10, u11⟩ := blk12 hSw.1; have v0 : w.cell? ⟨T, 0, none⟩ = some (.int .i64 (k : Int)) := hSw.2.cell 0; have v1 : w.cell? ⟨T, 1, none⟩ = some (.int .i64 (mm : Int)) := hSw.2.cell 1; go_simp; try with_reducible rfl)
            try simp only [Act.put, List.setIfInBounds_toArray, List.set_cons_zero, List.set_cons_succ]
            have HB0R := Lib.hid (Below.refl w5.drew.heap.size w5.drew)
            refine wpAnyN_both (i := 0) (j := 6) (o := ⟨some 44, _, _, _, _, _⟩) (p := ⟨some 50, _, _, _, _, _⟩) (by kernel_rfl) rfl rfl (fun K hK => ?_) (fun K hK => ?_)
            · go_simp
              have HO0 : Hid ((w5.drew.alloc (.cells #[] 66)).ownsRow w5.drew.heap.size 66 2 (.slice (some ⟨w5.heap.size, 0, none⟩) 0 0) 0 []) := Lib.hid (by have h := own_none w5.drew 66 _ HB0R.out.size; exact h)
              have HB_0 := Lib.hid (HB0R.out.alloc HB0R.out.size (.cells #[] 66))
              refine hK.out _ _ (by exact ⟨HS0.out.below HB_0.out hBS, HE0.out.below HB_0.out hBE⟩) ?_
              clear hK K hHeld
              intro hHeld
              try simp only [Act.put, List.setIfInBounds_toArray, List.set_cons_zero, List.set_cons_succ]
              refine wpAnyN_both (i := 4) (j := 6) (o := ⟨some 48, _, _, _, _, _⟩) (p := ⟨some 50, _, _, _, _, _⟩) (by kernel_rfl) rfl rfl (fun K hK => ?_) (fun K hK => ?_)
              · refine step_append_rowG (z := .agg #[.int .i64 0, .int .i64 0]) (sz := 2) (bytes := 16) info_col rfl (by decide) Try.underlying44 rfl _ _ (by rfl) _ w5.drew.heap.size _ 0 [] ac nc cc (colCells cq) (by rfl) (by rfl) HO0.out (HOR0.out _ HB_0.out) HONE.out (by omega) (by unfold maxLen; omega) HB_0.out.size ?_
                intro v1 x1 h2 h3 h4
                rw [Nat.zero_add, List.nil_append] at h2
                have HO1 := Lib.hid h2
                have HB_1 := Lib.hid (h4 _ HB_0.out)
                clear h2 h3 h4
                refine hK.out _ _ (by exact ⟨HS0.out.below HB_1.out hBS, HE0.out.below HB_1.out hBE⟩) ?_
                clear hK K hHeld
                intro hHeld
                try simp only [Act.put, List.setIfInBounds_toArray, List.set_cons_zero, List.set_cons_succ]
                refine wpAnyN_one (i := 6) (o := ⟨some 50, _, _, _, _, _⟩) (by kernel_rfl) rfl (fun K hK => ?_)
                go_simp
                have HL2 : Hid (RowG 2 (x1.alloc (.cells #[.int .i64 (k : Int), .int .i64 (mm : Int)] 66)) (some ⟨x1.heap.size, 0, none⟩) 1 1 [.int .i64 (k : Int), .int .i64 (mm : Int)]) := Lib.hid (by have h := row_elem x1 66 (.int .i64 (k : Int)) (.int .i64 (mm : Int)); exact h)
                have HB_2 := Lib.hid (HB_1.out.alloc HB_1.out.size (.cells #[.int .i64 (k : Int), .int .i64 (mm : Int)] 66))
                have HO2 := Lib.hid (World.ownsRow.alloc HO1.out (.cells #[.int .i64 (k : Int), .int .i64 (mm : Int)] 66))
                refine hK.out _ _ (by exact ⟨HS0.out.below HB_2.out hBS, HE0.out.below HB_2.out hBE⟩) ?_
                clear hK K hHeld
                intro hHeld
                try simp only [Act.put, List.setIfInBounds_toArray, List.set_cons_zero, List.set_cons_succ]
                refine wpAnyN_one (i := 7) (o := ⟨some 51, _, _, _, _, _⟩) (by kernel_rfl) rfl (fun K hK => ?_)
                refine step_append_rowG (z := .agg #[.int .i64 0, .int .i64 0]) (sz := 2) (bytes := 16) info_col rfl (by decide) Try.underlying44 rfl _ _ (by rfl) _ w5.drew.heap.size _ nc (colCells cq) (some ⟨x1.heap.size, 0, none⟩) 1 1 [.int .i64 (k : Int), .int .i64 (mm : Int)] (by rfl) (by rfl) HO2.out HL2.out (by intro u hu; simp at hu; rcases hu with rfl | rfl <;> rfl) (by omega) (by unfold maxLen; omega) HB_2.out.size ?_
                intro v3 x3 h2 h3 h4
                obtain ⟨ra, rc, rfl⟩ := own_form h2
                have HRF := Lib.hid h2
                have HB_3 := Lib.hid (h4 _ HB_2.out)
                clear h2 h3 h4
                refine hK.out _ _ (by exact ⟨HS0.out.below HB_3.out hBS, HE0.out.below HB_3.out hBE⟩) ?_
                clear hK K hHeld
                intro hHeld
                try simp only [Act.put, List.setIfInBounds_toArray, List.set_cons_zero, List.set_cons_succ]
                refine wpAnyN_take (i := 8) (oi := ⟨some 52, _, _, _, _, _⟩) (v := ?_) rfl (by kernel_rfl) (by kernel_rfl) (by kernel_rfl) (by kernel_rfl) (by kernel_rfl) (fun _ _ _ h => h) (Or.inl ⟨by rfl, ?_⟩) (by assumption) ?_
                rotate_left 1
                · (intro w hSw; obtain ⟨u0, u1, u2, u3, u4, u5, u6, u7, u8, u9, u10, u11⟩ := blk12 hSw.1; have v0 : w.cell? ⟨T, 0, none⟩ = some (.int .i64 (k : Int)) := hSw.2.cell 0; have v1 : w.cell? ⟨T, 1, none⟩ = some (.int .i64 (mm : Int)) := hSw.2.cell 1; go_simp; try with_reducible rfl)
                try simp only [Act.put, List.setIfInBounds_toArray, List.set_cons_zero, List.set_cons_succ]
                refine wpAnyN_take (i := 9) (oi := ⟨some 53, _, _, _, _, _⟩) (v := ?_) rfl (by kernel_rfl) (by kernel_rfl) (by kernel_rfl) (by kernel_rfl) (by kernel_rfl) (fun _ _ _ h => h) (Or.inl ⟨by rfl, ?_⟩) (by assumption) ?_
                rotate_left 1
                · (intro w hSw; obtain ⟨u0, u1, u2, u3, u4, u5, u6, u7, u8, u9, u10, u11⟩ := blk12 hSw.1; have v0 : w.cell? ⟨T, 0, none⟩ = some (.int .i64 (k : Int)) := hSw.2.cell 0; have v1 : w.cell? ⟨T, 1, none⟩ = some (.int .i64 (mm : Int)) := hSw.2.cell 1; go_simp; try with_reducible rfl)
                try simp only [Act.put, List.setIfInBounds_toArray, List.set_cons_zero, List.set_cons_succ]
                refine wpAnyN_late (i := 10) (o := ⟨none, _, _, _, _, _⟩) (by kernel_rfl) (by kernel_rfl) rfl (fun K hK => ?_)
                obtain ⟨u0, u1, u2, u3, u4, u5, u6, u7, u8, u9, u10, u11⟩ := blk12 hHeld.1
                have uf : ∀ o, x3.frozen? ⟨S, o, none⟩ = false := fun o => hHeld.1.frozen o
                go_simp
                refine hK.out _ _ ?_
                clear hK K u0 u1 u2 u3 u4 u5 u6 u7 u8 u9 u10 u11 uf
                try simp only [Act.put, List.setIfInBounds_toArray, List.set_cons_zero, List.set_cons_succ]
                refine wpAnyN_end (by kernel_rfl) ?_
                have HSF := Lib.hid (hHeld.1.set_ 8 (.slice ra (nc + 1) rc))
                have HBE0 := Lib.hid (((Below.refl _ _).drew).trans HB_3.out)
                clear hHeld
                have HSB := Lib.hid ((HKB5.out.below HBE0.out HKB5.out.lt).far (p := ⟨S, 8, none⟩) (by show S + 1 ≠ S; omega) (.slice ra (nc + 1) rc))
                have HBZ := Lib.hid (below_set (HB5.out.trans (HBE0.out.mono (show S ≤ w5.drew.heap.size by have := HKS.out.lt; show S ≤ w5.heap.size; omega))) (p := ⟨S, 8, none⟩) (Nat.le_refl S) (.slice ra (nc + 1) rc))
                go_wp2_with fail
                go_meet
                exact ⟨ra, rc, HSF.out, HSB.out, own_base (own_set HRF.out hBS 8 _) (by have := HKB5.out.lt; show S + 2 ≤ w5.heap.size; omega), HBZ.out⟩
              · go_simp
                have HL1 : Hid (RowG 2 ((w5.drew.alloc (.cells #[] 66)).alloc (.cells #[.int .i64 (k : Int), .int .i64 (mm : Int)] 66)) (some ⟨w5.heap.size + 1, 0, none⟩) 1 1 [.int .i64 (k : Int), .int .i64 (mm : Int)]) := Lib.hid (by have h := row_elem (w5.drew.alloc (.cells #[] 66)) 66 (.int .i64 (k : Int)) (.int .i64 (mm : Int)); rw [World.size_alloc] at h; exact h)
                have HB_1 := Lib.hid (HB_0.out.alloc HB_0.out.size (.cells #[.int .i64 (k : Int), .int .i64 (mm : Int)] 66))
                have HO1 := Lib.hid (World.ownsRow.alloc HO0.out (.cells #[.int .i64 (k : Int), .int .i64 (mm : Int)] 66))
                have HNE : Hid (w5.heap.size + 1 ≠ w5.heap.size) := Lib.hid (by simp)
                refine hK.out _ _ (by exact ⟨HS0.out.below HB_1.out hBS, HE0.out.below HB_1.out hBE⟩) ?_
                clear hK K hHeld
                intro hHeld
                try simp only [Act.put, List.setIfInBounds_toArray, List.set_cons_zero, List.set_cons_succ]
                refine wpAnyN_one (i := 4) (o := ⟨some 48, _, _, _, _, _⟩) (by kernel_rfl) rfl (fun K hK => ?_)
                refine step_append_rowG (z := .agg #[.int .i64 0, .int .i64 0]) (sz := 2) (bytes := 16) info_col rfl (by decide) Try.underlying44 rfl _ _ (by rfl) _ w5.drew.heap.size _ 0 [] ac nc cc (colCells cq) (by rfl) (by rfl) HO1.out (HOR0.out _ HB_1.out) HONE.out (by omega) (by unfold maxLen; omega) HB_1.out.size ?_
                intro v2 x2 h2 h3 h4
                rw [Nat.zero_add, List.nil_append] at h2
                have HO2 := Lib.hid h2
                have HB_2 := Lib.hid (h4 _ HB_1.out)
                have HL2 := Lib.hid (HL1.out.grown h3 (.inr (fun x hx => by cases hx; intro hy; simp [Value.ownBlock] at hy)))
                clear h2 h3 h4
                refine hK.out _ _ (by exact ⟨HS0.out.below HB_2.out hBS, HE0.out.below HB_2.out hBE⟩) ?_
                clear hK K hHeld
                intro hHeld
                try simp only [Act.put, List.setIfInBounds_toArray, List.set_cons_zero, List.set_cons_succ]
                refine wpAnyN_one (i := 7) (o := ⟨some 51, _, _, _, _, _⟩) (by kernel_rfl) rfl (fun K hK => ?_)
                refine step_append_rowG (z := .agg #[.int .i64 0, .int .i64 0]) (sz := 2) (bytes := 16) info_col rfl (by decide) Try.underlying44 rfl _ _ (by rfl) _ w5.drew.heap.size _ nc (colCells cq) (some ⟨w5.heap.size + 1, 0, none⟩) 1 1 [.int .i64 (k : Int), .int .i64 (mm : Int)] (by rfl) (by rfl) HO2.out HL2.out (by intro u hu; simp at hu; rcases hu with rfl | rfl <;> rfl) (by omega) (by unfold maxLen; omega) HB_2.out.size ?_
                intro v3 x3 h2 h3 h4
                obtain ⟨ra, rc, rfl⟩ := own_form h2
                have HRF := Lib.hid h2
                have HB_3 := Lib.hid (h4 _ HB_2.out)
                clear h2 h3 h4
                refine hK.out _ _ (by exact ⟨HS0.out.below HB_3.out hBS, HE0.out.below HB_3.out hBE⟩) ?_
                clear hK K hHeld
                intro hHeld
                try simp only [Act.put, List.setIfInBounds_toArray, List.set_cons_zero, List.set_cons_succ]
                refine wpAnyN_take (i := 8) (oi := ⟨some 52, _, _, _, _, _⟩) (v := ?_) rfl (by kernel_rfl) (by kernel_rfl) (by kernel_rfl) (by kernel_rfl) (by kernel_rfl) (fun _ _ _ h => h) (Or.inl ⟨by rfl, ?_⟩) (by assumption) ?_
                rotate_left 1
                · (intro w hSw; obtain ⟨u0, u1, u2, u3, u4, u5, u6, u7, u8, u9, u10, u11⟩ := blk12 hSw.1; have v0 : w.cell? ⟨T, 0, none⟩ = some (.int .i64 (k : Int)) := hSw.2.cell 0; have v1 : w.cell? ⟨T, 1, none⟩ = some (.int .i64 (mm : Int)) := hSw.2.cell 1; go_simp; try with_reducible rfl)
                try simp only [Act.put, List.setIfInBounds_toArray, List.set_cons_zero, List.set_cons_succ]
                refine wpAnyN_take (i := 9) (oi := ⟨some 53, _, _, _, _, _⟩) (v := ?_) rfl (by kernel_rfl) (by kernel_rfl) (by kernel_rfl) (by kernel_rfl) (by kernel_rfl) (fun _ _ _ h => h) (Or.inl ⟨by rfl, ?_⟩) (by assumption) ?_
                rotate_left 1
                · (intro w hSw; obtain ⟨u0, u1, u2, u3, u4, u5, u6, u7, u8, u9, u10, u11⟩ := blk12 hSw.1; have v0 : w.cell? ⟨T, 0, none⟩ = some (.int .i64 (k : Int)) := hSw.2.cell 0; have v1 : w.cell? ⟨T, 1, none⟩ = some (.int .i64 (mm : Int)) := hSw.2.cell 1; go_simp; try with_reducible rfl)
                try simp only [Act.put, List.setIfInBounds_toArray, List.set_cons_zero, List.set_cons_succ]
                refine wpAnyN_late (i := 10) (o := ⟨none, _, _, _, _, _⟩) (by kernel_rfl) (by kernel_rfl) rfl (fun K hK => ?_)
                obtain ⟨u0, u1, u2, u3, u4, u5, u6, u7, u8, u9, u10, u11⟩ := blk12 hHeld.1
                have uf : ∀ o, x3.frozen? ⟨S, o, none⟩ = false := fun o => hHeld.1.frozen o
                go_simp
                refine hK.out _ _ ?_
                clear hK K u0 u1 u2 u3 u4 u5 u6 u7 u8 u9 u10 u11 uf
                try simp only [Act.put, List.setIfInBounds_toArray, List.set_cons_zero, List.set_cons_succ]
                refine wpAnyN_end (by kernel_rfl) ?_
                have HSF := Lib.hid (hHeld.1.set_ 8 (.slice ra (nc + 1) rc))
                have HBE0 := Lib.hid (((Below.refl _ _).drew).trans HB_3.out)
                clear hHeld
                have HSB := Lib.hid ((HKB5.out.below HBE0.out HKB5.out.lt).far (p := ⟨S, 8, none⟩) (by show S + 1 ≠ S; omega) (.slice ra (nc + 1) rc))
                have HBZ := Lib.hid (below_set (HB5.out.trans (HBE0.out.mono (show S ≤ w5.drew.heap.size by have := HKS.out.lt; show S ≤ w5.heap.size; omega))) (p := ⟨S, 8, none⟩) (Nat.le_refl S) (.slice ra (nc + 1) rc))
                go_wp2_with fail
                go_meet
                exact ⟨ra, rc, HSF.out, HSB.out, own_base (own_set HRF.out hBS 8 _) (by have := HKB5.out.lt; show S + 2 ≤ w5.heap.size; omega), HBZ.out⟩
            · go_simp
              have HL0 : Hid (RowG 2 (w5.drew.alloc (.cells #[.int .i64 (k : Int), .int .i64 (mm : Int)] 66)) (some ⟨w5.heap.size, 0, none⟩) 1 1 [.int .i64 (k : Int), .int .i64 (mm : Int)]) := Lib.hid (by have h := row_elem w5.drew 66 (.int .i64 (k : Int)) (.int .i64 (mm : Int)); exact h)
              have HB_0 := Lib.hid (HB0R.out.alloc HB0R.out.size (.cells #[.int .i64 (k : Int), .int .i64 (mm : Int)] 66))
              refine hK.out _ _ (by exact ⟨HS0.out.below HB_0.out hBS, HE0.out.below HB_0.out hBE⟩) ?_
              clear hK K hHeld
              intro hHeld
              try simp only [Act.put, List.setIfInBounds_toArray, List.set_cons_zero, List.set_cons_succ]
              refine wpAnyN_one (i := 0) (o := ⟨some 44, _, _, _, _, _⟩) (by kernel_rfl) rfl (fun K hK => ?_)
              go_simp
              have HO1 : Hid (((w5.drew.alloc (.cells #[.int .i64 (k : Int), .int .i64 (mm : Int)] 66)).alloc (.cells #[] 66)).ownsRow w5.drew.heap.size 66 2 (.slice (some ⟨w5.heap.size + 1, 0, none⟩) 0 0) 0 []) := Lib.hid (by have h := own_none (w5.drew.alloc (.cells #[.int .i64 (k : Int), .int .i64 (mm : Int)] 66)) 66 _ HB_0.out.size; rw [World.size_alloc] at h; exact h)
              have HB_1 := Lib.hid (HB_0.out.alloc HB_0.out.size (.cells #[] 66))
              have HL1 := Lib.hid (HL0.out.below ((Below.refl _ _).alloc (Nat.le_refl _) (.cells #[] 66)) (Nat.le_refl _))
              have HNE : Hid (w5.heap.size ≠ w5.heap.size + 1) := Lib.hid (by simp)
              refine hK.out _ _ (by exact ⟨HS0.out.below HB_1.out hBS, HE0.out.below HB_1.out hBE⟩) ?_
              clear hK K hHeld
              intro hHeld
              try simp only [Act.put, List.setIfInBounds_toArray, List.set_cons_zero, List.set_cons_succ]
              refine wpAnyN_one (i := 4) (o := ⟨some 48, _, _, _, _, _⟩) (by kernel_rfl) rfl (fun K hK => ?_)
              refine step_append_rowG (z := .agg #[.int .i64 0, .int .i64 0]) (sz := 2) (bytes := 16) info_col rfl (by decide) Try.underlying44 rfl _ _ (by rfl) _ w5.drew.heap.size _ 0 [] ac nc cc (colCells cq) (by rfl) (by rfl) HO1.out (HOR0.out _ HB_1.out) HONE.out (by omega) (by unfold maxLen; omega) HB_1.out.size ?_
              intro v2 x2 h2 h3 h4
              rw [Nat.zero_add, List.nil_append] at h2
              have HO2 := Lib.hid h2
              have HB_2 := Lib.hid (h4 _ HB_1.out)
              have HL2 := Lib.hid (HL1.out.grown h3 (.inr (fun x hx => by cases hx; intro hy; simp [Value.ownBlock] at hy)))
              clear h2 h3 h4
              refine hK.out _ _ (by exact ⟨HS0.out.below HB_2.out hBS, HE0.out.below HB_2.out hBE⟩) ?_
              clear hK K hHeld
              intro hHeld
              try simp only [Act.put, List.setIfInBounds_toArray, List.set_cons_zero, List.set_cons_succ]
              refine wpAnyN_one (i := 7) (o := ⟨some 51, _, _, _, _, _⟩) (by kernel_rfl) rfl (fun K hK => ?_)
              refine step_append_rowG (z := .agg #[.int .i64 0, .int .i64 0]) (sz := 2) (bytes := 16) info_col rfl (by decide) Try.underlying44 rfl _ _ (by rfl) _ w5.drew.heap.size _ nc (colCells cq) (some ⟨w5.heap.size, 0, none⟩) 1 1 [.int .i64 (k : Int), .int .i64 (mm : Int)] (by rfl) (by rfl) HO2.out HL2.out (by intro u hu; simp at hu; rcases hu with rfl | rfl <;> rfl) (by omega) (by unfold maxLen; omega) HB_2.out.size ?_
              intro v3 x3 h2 h3 h4
              obtain ⟨ra, rc, rfl⟩ := own_form h2
              have HRF := Lib.hid h2
              have HB_3 := Lib.hid (h4 _ HB_2.out)
              clear h2 h3 h4
              refine hK.out _ _ (by exact ⟨HS0.out.below HB_3.out hBS, HE0.out.below HB_3.out hBE⟩) ?_
              clear hK K hHeld
              intro hHeld
              try simp only [Act.put, List.setIfInBounds_toArray, List.set_cons_zero, List.set_cons_succ]
              refine wpAnyN_take (i := 8) (oi := ⟨some 52, _, _, _, _, _⟩) (v := ?_) rfl (by kernel_rfl) (by kernel_rfl) (by kernel_rfl) (by kernel_rfl) (by kernel_rfl) (fun _ _ _ h => h) (Or.inl ⟨by rfl, ?_⟩) (by assumption) ?_
              rotate_left 1
              · (intro w hSw; obtain ⟨u0, u1, u2, u3, u4, u5, u6, u7, u8, u9, u10, u11⟩ := blk12 hSw.1; have v0 : w.cell? ⟨T, 0, none⟩ = some (.int .i64 (k : Int)) := hSw.2.cell 0; have v1 : w.cell? ⟨T, 1, none⟩ = some (.int .i64 (mm : Int)) := hSw.2.cell 1; go_simp; try with_reducible rfl)
              try simp only [Act.put, List.setIfInBounds_toArray, List.set_cons_zero, List.set_cons_succ]
              refine wpAnyN_take (i := 9) (oi := ⟨some 53, _, _, _, _, _⟩) (v := ?_) rfl (by kernel_rfl) (by kernel_rfl) (by kernel_rfl) (by kernel_rfl) (by kernel_rfl) (fun _ _ _ h => h) (Or.inl ⟨by rfl, ?_⟩) (by assumption) ?_
              rotate_left 1
              · (intro w hSw; obtain ⟨u0, u1, u2, u3, u4, u5, u6, u7, u8, u9, u10, u11⟩ := blk12 hSw.1; have v0 : w.cell? ⟨T, 0, none⟩ = some (.int .i64 (k : Int)) := hSw.2.cell 0; have v1 : w.cell? ⟨T, 1, none⟩ = some (.int .i64 (mm : Int)) := hSw.2.cell 1; go_simp; try with_reducible rfl)
              try simp only [Act.put, List.setIfInBounds_toArray, List.set_cons_zero, List.set_cons_succ]
              refine wpAnyN_late (i := 10) (o := ⟨none, _, _, _, _, _⟩) (by kernel_rfl) (by kernel_rfl) rfl (fun K hK => ?_)
              obtain ⟨u0, u1, u2, u3, u4, u5, u6, u7, u8, u9, u10, u11⟩ := blk12 hHeld.1
              have uf : ∀ o, x3.frozen? ⟨S, o, none⟩ = false := fun o => hHeld.1.frozen o
              go_simp
              refine hK.out _ _ ?_
              clear hK K u0 u1 u2 u3 u4 u5 u6 u7 u8 u9 u10 u11 uf
              try simp only [Act.put, List.setIfInBounds_toArray, List.set_cons_zero, List.set_cons_succ]
              refine wpAnyN_end (by kernel_rfl) ?_
              have HSF := Lib.hid (hHeld.1.set_ 8 (.slice ra (nc + 1) rc))
              have HBE0 := Lib.hid (((Below.refl _ _).drew).trans HB_3.out)
              clear hHeld
              have HSB := Lib.hid ((HKB5.out.below HBE0.out HKB5.out.lt).far (p := ⟨S, 8, none⟩) (by show S + 1 ≠ S; omega) (.slice ra (nc + 1) rc))
              have HBZ := Lib.hid (below_set (HB5.out.trans (HBE0.out.mono (show S ≤ w5.drew.heap.size by have := HKS.out.lt; show S ≤ w5.heap.size; omega))) (p := ⟨S, 8, none⟩) (Nat.le_refl S) (.slice ra (nc + 1) rc))
              go_wp2_with fail
              go_meet
              exact ⟨ra, rc, HSF.out, HSB.out, own_base (own_set HRF.out hBS 8 _) (by have := HKB5.out.lt; show S + 2 ≤ w5.heap.size; omega), HBZ.out⟩
          case rest =>
            obtain ⟨ra, rc, hka, hkb, hrg, hb⟩ := hcut
            have HKA7 := Lib.hid hka
            have HKB7 := Lib.hid hkb
            have HRG := Lib.hid hrg
            have HB7 := Lib.hid hb
            obtain ⟨w7, rfl⟩ : ∃ x, x = wc := ⟨_, rfl⟩
            clear hka hkb hrg hb
            have c0 : w7.cell? ⟨S, 0, none⟩ = some (.slice ad nd cd) := HKA7.out.cell 0
            have c1 : w7.cell? ⟨S, 1, none⟩ = some (.slice ai ni ci) := HKA7.out.cell 1
            have c2 : w7.cell? ⟨S, 2, none⟩ = some (.slice an nn cn) := HKA7.out.cell 2
            have c3 : w7.cell? ⟨S, 3, none⟩ = some (.slice av nv cv) := HKA7.out.cell 3
            have c4 : w7.cell? ⟨S, 4, none⟩ = some (.slice ta L.length tc) := HKA7.out.cell 4
            have c5 : w7.cell? ⟨S, 5, none⟩ = some (.int .i64 (i3 : Int)) := HKA7.out.cell 5
            have c6 : w7.cell? ⟨S, 6, none⟩ = some (.int .u32 g) := HKA7.out.cell 6
            have c7 : w7.cell? ⟨S, 7, none⟩ = some (.slice af nf cf) := HKA7.out.cell 7
            have c8 : w7.cell? ⟨S, 8, none⟩ = some (.slice ra (nc + 1) rc) := HKA7.out.cell 8
            have c9 : w7.cell? ⟨S, 9, none⟩ = some (.slice ao no co) := HKA7.out.cell 9
            have c10 : w7.cell? ⟨S, 10, none⟩ = some (.int .i64 lm) := HKA7.out.cell 10
            have c11 : w7.cell? ⟨S, 11, none⟩ = some (.int .i64 (e3 : Int)) := HKA7.out.cell 11
            have d0 : w7.cell? ⟨S + 1, 0, none⟩ = some (.slice none 0 0) := HKB7.out.cell 0
            have d1 : w7.cell? ⟨S + 1, 1, none⟩ = some (.slice none 0 0) := HKB7.out.cell 1
            have d2 : w7.cell? ⟨S + 1, 2, none⟩ = some (.slice none 0 0) := HKB7.out.cell 2
            have d3 : w7.cell? ⟨S + 1, 3, none⟩ = some (.slice none 0 0) := HKB7.out.cell 3
            have d4 : w7.cell? ⟨S + 1, 4, none⟩ = some (.slice none 0 0) := HKB7.out.cell 4
            have d5 : w7.cell? ⟨S + 1, 5, none⟩ = some (.int .i64 0) := HKB7.out.cell 5
            have d6 : w7.cell? ⟨S + 1, 6, none⟩ = some (.int .u32 0) := HKB7.out.cell 6
            have d7 : w7.cell? ⟨S + 1, 7, none⟩ = some (.slice none 0 0) := HKB7.out.cell 7
            have d8 : w7.cell? ⟨S + 1, 8, none⟩ = some (.slice none 0 0) := HKB7.out.cell 8
            have d9 : w7.cell? ⟨S + 1, 9, none⟩ = some (.slice none 0 0) := HKB7.out.cell 9
            have d10 : w7.cell? ⟨S + 1, 10, none⟩ = some (.int .i64 0) := HKB7.out.cell 10
            have d11 : w7.cell? ⟨S + 1, 11, none⟩ = some (.int .i64 0) := HKB7.out.cell 11
            have fzd : ∀ o, w7.frozen? ⟨S + 1, o, none⟩ = false := fun o => HKB7.out.frozen o
            go_wp2_with fail
            have HRGF := Lib.hid (own_set (own_set (own_set (own_set (own_set (own_set (own_set (own_set (own_set (own_set (own_set (own_set HRG.out (R := S + 1) (by omega) 0 (.slice ad nd cd)) (R := S + 1) (by omega) 1 (.slice ai ni ci)) (R := S + 1) (by omega) 2 (.slice an nn cn)) (R := S + 1) (by omega) 3 (.slice av nv cv)) (R := S + 1) (by omega) 4 (.slice ta L.length tc)) (R := S + 1) (by omega) 5 (.int .i64 (i3 : Int))) (R := S + 1) (by omega) 6 (.int .u32 g)) (R := S + 1) (by omega) 7 (.slice af nf cf)) (R := S + 1) (by omega) 8 (.slice ra (nc + 1) rc)) (R := S + 1) (by omega) 9 (.slice ao no co)) (R := S + 1) (by omega) 10 (.int .i64 lm)) (R := S + 1) (by omega) 11 (.int .i64 (e3 : Int)))
            have HKF := Lib.hid (blk_st12 (HKB7.out) (.slice ad nd cd) (.slice ai ni ci) (.slice an nn cn) (.slice av nv cv) (.slice ta L.length tc) (.int .i64 (i3 : Int)) (.int .u32 g) (.slice af nf cf) (.slice ra (nc + 1) rc) (.slice ao no co) (.int .i64 lm) (.int .i64 (e3 : Int)))
            have HBF := Lib.hid (below_st12 (HB7.out) (b := S + 1) (by have := HSW.out; omega) (.slice ad nd cd) (.slice ai ni ci) (.slice an nn cn) (.slice av nv cv) (.slice ta L.length tc) (.int .i64 (i3 : Int)) (.int .u32 g) (.slice af nf cf) (.slice ra (nc + 1) rc) (.slice ao no co) (.int .i64 lm) (.int .i64 (e3 : Int)))
            generalize ((((((((((((w7.setCell ⟨S + 1, 0, none⟩ (.slice ad nd cd)).setCell ⟨S + 1, 1, none⟩ (.slice ai ni ci)).setCell ⟨S + 1, 2, none⟩ (.slice an nn cn)).setCell ⟨S + 1, 3, none⟩ (.slice av nv cv)).setCell ⟨S + 1, 4, none⟩ (.slice ta L.length tc)).setCell ⟨S + 1, 5, none⟩ (.int .i64 (i3 : Int))).setCell ⟨S + 1, 6, none⟩ (.int .u32 g)).setCell ⟨S + 1, 7, none⟩ (.slice af nf cf)).setCell ⟨S + 1, 8, none⟩ (.slice ra (nc + 1) rc)).setCell ⟨S + 1, 9, none⟩ (.slice ao no co)).setCell ⟨S + 1, 10, none⟩ (.int .i64 lm)).setCell ⟨S + 1, 11, none⟩ (.int .i64 (e3 : Int))) = Wf at *
            have z0 : Wf.cell? ⟨S + 1, 0, none⟩ = some (.slice ad nd cd) := HKF.out.cell 0
            have z1 : Wf.cell? ⟨S + 1, 1, none⟩ = some (.slice ai ni ci) := HKF.out.cell 1
            have z2 : Wf.cell? ⟨S + 1, 2, none⟩ = some (.slice an nn cn) := HKF.out.cell 2
            have z3 : Wf.cell? ⟨S + 1, 3, none⟩ = some (.slice av nv cv) := HKF.out.cell 3
            have z4 : Wf.cell? ⟨S + 1, 4, none⟩ = some (.slice ta L.length tc) := HKF.out.cell 4
            have z5 : Wf.cell? ⟨S + 1, 5, none⟩ = some (.int .i64 (i3 : Int)) := HKF.out.cell 5
            have z6 : Wf.cell? ⟨S + 1, 6, none⟩ = some (.int .u32 g) := HKF.out.cell 6
            have z7 : Wf.cell? ⟨S + 1, 7, none⟩ = some (.slice af nf cf) := HKF.out.cell 7
            have z8 : Wf.cell? ⟨S + 1, 8, none⟩ = some (.slice ra (nc + 1) rc) := HKF.out.cell 8
            have z9 : Wf.cell? ⟨S + 1, 9, none⟩ = some (.slice ao no co) := HKF.out.cell 9
            have z10 : Wf.cell? ⟨S + 1, 10, none⟩ = some (.int .i64 lm) := HKF.out.cell 10
            have z11 : Wf.cell? ⟨S + 1, 11, none⟩ = some (.int .i64 (e3 : Int)) := HKF.out.cell 11
            refine bodyPost_ret (v := .agg #[.slice ad nd cd, .slice ai ni ci, .slice an nn cn, .slice av nv cv, .slice ta L.length tc, .int .i64 (i3 : Int), .int .u32 g, .slice af nf cf, .slice ra (nc + 1) rc, .slice ao no co, .int .i64 lm, .int .i64 (e3 : Int)]) (by simp [results, Try.results74, go_sem, z0, z1, z2, z3, z4, z5, z6, z7, z8, z9, z10, z11]) rfl ?_
            rw [HRR.out]
            refine ⟨⟨af, nf, cf, ra, nc + 1, rc, ao, no, co⟩, fl, rfl, fun wx hag => ?_, by rw [HSW.out]; exact HBF.out⟩
            have h := HSG.out wx (hag.old (by rw [HSW.out]; exact HBF.out))
            refine ⟨col_qry h.q (x := ((k : Int), (mm : Int))) ⟨i64_small (by dsimp only; omega) (by dsimp only; omega), i64_small (by dsimp only; omega) (by have := HMM.out; dsimp only; omega)⟩ (by rw [colCells_push]; exact own_rowg (own_agr hag HRGF.out (by have := HSW.out; omega))), h.fs, h.grp, fun he => ?_, HI3.out⟩
            obtain ⟨k3, k4, k5⟩ := h.len HER.out
            have k6 := HE3.out he
            dsimp only at *
            rw [List.length_append]
            exact ⟨by show cq.length + 1 ≤ i3; omega, by omega, by omega⟩
    · have d0 : wr.cell? ⟨S, 0, none⟩ = some (.slice ad nd cd) := HKS.out.cell 0
      have d1 : wr.cell? ⟨S, 1, none⟩ = some (.slice ai ni ci) := HKS.out.cell 1
      have d2 : wr.cell? ⟨S, 2, none⟩ = some (.slice an nn cn) := HKS.out.cell 2
      have d3 : wr.cell? ⟨S, 3, none⟩ = some (.slice av nv cv) := HKS.out.cell 3
      have d4 : wr.cell? ⟨S, 4, none⟩ = some (.slice ta L.length tc) := HKS.out.cell 4
      have d5 : wr.cell? ⟨S, 5, none⟩ = some (.int .i64 (i : Int)) := HKS.out.cell 5
      have d6 : wr.cell? ⟨S, 6, none⟩ = some (.int .u32 g) := HKS.out.cell 6
      have d7 : wr.cell? ⟨S, 7, none⟩ = some (.slice af nf cf) := HKS.out.cell 7
      have d8 : wr.cell? ⟨S, 8, none⟩ = some (.slice ac nc cc) := HKS.out.cell 8
      have d9 : wr.cell? ⟨S, 9, none⟩ = some (.slice ao no co) := HKS.out.cell 9
      have d10 : wr.cell? ⟨S, 10, none⟩ = some (.int .i64 lm) := HKS.out.cell 10
      have d11 : wr.cell? ⟨S, 11, none⟩ = some (.int .i64 (er : Int)) := HKS.out.cell 11
      have HKK : Hid (er = 0 → kindAt L i aggW 0 = none) := Lib.hid (fun he => by rw [← HKA.out he, show k = 7 by have := HQ.out; omega]; rfl)
      go_wp2_with fail
      refine (HFA.out _).mono ?_; rintro e w2 ⟨rfl, hb2⟩
      have HB2 := Lib.hid (HB.out.trans (hb2.mono (by have := HKS.out.lt; omega)))
      have HKC := Lib.hid (HKB.out.below hb2 HKB.out.lt)
      clear hb2
      clear d0 d1 d2 d3 d4 d5 d6 d7 d8 d9 d10 d11
      have HCX : Hid (r = failR ⟨i, ⟨g, fq, cq, oq, lm⟩, er⟩ 6) := Lib.hid (by
        rw [← HCR.out]
        unfold colR
        dsimp only
        by_cases he : er = 0
        · rw [if_pos he, HKK.out he]
        · rw [if_neg he])
      obtain ⟨p2, hp2⟩ : ∃ x, failR ⟨i, ⟨g, fq, cq, oq, lm⟩, er⟩ 6 = x := ⟨_, rfl⟩
      have HP2 := Lib.hid hp2
      rw [hp2] at HCX ⊢
      clear hp2
      have d0 : w2.cell? ⟨S + 1, 0, none⟩ = some (.slice none 0 0) := HKC.out.cell 0
      have d1 : w2.cell? ⟨S + 1, 1, none⟩ = some (.slice none 0 0) := HKC.out.cell 1
      have d2 : w2.cell? ⟨S + 1, 2, none⟩ = some (.slice none 0 0) := HKC.out.cell 2
      have d3 : w2.cell? ⟨S + 1, 3, none⟩ = some (.slice none 0 0) := HKC.out.cell 3
      have d4 : w2.cell? ⟨S + 1, 4, none⟩ = some (.slice none 0 0) := HKC.out.cell 4
      have d5 : w2.cell? ⟨S + 1, 5, none⟩ = some (.int .i64 0) := HKC.out.cell 5
      have d6 : w2.cell? ⟨S + 1, 6, none⟩ = some (.int .u32 0) := HKC.out.cell 6
      have d7 : w2.cell? ⟨S + 1, 7, none⟩ = some (.slice none 0 0) := HKC.out.cell 7
      have d8 : w2.cell? ⟨S + 1, 8, none⟩ = some (.slice none 0 0) := HKC.out.cell 8
      have d9 : w2.cell? ⟨S + 1, 9, none⟩ = some (.slice none 0 0) := HKC.out.cell 9
      have d10 : w2.cell? ⟨S + 1, 10, none⟩ = some (.int .i64 0) := HKC.out.cell 10
      have d11 : w2.cell? ⟨S + 1, 11, none⟩ = some (.int .i64 0) := HKC.out.cell 11
      have fzd : ∀ o, w2.frozen? ⟨S + 1, o, none⟩ = false := fun o => HKC.out.frozen o
      go_wp2_with fail
      have HKF := Lib.hid (blk_st12 (HKC.out) (.slice ad nd cd) (.slice ai ni ci) (.slice an nn cn) (.slice av nv cv) (.slice ta L.length tc) (.int .i64 (p2.at' : Int)) (.int .u32 p2.q.group) (.slice af nf cf) (.slice ac nc cc) (.slice ao no co) (.int .i64 p2.q.limit) (.int .i64 (p2.err : Int)))
      have HBF := Lib.hid (below_st12 (HB2.out) (b := S + 1) (by have := HSW.out; omega) (.slice ad nd cd) (.slice ai ni ci) (.slice an nn cn) (.slice av nv cv) (.slice ta L.length tc) (.int .i64 (p2.at' : Int)) (.int .u32 p2.q.group) (.slice af nf cf) (.slice ac nc cc) (.slice ao no co) (.int .i64 p2.q.limit) (.int .i64 (p2.err : Int)))
      generalize ((((((((((((w2.setCell ⟨S + 1, 0, none⟩ (.slice ad nd cd)).setCell ⟨S + 1, 1, none⟩ (.slice ai ni ci)).setCell ⟨S + 1, 2, none⟩ (.slice an nn cn)).setCell ⟨S + 1, 3, none⟩ (.slice av nv cv)).setCell ⟨S + 1, 4, none⟩ (.slice ta L.length tc)).setCell ⟨S + 1, 5, none⟩ (.int .i64 (p2.at' : Int))).setCell ⟨S + 1, 6, none⟩ (.int .u32 p2.q.group)).setCell ⟨S + 1, 7, none⟩ (.slice af nf cf)).setCell ⟨S + 1, 8, none⟩ (.slice ac nc cc)).setCell ⟨S + 1, 9, none⟩ (.slice ao no co)).setCell ⟨S + 1, 10, none⟩ (.int .i64 p2.q.limit)).setCell ⟨S + 1, 11, none⟩ (.int .i64 (p2.err : Int))) = Wf at *
      have z0 : Wf.cell? ⟨S + 1, 0, none⟩ = some (.slice ad nd cd) := HKF.out.cell 0
      have z1 : Wf.cell? ⟨S + 1, 1, none⟩ = some (.slice ai ni ci) := HKF.out.cell 1
      have z2 : Wf.cell? ⟨S + 1, 2, none⟩ = some (.slice an nn cn) := HKF.out.cell 2
      have z3 : Wf.cell? ⟨S + 1, 3, none⟩ = some (.slice av nv cv) := HKF.out.cell 3
      have z4 : Wf.cell? ⟨S + 1, 4, none⟩ = some (.slice ta L.length tc) := HKF.out.cell 4
      have z5 : Wf.cell? ⟨S + 1, 5, none⟩ = some (.int .i64 (p2.at' : Int)) := HKF.out.cell 5
      have z6 : Wf.cell? ⟨S + 1, 6, none⟩ = some (.int .u32 p2.q.group) := HKF.out.cell 6
      have z7 : Wf.cell? ⟨S + 1, 7, none⟩ = some (.slice af nf cf) := HKF.out.cell 7
      have z8 : Wf.cell? ⟨S + 1, 8, none⟩ = some (.slice ac nc cc) := HKF.out.cell 8
      have z9 : Wf.cell? ⟨S + 1, 9, none⟩ = some (.slice ao no co) := HKF.out.cell 9
      have z10 : Wf.cell? ⟨S + 1, 10, none⟩ = some (.int .i64 p2.q.limit) := HKF.out.cell 10
      have z11 : Wf.cell? ⟨S + 1, 11, none⟩ = some (.int .i64 (p2.err : Int)) := HKF.out.cell 11
      refine bodyPost_ret (v := .agg #[.slice ad nd cd, .slice ai ni ci, .slice an nn cn, .slice av nv cv, .slice ta L.length tc, .int .i64 (p2.at' : Int), .int .u32 p2.q.group, .slice af nf cf, .slice ac nc cc, .slice ao no co, .int .i64 p2.q.limit, .int .i64 (p2.err : Int)]) (by simp [results, Try.results74, go_sem, z0, z1, z2, z3, z4, z5, z6, z7, z8, z9, z10, z11]) rfl ?_
      rw [HCX.out]
      refine ⟨⟨af, nf, cf, ac, nc, cc, ao, no, co⟩, fl, rfl, fun wx hag => ?_, by rw [HSW.out]; exact HBF.out⟩
      have h := HSG.out wx (hag.old (by rw [HSW.out]; exact HBF.out))
      have h9 := fail_at ⟨i, ⟨g, fq, cq, oq, lm⟩, er⟩ 6
      have h10 : (failR ⟨i, ⟨g, fq, cq, oq, lm⟩, er⟩ 6).err ≠ 0 := fail_err (by decide)
      rw [HP2.out] at h9 h10
      exact h.same h9.2 (by rw [h9.1]; exact HST.out.at') (fun he => absurd he h10)
end Go.Proofs.Ytaofjnidniekjaa
