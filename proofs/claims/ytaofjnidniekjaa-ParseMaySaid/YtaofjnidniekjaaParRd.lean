/- The reference's reading (package bushelref36): place. Conditions: those stated. -/
import Derived.Test.YtaofjnidniekjaaParRc
namespace Go.Proofs.Ytaofjnidniekjaa
open Go.RowKit

set_option maxRecDepth 100000 in
set_option maxHeartbeats 1000000 in
theorem vplace_any (X : RX) (m : QryL) (p : PState) (w : World) (hX : X.At w) (hi : p.at' < X.L.length) (ya : Option Addr) (yn yc : Nat) (ys : List ByteArray) (hy : RowS w ya yn yc ys) :
    Calls Try.prog 79 #[StV X m p, .slice ya yn yc] w (RStN X m ((placeR ys X.L p).1, ((placeR ys X.L p).2 : Int)) w) := by
  have hmany := hX.good.many
  have HN : Hid (∀ w', Below w.heap.size w w' → Calls Try.prog 34 #[StV X m p] w' fun e w'' => e = .returned (tokAt X.L p.at').val ∧ Below w'.heap.size w' w'') := Lib.hid (fun w' hb => vnext_any X m p w' (hX.below hb (Nat.le_refl _)) hi)
  have HON : Hid (∀ w', Calls Try.prog 32 #[StV X m p] w' (RSt X m (onR p) w')) := Lib.hid (fun w' => von_any X m p w' (by omega))
  have HFA : Hid (∀ w', Calls Try.prog 35 #[StV X m p, .int .i64 (6 : Int)] w' (RSt X m (failR p 6) w')) := Lib.hid (fun w' => vfail_any X m p w' 6)
  have HFB : Hid (∀ w', Calls Try.prog 35 #[StV X m p, .int .i64 (11 : Int)] w' (RSt X m (failR p 11) w')) := Lib.hid (fun w' => vfail_any X m p w' 11)
  have HR : Hid (placeR ys X.L p = if p.err ≠ 0 ∨ (tokAt X.L p.at').k ≠ 2 then (failR p 6, 0) else if place ys (tokAt X.L p.at').t < 0 then (failR p 11, 0) else (onR p, (place ys (tokAt X.L p.at').t).toNat)) := Lib.hid rfl
  have HPL : Hid (∀ (w' : World) (u : ByteArray) (r : Int), place ys u = r → Below w.heap.size w w' → Calls Try.prog 44 #[.slice ya yn yc, .string u] w' fun e w'' => e = .returned (.int .i64 r) ∧ w' = w'') := Lib.hid (fun w' u r hr hb => rplace_at2 ya yn yc ys u r w' (hy.below hb (Nat.le_refl _)) hr)
  clear hX hi hmany hy
  unfold RSt RStN at *
  obtain ⟨p1, hp1⟩ : ∃ x, onR p = x := ⟨_, rfl⟩
  obtain ⟨p2, hp2⟩ : ∃ x, failR p 6 = x := ⟨_, rfl⟩
  obtain ⟨p3, hp3⟩ : ∃ x, failR p 11 = x := ⟨_, rfl⟩
  obtain ⟨r, hr⟩ : ∃ x, placeR ys X.L p = x := ⟨_, rfl⟩
  rw [hp1] at HON HR
  rw [hp2] at HFA HR
  rw [hp3] at HFB HR
  rw [hr] at HR ⊢
  clear hp1 hp2 hp3 hr
  obtain ⟨⟨k, t, n, a⟩, hx⟩ : ∃ x, tokAt X.L p.at' = x := ⟨_, rfl⟩
  rw [hx] at HN HR
  unfold Tok.val at HN
  clear hx
  obtain ⟨pl, hpl⟩ : ∃ x, place ys t = x := ⟨_, rfl⟩
  have HPT := Lib.hid (fun w' => HPL.out w' t pl hpl)
  dsimp only at HR
  rw [hpl] at HR
  clear hpl HPL
  unfold StV at *
  obtain ⟨⟨ad, nd, cd, ai, ni, ci, an, nn, cn, av, nv, cv⟩, s, ta, tc, L⟩ := X
  obtain ⟨af, nf, cf, ac, nc, cc, ao, no, co⟩ := m
  obtain ⟨i, ⟨g, fq, cq, oq, lm⟩, er⟩ := p
  (try dsimp only at *)
  obtain ⟨W0, hW0⟩ : ∃ W0, ((w.alloc (.cells #[.slice ad nd cd, .slice ai ni ci, .slice an nn cn, .slice av nv cv, .slice ta L.length tc, .int .i64 (i : Int), .int .u32 g, .slice af nf cf, .slice ac nc cc, .slice ao no co, .int .i64 lm, .int .i64 (er : Int)] 82)).alloc (.cells #[.slice none 0 0, .slice none 0 0, .slice none 0 0, .slice none 0 0, .slice none 0 0, .int .i64 0, .int .u32 0, .slice none 0 0, .slice none 0 0, .slice none 0 0, .int .i64 0, .int .i64 0] 82)) = W0 := ⟨_, rfl⟩
  have HB0 : Hid (Below w.heap.size w W0) := Lib.hid (by
    rw [← hW0]
    exact (((Below.refl _ _).alloc (Nat.le_refl _) _).alloc (by simp) _))
  have HZ0 : Hid (W0.heap.size = w.heap.size + 2) := Lib.hid (by rw [← hW0]; simp)
  have HK0 : Hid (Blk W0 (w.heap.size) 82 #[.slice ad nd cd, .slice ai ni ci, .slice an nn cn, .slice av nv cv, .slice ta L.length tc, .int .i64 (i : Int), .int .u32 g, .slice af nf cf, .slice ac nc cc, .slice ao no co, .int .i64 lm, .int .i64 (er : Int)]) := Lib.hid (by
    rw [← hW0]
    have h := Blk.new w 82 #[.slice ad nd cd, .slice ai ni ci, .slice an nn cn, .slice av nv cv, .slice ta L.length tc, .int .i64 (i : Int), .int .u32 g, .slice af nf cf, .slice ac nc cc, .slice ao no co, .int .i64 lm, .int .i64 (er : Int)]
    exact h.alloc _)
  have HK1 : Hid (Blk W0 (w.heap.size + 1) 82 #[.slice none 0 0, .slice none 0 0, .slice none 0 0, .slice none 0 0, .slice none 0 0, .int .i64 0, .int .u32 0, .slice none 0 0, .slice none 0 0, .slice none 0 0, .int .i64 0, .int .i64 0]) := Lib.hid (by
    rw [← hW0]
    have h := Blk.new (w.alloc (.cells #[.slice ad nd cd, .slice ai ni ci, .slice an nn cn, .slice av nv cv, .slice ta L.length tc, .int .i64 (i : Int), .int .u32 g, .slice af nf cf, .slice ac nc cc, .slice ao no co, .int .i64 lm, .int .i64 (er : Int)] 82)) 82 #[.slice none 0 0, .slice none 0 0, .slice none 0 0, .slice none 0 0, .slice none 0 0, .int .i64 0, .int .u32 0, .slice none 0 0, .slice none 0 0, .slice none 0 0, .int .i64 0, .int .i64 0]
    rw [World.size_alloc] at h
    exact h)
  (try unfold StV)
  (try dsimp only)
  go_enter Try.func79, Try.ntmps79
  go_upto_region 1 with fail
  clear hW0
  generalize hS : w.heap.size = S at *
  have HSW := Lib.hid hS
  clear hS
  have c0 : W0.cell? ⟨S, 0, none⟩ = some (.slice ad nd cd) := HK0.out.cell 0
  have c1 : W0.cell? ⟨S, 1, none⟩ = some (.slice ai ni ci) := HK0.out.cell 1
  have c2 : W0.cell? ⟨S, 2, none⟩ = some (.slice an nn cn) := HK0.out.cell 2
  have c3 : W0.cell? ⟨S, 3, none⟩ = some (.slice av nv cv) := HK0.out.cell 3
  have c4 : W0.cell? ⟨S, 4, none⟩ = some (.slice ta L.length tc) := HK0.out.cell 4
  have c5 : W0.cell? ⟨S, 5, none⟩ = some (.int .i64 (i : Int)) := HK0.out.cell 5
  have c6 : W0.cell? ⟨S, 6, none⟩ = some (.int .u32 g) := HK0.out.cell 6
  have c7 : W0.cell? ⟨S, 7, none⟩ = some (.slice af nf cf) := HK0.out.cell 7
  have c8 : W0.cell? ⟨S, 8, none⟩ = some (.slice ac nc cc) := HK0.out.cell 8
  have c9 : W0.cell? ⟨S, 9, none⟩ = some (.slice ao no co) := HK0.out.cell 9
  have c10 : W0.cell? ⟨S, 10, none⟩ = some (.int .i64 lm) := HK0.out.cell 10
  have c11 : W0.cell? ⟨S, 11, none⟩ = some (.int .i64 (er : Int)) := HK0.out.cell 11
  have hfd := tok_f0' k n a t
  have hfe := tok_f1' k n a t
  by_cases h0 : er = 0
  · have t0 : ((er : Int) != 0) = false := by rw [h0]; rfl
    have H0 := Lib.hid h0
    clear h0
    go_wp2_with fail
    refine (HN.out _ HB0.out).mono ?_; rintro e w1 ⟨rfl, hb1⟩
    have HB1 := Lib.hid (HB0.out.trans (hb1.mono (by have := HZ0.out; omega)))
    have HKA := Lib.hid (HK0.out.below hb1 HK0.out.lt)
    have HKB := Lib.hid (HK1.out.below hb1 HK1.out.lt)
    clear hb1
    clear c0 c1 c2 c3 c4 c5 c6 c7 c8 c9 c10 c11
    have c0 : w1.cell? ⟨S, 0, none⟩ = some (.slice ad nd cd) := HKA.out.cell 0
    have c1 : w1.cell? ⟨S, 1, none⟩ = some (.slice ai ni ci) := HKA.out.cell 1
    have c2 : w1.cell? ⟨S, 2, none⟩ = some (.slice an nn cn) := HKA.out.cell 2
    have c3 : w1.cell? ⟨S, 3, none⟩ = some (.slice av nv cv) := HKA.out.cell 3
    have c4 : w1.cell? ⟨S, 4, none⟩ = some (.slice ta L.length tc) := HKA.out.cell 4
    have c5 : w1.cell? ⟨S, 5, none⟩ = some (.int .i64 (i : Int)) := HKA.out.cell 5
    have c6 : w1.cell? ⟨S, 6, none⟩ = some (.int .u32 g) := HKA.out.cell 6
    have c7 : w1.cell? ⟨S, 7, none⟩ = some (.slice af nf cf) := HKA.out.cell 7
    have c8 : w1.cell? ⟨S, 8, none⟩ = some (.slice ac nc cc) := HKA.out.cell 8
    have c9 : w1.cell? ⟨S, 9, none⟩ = some (.slice ao no co) := HKA.out.cell 9
    have c10 : w1.cell? ⟨S, 10, none⟩ = some (.int .i64 lm) := HKA.out.cell 10
    have c11 : w1.cell? ⟨S, 11, none⟩ = some (.int .i64 (er : Int)) := HKA.out.cell 11
    by_cases hk : k = 2
    · have t1 : (k != 2) = false := by rw [hk]; rfl
      have HR1 : Hid (r = if pl < 0 then (p3, 0) else (p1, pl.toNat)) := Lib.hid (by rw [HR.out, if_neg (by rintro (h | h); exact h H0.out; exact h hk)])
      clear hk
      go_wp2_with fail
      refine (HN.out _ (HB1.out)).mono ?_; rintro e w2 ⟨rfl, hb2⟩
      have HB2 := Lib.hid (HB1.out.trans (hb2.mono (by have := HB1.out.size; have := HSW.out; omega)))
      have HKA2 := Lib.hid (HKA.out.below hb2 HKA.out.lt)
      have HKB2 := Lib.hid (HKB.out.below hb2 HKB.out.lt)
      clear hb2
      clear c0 c1 c2 c3 c4 c5 c6 c7 c8 c9 c10 c11
      go_wp2_with fail
      refine (HPT.out _ HB2.out).mono ?_; rintro e w3 ⟨rfl, rfl⟩
      have c0 : w2.cell? ⟨S, 0, none⟩ = some (.slice ad nd cd) := HKA2.out.cell 0
      have c1 : w2.cell? ⟨S, 1, none⟩ = some (.slice ai ni ci) := HKA2.out.cell 1
      have c2 : w2.cell? ⟨S, 2, none⟩ = some (.slice an nn cn) := HKA2.out.cell 2
      have c3 : w2.cell? ⟨S, 3, none⟩ = some (.slice av nv cv) := HKA2.out.cell 3
      have c4 : w2.cell? ⟨S, 4, none⟩ = some (.slice ta L.length tc) := HKA2.out.cell 4
      have c5 : w2.cell? ⟨S, 5, none⟩ = some (.int .i64 (i : Int)) := HKA2.out.cell 5
      have c6 : w2.cell? ⟨S, 6, none⟩ = some (.int .u32 g) := HKA2.out.cell 6
      have c7 : w2.cell? ⟨S, 7, none⟩ = some (.slice af nf cf) := HKA2.out.cell 7
      have c8 : w2.cell? ⟨S, 8, none⟩ = some (.slice ac nc cc) := HKA2.out.cell 8
      have c9 : w2.cell? ⟨S, 9, none⟩ = some (.slice ao no co) := HKA2.out.cell 9
      have c10 : w2.cell? ⟨S, 10, none⟩ = some (.int .i64 lm) := HKA2.out.cell 10
      have c11 : w2.cell? ⟨S, 11, none⟩ = some (.int .i64 (er : Int)) := HKA2.out.cell 11
      by_cases hp : pl < 0
      · have t2 : decide (pl < 0) = true := decide_eq_true hp
        have HRR : Hid (r = (p3, 0)) := Lib.hid (by rw [HR1.out, if_pos hp])
        clear hp
        go_wp2_with fail
        refine (HFB.out _).mono ?_; rintro e w3 ⟨rfl, hb3⟩
        have HB3 := Lib.hid (HB2.out.trans (hb3.mono (by have := HB2.out.size; have := HSW.out; omega)))
        have HKC := Lib.hid (HKB2.out.below hb3 HKB2.out.lt)
        clear hb3
        clear c0 c1 c2 c3 c4 c5 c6 c7 c8 c9 c10 c11
        have d0 : w3.cell? ⟨S + 1, 0, none⟩ = some (.slice none 0 0) := HKC.out.cell 0
        have d1 : w3.cell? ⟨S + 1, 1, none⟩ = some (.slice none 0 0) := HKC.out.cell 1
        have d2 : w3.cell? ⟨S + 1, 2, none⟩ = some (.slice none 0 0) := HKC.out.cell 2
        have d3 : w3.cell? ⟨S + 1, 3, none⟩ = some (.slice none 0 0) := HKC.out.cell 3
        have d4 : w3.cell? ⟨S + 1, 4, none⟩ = some (.slice none 0 0) := HKC.out.cell 4
        have d5 : w3.cell? ⟨S + 1, 5, none⟩ = some (.int .i64 0) := HKC.out.cell 5
        have d6 : w3.cell? ⟨S + 1, 6, none⟩ = some (.int .u32 0) := HKC.out.cell 6
        have d7 : w3.cell? ⟨S + 1, 7, none⟩ = some (.slice none 0 0) := HKC.out.cell 7
        have d8 : w3.cell? ⟨S + 1, 8, none⟩ = some (.slice none 0 0) := HKC.out.cell 8
        have d9 : w3.cell? ⟨S + 1, 9, none⟩ = some (.slice none 0 0) := HKC.out.cell 9
        have d10 : w3.cell? ⟨S + 1, 10, none⟩ = some (.int .i64 0) := HKC.out.cell 10
        have d11 : w3.cell? ⟨S + 1, 11, none⟩ = some (.int .i64 0) := HKC.out.cell 11
        have fzd : ∀ o, w3.frozen? ⟨S + 1, o, none⟩ = false := fun o => HKC.out.frozen o
        go_wp2_with fail
        have HKF := Lib.hid (blk_st12 (HKC.out) (.slice ad nd cd) (.slice ai ni ci) (.slice an nn cn) (.slice av nv cv) (.slice ta L.length tc) (.int .i64 (p3.at' : Int)) (.int .u32 p3.q.group) (.slice af nf cf) (.slice ac nc cc) (.slice ao no co) (.int .i64 p3.q.limit) (.int .i64 (p3.err : Int)))
        have HBF := Lib.hid (below_st12 (HB3.out) (b := S + 1) (by have := HSW.out; omega) (.slice ad nd cd) (.slice ai ni ci) (.slice an nn cn) (.slice av nv cv) (.slice ta L.length tc) (.int .i64 (p3.at' : Int)) (.int .u32 p3.q.group) (.slice af nf cf) (.slice ac nc cc) (.slice ao no co) (.int .i64 p3.q.limit) (.int .i64 (p3.err : Int)))
        generalize ((((((((((((w3.setCell ⟨S + 1, 0, none⟩ (.slice ad nd cd)).setCell ⟨S + 1, 1, none⟩ (.slice ai ni ci)).setCell ⟨S + 1, 2, none⟩ (.slice an nn cn)).setCell ⟨S + 1, 3, none⟩ (.slice av nv cv)).setCell ⟨S + 1, 4, none⟩ (.slice ta L.length tc)).setCell ⟨S + 1, 5, none⟩ (.int .i64 (p3.at' : Int))).setCell ⟨S + 1, 6, none⟩ (.int .u32 p3.q.group)).setCell ⟨S + 1, 7, none⟩ (.slice af nf cf)).setCell ⟨S + 1, 8, none⟩ (.slice ac nc cc)).setCell ⟨S + 1, 9, none⟩ (.slice ao no co)).setCell ⟨S + 1, 10, none⟩ (.int .i64 p3.q.limit)).setCell ⟨S + 1, 11, none⟩ (.int .i64 (p3.err : Int))) = Wf at *
        have z0 : Wf.cell? ⟨S + 1, 0, none⟩ = some (.slice ad nd cd) := HKF.out.cell 0
        have z1 : Wf.cell? ⟨S + 1, 1, none⟩ = some (.slice ai ni ci) := HKF.out.cell 1
        have z2 : Wf.cell? ⟨S + 1, 2, none⟩ = some (.slice an nn cn) := HKF.out.cell 2
        have z3 : Wf.cell? ⟨S + 1, 3, none⟩ = some (.slice av nv cv) := HKF.out.cell 3
        have z4 : Wf.cell? ⟨S + 1, 4, none⟩ = some (.slice ta L.length tc) := HKF.out.cell 4
        have z5 : Wf.cell? ⟨S + 1, 5, none⟩ = some (.int .i64 (p3.at' : Int)) := HKF.out.cell 5
        have z6 : Wf.cell? ⟨S + 1, 6, none⟩ = some (.int .u32 p3.q.group) := HKF.out.cell 6
        have z7 : Wf.cell? ⟨S + 1, 7, none⟩ = some (.slice af nf cf) := HKF.out.cell 7
        have z8 : Wf.cell? ⟨S + 1, 8, none⟩ = some (.slice ac nc cc) := HKF.out.cell 8
        have z9 : Wf.cell? ⟨S + 1, 9, none⟩ = some (.slice ao no co) := HKF.out.cell 9
        have z10 : Wf.cell? ⟨S + 1, 10, none⟩ = some (.int .i64 p3.q.limit) := HKF.out.cell 10
        have z11 : Wf.cell? ⟨S + 1, 11, none⟩ = some (.int .i64 (p3.err : Int)) := HKF.out.cell 11
        refine bodyPost_ret (v := .tuple #[.agg #[.slice ad nd cd, .slice ai ni ci, .slice an nn cn, .slice av nv cv, .slice ta L.length tc, .int .i64 (p3.at' : Int), .int .u32 p3.q.group, .slice af nf cf, .slice ac nc cc, .slice ao no co, .int .i64 p3.q.limit, .int .i64 (p3.err : Int)], .int .i64 0]) (by simp [results, Try.results79, go_sem, z0, z1, z2, z3, z4, z5, z6, z7, z8, z9, z10, z11]) rfl ?_
        exact ⟨by rw [HRR.out]; rfl, by rw [HSW.out]; exact HBF.out⟩
      · have t2 : decide (pl < 0) = false := decide_eq_false hp
        have HRR : Hid (r = (p1, pl.toNat)) := Lib.hid (by rw [HR1.out, if_neg hp])
        have HPN : Hid (((pl.toNat : Nat) : Int) = pl) := Lib.hid (by omega)
        clear hp
        go_wp2_with fail
        refine (HON.out _).mono ?_; rintro e w3 ⟨rfl, hb3⟩
        have HB3 := Lib.hid (HB2.out.trans (hb3.mono (by have := HB2.out.size; have := HSW.out; omega)))
        have HKC := Lib.hid (HKB2.out.below hb3 HKB2.out.lt)
        clear hb3
        clear c0 c1 c2 c3 c4 c5 c6 c7 c8 c9 c10 c11
        have d0 : w3.cell? ⟨S + 1, 0, none⟩ = some (.slice none 0 0) := HKC.out.cell 0
        have d1 : w3.cell? ⟨S + 1, 1, none⟩ = some (.slice none 0 0) := HKC.out.cell 1
        have d2 : w3.cell? ⟨S + 1, 2, none⟩ = some (.slice none 0 0) := HKC.out.cell 2
        have d3 : w3.cell? ⟨S + 1, 3, none⟩ = some (.slice none 0 0) := HKC.out.cell 3
        have d4 : w3.cell? ⟨S + 1, 4, none⟩ = some (.slice none 0 0) := HKC.out.cell 4
        have d5 : w3.cell? ⟨S + 1, 5, none⟩ = some (.int .i64 0) := HKC.out.cell 5
        have d6 : w3.cell? ⟨S + 1, 6, none⟩ = some (.int .u32 0) := HKC.out.cell 6
        have d7 : w3.cell? ⟨S + 1, 7, none⟩ = some (.slice none 0 0) := HKC.out.cell 7
        have d8 : w3.cell? ⟨S + 1, 8, none⟩ = some (.slice none 0 0) := HKC.out.cell 8
        have d9 : w3.cell? ⟨S + 1, 9, none⟩ = some (.slice none 0 0) := HKC.out.cell 9
        have d10 : w3.cell? ⟨S + 1, 10, none⟩ = some (.int .i64 0) := HKC.out.cell 10
        have d11 : w3.cell? ⟨S + 1, 11, none⟩ = some (.int .i64 0) := HKC.out.cell 11
        have fzd : ∀ o, w3.frozen? ⟨S + 1, o, none⟩ = false := fun o => HKC.out.frozen o
        go_wp2_with fail
        have HKF := Lib.hid (blk_st12 (HKC.out) (.slice ad nd cd) (.slice ai ni ci) (.slice an nn cn) (.slice av nv cv) (.slice ta L.length tc) (.int .i64 (p1.at' : Int)) (.int .u32 p1.q.group) (.slice af nf cf) (.slice ac nc cc) (.slice ao no co) (.int .i64 p1.q.limit) (.int .i64 (p1.err : Int)))
        have HBF := Lib.hid (below_st12 (HB3.out) (b := S + 1) (by have := HSW.out; omega) (.slice ad nd cd) (.slice ai ni ci) (.slice an nn cn) (.slice av nv cv) (.slice ta L.length tc) (.int .i64 (p1.at' : Int)) (.int .u32 p1.q.group) (.slice af nf cf) (.slice ac nc cc) (.slice ao no co) (.int .i64 p1.q.limit) (.int .i64 (p1.err : Int)))
        generalize ((((((((((((w3.setCell ⟨S + 1, 0, none⟩ (.slice ad nd cd)).setCell ⟨S + 1, 1, none⟩ (.slice ai ni ci)).setCell ⟨S + 1, 2, none⟩ (.slice an nn cn)).setCell ⟨S + 1, 3, none⟩ (.slice av nv cv)).setCell ⟨S + 1, 4, none⟩ (.slice ta L.length tc)).setCell ⟨S + 1, 5, none⟩ (.int .i64 (p1.at' : Int))).setCell ⟨S + 1, 6, none⟩ (.int .u32 p1.q.group)).setCell ⟨S + 1, 7, none⟩ (.slice af nf cf)).setCell ⟨S + 1, 8, none⟩ (.slice ac nc cc)).setCell ⟨S + 1, 9, none⟩ (.slice ao no co)).setCell ⟨S + 1, 10, none⟩ (.int .i64 p1.q.limit)).setCell ⟨S + 1, 11, none⟩ (.int .i64 (p1.err : Int))) = Wf at *
        have z0 : Wf.cell? ⟨S + 1, 0, none⟩ = some (.slice ad nd cd) := HKF.out.cell 0
        have z1 : Wf.cell? ⟨S + 1, 1, none⟩ = some (.slice ai ni ci) := HKF.out.cell 1
        have z2 : Wf.cell? ⟨S + 1, 2, none⟩ = some (.slice an nn cn) := HKF.out.cell 2
        have z3 : Wf.cell? ⟨S + 1, 3, none⟩ = some (.slice av nv cv) := HKF.out.cell 3
        have z4 : Wf.cell? ⟨S + 1, 4, none⟩ = some (.slice ta L.length tc) := HKF.out.cell 4
        have z5 : Wf.cell? ⟨S + 1, 5, none⟩ = some (.int .i64 (p1.at' : Int)) := HKF.out.cell 5
        have z6 : Wf.cell? ⟨S + 1, 6, none⟩ = some (.int .u32 p1.q.group) := HKF.out.cell 6
        have z7 : Wf.cell? ⟨S + 1, 7, none⟩ = some (.slice af nf cf) := HKF.out.cell 7
        have z8 : Wf.cell? ⟨S + 1, 8, none⟩ = some (.slice ac nc cc) := HKF.out.cell 8
        have z9 : Wf.cell? ⟨S + 1, 9, none⟩ = some (.slice ao no co) := HKF.out.cell 9
        have z10 : Wf.cell? ⟨S + 1, 10, none⟩ = some (.int .i64 p1.q.limit) := HKF.out.cell 10
        have z11 : Wf.cell? ⟨S + 1, 11, none⟩ = some (.int .i64 (p1.err : Int)) := HKF.out.cell 11
        refine bodyPost_ret (v := .tuple #[.agg #[.slice ad nd cd, .slice ai ni ci, .slice an nn cn, .slice av nv cv, .slice ta L.length tc, .int .i64 (p1.at' : Int), .int .u32 p1.q.group, .slice af nf cf, .slice ac nc cc, .slice ao no co, .int .i64 p1.q.limit, .int .i64 (p1.err : Int)], .int .i64 pl]) (by simp [results, Try.results79, go_sem, z0, z1, z2, z3, z4, z5, z6, z7, z8, z9, z10, z11]) rfl ?_
        exact ⟨by rw [HRR.out, HPN.out], by rw [HSW.out]; exact HBF.out⟩
    · have t1 : (k != 2) = true := by rw [bne_iff_ne]; exact hk
      have HRR : Hid (r = (p2, 0)) := Lib.hid (by rw [HR.out, if_pos (.inr hk)])
      clear hk
      go_wp2_with fail
      refine (HFA.out _).mono ?_; rintro e w2 ⟨rfl, hb2⟩
      have HB2 := Lib.hid (HB1.out.trans (hb2.mono (by have := HB1.out.size; have := HSW.out; omega)))
      have HKC := Lib.hid (HKB.out.below hb2 HKB.out.lt)
      clear hb2
      clear c0 c1 c2 c3 c4 c5 c6 c7 c8 c9 c10 c11
      have d0 : w2.cell? ⟨S + 1, 0, none⟩ = some (.slice none 0 0) := HKC.out.cell 0
      have d1 : w2.cell? ⟨S + 1, 1, none⟩ = some (.slice none 0 0) := HKC.out.cell 1
      have d2 : w2.cell? ⟨S + 1, 2, none⟩ = some (.slice none 0 0) := HKC.out.cell 2
      have d3 : w2.cell? ⟨S + 1, 3, none⟩ = some (.slice none 0 0) := HKC.out.cell 3
      have d4 : w2.cell? ⟨S + 1, 4, none⟩ = some (.slice none 0 0) := HKC.out.cell 4
      have d5 : w2.cell? ⟨S + 1, 5, none⟩ = some (.int .i64 0) := HKC.out.cell 5
      have d6 : w2.cell? ⟨S + 1, 6, none⟩ = some (.int .u32 0) := HKC.out.cell 6
      have d7 : w2.cell? ⟨S + 1, 7, none⟩ = some (.slice none 0 0) := HKC.out.cell 7
      have d8 : w2.cell? ⟨S + 1, 8, none⟩ = some (.slice none 0 0) := HKC.out.cell 8
      have d9 : w2.cell? ⟨S + 1, 9, none⟩ = some (.slice none 0 0) := HKC.out.cell 9
      have d10 : w2.cell? ⟨S + 1, 10, none⟩ = some (.int .i64 0) := HKC.out.cell 10
      have d11 : w2.cell? ⟨S + 1, 11, none⟩ = some (.int .i64 0) := HKC.out.cell 11
      have fzd : ∀ o, w2.frozen? ⟨S + 1, o, none⟩ = false := fun o => HKC.out.frozen o
      go_wp2_with fail
      have HKF := Lib.hid (blk_st12 (HKC.out) (.slice ad nd cd) (.slice ai ni ci) (.slice an nn cn) (.slice av nv cv) (.slice ta L.length tc) (.int .i64 (p2.at' : Int)) (.int .u32 p2.q.group) (.slice af nf cf) (.slice ac nc cc) (.slice ao no co) (.int .i64 p2.q.limit) (.int .i64 (p2.err : Int)))
      have HBF := Lib.hid (below_st12 (HB2.out) (b := S + 1) (by have := HSW.out; omega) (.slice ad nd cd) (.slice ai ni ci) (.slice an nn cn) (.slice av nv cv) (.slice ta L.length tc) (.int .i64 (p2.at' : Int)) (.int .u32 p2.q.group) (.slice af nf cf) (.slice ac nc cc) (.slice ao no co) (.int .i64 p2.q.limit) (.int .i64 (p2.err : Int)))
      generalize ((((((((((((w2.setCell ⟨S + 1, 0, none⟩ (.slice ad nd cd)).setCell ⟨S + 1, 1, none⟩ (.slice ai ni ci)).setCell ⟨S + 1, 2, none⟩ (.slice an nn cn)).setCell ⟨S + 1, 3, none⟩ (.slice av nv cv)).setCell ⟨S + 1, 4, none⟩ (.slice ta L.length tc)).setCell ⟨S + 1, 5, none⟩ (.int .i64 (p2.at' : Int))).setCell ⟨S + 1, 6, none⟩ (.int .u32 p2.q.group)).setCell ⟨S + 1, 7, none⟩ (.slice af nf cf)).setCell ⟨S + 1, 8, none⟩ (.slice ac nc cc)).setCell ⟨S + 1, 9, none⟩ (.slice ao no co)).setCell ⟨S + 1, 10, none⟩ (.int .i64 p2.q.limit)).setCell ⟨S + 1, 11, none⟩ (.int .i64 (p2.err : Int))) = Wf at *
      have z0 : Wf.cell? ⟨S + 1, 0, none⟩ = some (.slice ad nd cd) := HKF.out.cell 0
      have z1 : Wf.cell? ⟨S + 1, 1, none⟩ = some (.slice ai ni ci) := HKF.out.cell 1
      have z2 : Wf.cell? ⟨S + 1, 2, none⟩ = some (.slice an nn cn) := HKF.out.cell 2
      have z3 : Wf.cell? ⟨S + 1, 3, none⟩ = some (.slice av nv cv) := HKF.out.cell 3
      have z4 : Wf.cell? ⟨S + 1, 4, none⟩ = some (.slice ta L.length tc) := HKF.out.cell 4
      have z5 : Wf.cell? ⟨S + 1, 5, none⟩ = some (.int .i64 (p2.at' : Int)) := HKF.out.cell 5
      have z6 : Wf.cell? ⟨S + 1, 6, none⟩ = some (.int .u32 p2.q.group) := HKF.out.cell 6
      have z7 : Wf.cell? ⟨S + 1, 7, none⟩ = some (.slice af nf cf) := HKF.out.cell 7
      have z8 : Wf.cell? ⟨S + 1, 8, none⟩ = some (.slice ac nc cc) := HKF.out.cell 8
      have z9 : Wf.cell? ⟨S + 1, 9, none⟩ = some (.slice ao no co) := HKF.out.cell 9
      have z10 : Wf.cell? ⟨S + 1, 10, none⟩ = some (.int .i64 p2.q.limit) := HKF.out.cell 10
      have z11 : Wf.cell? ⟨S + 1, 11, none⟩ = some (.int .i64 (p2.err : Int)) := HKF.out.cell 11
      refine bodyPost_ret (v := .tuple #[.agg #[.slice ad nd cd, .slice ai ni ci, .slice an nn cn, .slice av nv cv, .slice ta L.length tc, .int .i64 (p2.at' : Int), .int .u32 p2.q.group, .slice af nf cf, .slice ac nc cc, .slice ao no co, .int .i64 p2.q.limit, .int .i64 (p2.err : Int)], .int .i64 0]) (by simp [results, Try.results79, go_sem, z0, z1, z2, z3, z4, z5, z6, z7, z8, z9, z10, z11]) rfl ?_
      exact ⟨by rw [HRR.out]; rfl, by rw [HSW.out]; exact HBF.out⟩
  · have t0 : ((er : Int) != 0) = true := by simp; omega
    have HRR : Hid (r = (p2, 0)) := Lib.hid (by rw [HR.out, if_pos (.inl h0)])
    clear h0
    go_wp2_with fail
    refine (HFA.out _).mono ?_; rintro e w2 ⟨rfl, hb2⟩
    have HB2 := Lib.hid (HB0.out.trans (hb2.mono (by have := HZ0.out; omega)))
    have HKC := Lib.hid (HK1.out.below hb2 HK1.out.lt)
    clear hb2
    clear c0 c1 c2 c3 c4 c5 c6 c7 c8 c9 c10 c11
    have d0 : w2.cell? ⟨S + 1, 0, none⟩ = some (.slice none 0 0) := HKC.out.cell 0
    have d1 : w2.cell? ⟨S + 1, 1, none⟩ = some (.slice none 0 0) := HKC.out.cell 1
    have d2 : w2.cell? ⟨S + 1, 2, none⟩ = some (.slice none 0 0) := HKC.out.cell 2
    have d3 : w2.cell? ⟨S + 1, 3, none⟩ = some (.slice none 0 0) := HKC.out.cell 3
    have d4 : w2.cell? ⟨S + 1, 4, none⟩ = some (.slice none 0 0) := HKC.out.cell 4
    have d5 : w2.cell? ⟨S + 1, 5, none⟩ = some (.int .i64 0) := HKC.out.cell 5
    have d6 : w2.cell? ⟨S + 1, 6, none⟩ = some (.int .u32 0) := HKC.out.cell 6
    have d7 : w2.cell? ⟨S + 1, 7, none⟩ = some (.slice none 0 0) := HKC.out.cell 7
    have d8 : w2.cell? ⟨S + 1, 8, none⟩ = some (.slice none 0 0) := HKC.out.cell 8
    have d9 : w2.cell? ⟨S + 1, 9, none⟩ = some (.slice none 0 0) := HKC.out.cell 9
    have d10 : w2.cell? ⟨S + 1, 10, none⟩ = some (.int .i64 0) := HKC.out.cell 10
    have d11 : w2.cell? ⟨S + 1, 11, none⟩ = some (.int .i64 0) := HKC.out.cell 11
    have fzd : ∀ o, w2.frozen? ⟨S + 1, o, none⟩ = false := fun o => HKC.out.frozen o
    go_wp2_with fail
    have HKF := Lib.hid (blk_st12 (HKC.out) (.slice ad nd cd) (.slice ai ni ci) (.slice an nn cn) (.slice av nv cv) (.slice ta L.length tc) (.int .i64 (p2.at' : Int)) (.int .u32 p2.q.group) (.slice af nf cf) (.slice ac nc cc) (.slice ao no co) (.int .i64 p2.q.limit) (.int .i64 (p2.err : Int)))
    have HBF := Lib.hid (below_st12 (HB2.out) (b := S + 1) (by have := HSW.out; omega) (.slice ad nd cd) (.slice ai ni ci) (.slice an nn cn) (.slice av nv cv) (.slice ta L.length tc) (.int .i64 (p2.at' : Int)) (.int .u32 p2.q.group) (.slice af nf cf) (.slice ac nc cc) (.slice ao no co) (.int .i64 p2.q.limit) (.int .i64 (p2.err : Int)))
    generalize ((((((((((((w2.setCell ⟨S + 1, 0, none⟩ (.slice ad nd cd)).setCell ⟨S + 1, 1, none⟩ (.slice ai ni ci)).setCell ⟨S + 1, 2, none⟩ (.slice an nn cn)).setCell ⟨S + 1, 3, none⟩ (.slice av nv cv)).setCell ⟨S + 1, 4, none⟩ (.slice ta L.length tc)).setCell ⟨S + 1, 5, none⟩ (.int .i64 (p2.at' : Int))).setCell ⟨S + 1, 6, none⟩ (.int .u32 p2.q.group)).setCell ⟨S + 1, 7, none⟩ (.slice af nf cf)).setCell ⟨S + 1, 8, none⟩ (.slice ac nc cc)).setCell ⟨S + 1, 9, none⟩ (.slice ao no co)).setCell ⟨S + 1, 10, none⟩ (.int .i64 p2.q.limit)).setCell ⟨S + 1, 11, none⟩ (.int .i64 (p2.err : Int))) = Wf at *
    have z0 : Wf.cell? ⟨S + 1, 0, none⟩ = some (.slice ad nd cd) := HKF.out.cell 0
    have z1 : Wf.cell? ⟨S + 1, 1, none⟩ = some (.slice ai ni ci) := HKF.out.cell 1
    have z2 : Wf.cell? ⟨S + 1, 2, none⟩ = some (.slice an nn cn) := HKF.out.cell 2
    have z3 : Wf.cell? ⟨S + 1, 3, none⟩ = some (.slice av nv cv) := HKF.out.cell 3
    have z4 : Wf.cell? ⟨S + 1, 4, none⟩ = some (.slice ta L.length tc) := HKF.out.cell 4
    have z5 : Wf.cell? ⟨S + 1, 5, none⟩ = some (.int .i64 (p2.at' : Int)) := HKF.out.cell 5
    have z6 : Wf.cell? ⟨S + 1, 6, none⟩ = some (.int .u32 p2.q.group) := HKF.out.cell 6
    have z7 : Wf.cell? ⟨S + 1, 7, none⟩ = some (.slice af nf cf) := HKF.out.cell 7
    have z8 : Wf.cell? ⟨S + 1, 8, none⟩ = some (.slice ac nc cc) := HKF.out.cell 8
    have z9 : Wf.cell? ⟨S + 1, 9, none⟩ = some (.slice ao no co) := HKF.out.cell 9
    have z10 : Wf.cell? ⟨S + 1, 10, none⟩ = some (.int .i64 p2.q.limit) := HKF.out.cell 10
    have z11 : Wf.cell? ⟨S + 1, 11, none⟩ = some (.int .i64 (p2.err : Int)) := HKF.out.cell 11
    refine bodyPost_ret (v := .tuple #[.agg #[.slice ad nd cd, .slice ai ni ci, .slice an nn cn, .slice av nv cv, .slice ta L.length tc, .int .i64 (p2.at' : Int), .int .u32 p2.q.group, .slice af nf cf, .slice ac nc cc, .slice ao no co, .int .i64 p2.q.limit, .int .i64 (p2.err : Int)], .int .i64 0]) (by simp [results, Try.results79, go_sem, z0, z1, z2, z3, z4, z5, z6, z7, z8, z9, z10, z11]) rfl ?_
    exact ⟨by rw [HRR.out]; rfl, by rw [HSW.out]; exact HBF.out⟩
end Go.Proofs.Ytaofjnidniekjaa
