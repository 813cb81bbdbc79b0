/- The laws of parse: ParseReads, ParseMay: the walks. Conditions: those stated. -/
import Derived.Test.YtaofjnidniekjaaMPr2
import Derived.Test.YtaofjnidniekjaaParRk
import Derived.Test.YtaofjnidniekjaaMRs1
import Derived.Test.YtaofjnidniekjaaMOpn
namespace Go.Proofs.Ytaofjnidniekjaa
open Go.RowKit

theorem rparse_any (w : World) (l : SchL) (s : Sch) (h : SchAt w l s) (t : ByteArray) (ht : t.size ≤ maxLen) :
    Calls Try.prog 14 #[l.val, .string t] w (RParse w (parseR s t)) :=
  vparse_any w l s h t ht (fun w' m q hs hq => rqchk_any w' l s m q hs hq)
theorem nul_at (w : World) : QryAt w nulL (QP.nul.at' []) :=
  ⟨⟨⟨rfl, Nat.le_refl _, Nat.zero_le _, .inl rfl⟩, rfl, (fun f hf => nomatch hf)⟩, ⟨rfl, Nat.le_refl _, Nat.zero_le _, .inl rfl⟩, rfl, ⟨rfl, Nat.le_refl _, Nat.zero_le _, .inl rfl⟩, rfl, ⟨Int.le_refl 0, show (0 : Int) ≤ 4294967295 by decide⟩, i64_small (x := 0) (by decide) (by decide), (fun f hf => nomatch hf), (fun f hf => nomatch hf)⟩
def PR.q : PR → QP
  | .bad _ _ => QP.nul
  | .ok q => q
def PR.a : PR → Int
  | .bad a _ => a
  | .ok _ => 0
def PR.e : PR → Int
  | .bad _ e => e
  | .ok _ => 0
theorem rparse_form {w w' : World} {r : PR} {e : Ending} (h : RParse w r e w') : ∃ m fl, e = .returned (.tuple #[m.val (r.q.at' fl), .int .i64 r.a, .int .i64 r.e]) ∧ QryAt w' m (r.q.at' fl) ∧ fl.map (fun f => (f.dim, f.codes)) = r.q.flts ∧ Below w.heap.size w w' := by
  cases r with
  | bad a er =>
    obtain ⟨rfl, hb⟩ := h
    exact ⟨nulL, [], rfl, nul_at w', rfl, hb⟩
  | ok q =>
    obtain ⟨m, fl, rfl, hq, hf, hb⟩ := h
    exact ⟨m, fl, rfl, hq, hf, hb⟩
def ErrR (r : LexR) : Prop := match r with
  | .ok _ => True
  | .bad _ e => e ≠ 0
theorem lx_err (s : ByteArray) : ∀ (f a : Nat) (out : List Tok), ErrR (lx s f a out)
  | 0, a, out => by rw [lx]; trivial
  | f + 1, a, out => by
    rw [lx]
    split
    · split
      · exact lx_err s f _ _
      · split
        · split
          · exact (by decide : (3 : Int) ≠ 0)
          · exact lx_err s f _ _
        · split
          · split
            · rename_i h; exact h
            · split
              · exact (by decide : (3 : Int) ≠ 0)
              · exact lx_err s f _ _
          · exact (by decide : (6 : Int) ≠ 0)
    · trivial
theorem lexAll_err (s : ByteArray) : ErrR (lexAll s) := by
  unfold lexAll
  split
  · exact (by decide : (4 : Int) ≠ 0)
  · exact lx_err s _ _ _
theorem tokAt_in {s : ByteArray} {L : List Tok} (h : InR s (.ok L)) (i : Nat) : 0 ≤ (tokAt L i).a ∧ (tokAt L i).a ≤ (s.size : Int) := by
  unfold tokAt
  rw [List.getD_eq_getElem?_getD]
  cases hx : L[i]? with
  | none => exact ⟨Int.le_refl 0, Int.natCast_nonneg _⟩
  | some x => exact h x (List.mem_of_getElem? hx)
/-- what a reading may be -/
def MayR (s : Sch) (t : ByteArray) (r : PR) : Prop := match r with
  | .bad a er => er ≠ 0 ∧ 0 ≤ a ∧ a ≤ (t.size : Int)
  | .ok q => qchk s q.qry = 0
theorem parse_may (s : Sch) (t : ByteArray) : MayR s t (parseR s t) := by
  unfold parseR
  split
  · exact ⟨by decide, Int.le_refl 0, Int.natCast_nonneg _⟩
  have h1 := lexAll_err t
  have h2 := lexAll_in t
  cases hl : lexAll t with
  | bad a er => rw [hl] at h1 h2; exact ⟨h1, h2⟩
  | ok L =>
    rw [hl] at h2
    dsimp only
    have h3 := query_says (dimN s) (measN s) L
    cases hq : queryS (dimN s) (measN s) L with
    | error f =>
      rw [hq] at h3
      exact ⟨by have := h3.2.2; show ((f.2 : Nat) : Int) ≠ 0; omega, tokAt_in h2 _⟩
    | ok x =>
      dsimp only
      split
      · rename_i h
        exact ⟨by show ((qchk s x.2.qry : Nat) : Int) ≠ 0; omega, Int.le_refl 0, Int.natCast_nonneg _⟩
      · rename_i h
        show qchk s x.2.qry = 0
        omega

set_option maxRecDepth 100000 in
set_option maxHeartbeats 1000000 in
theorem walk_parsereads (l : SchL) (s : Sch) (t : ByteArray) (w : World) (h : SchAt w l s) (ht : t.size ≤ maxLen) :
    Calls Try.prog 5 #[l.val, .string t] w fun e w' => e = .returned (.bool true) ∧ Below w.heap.size w w' := by
  have HP1 := Lib.hid (fun (w' : World) (hb : Below w.heap.size w w') => pparse_any w' l s (h.below hb (Nat.le_refl _)) t ht)
  have HP2 := Lib.hid (fun (w' : World) (hb : Below w.heap.size w w') => rparse_any w' l s (h.below hb (Nat.le_refl _)) t ht)
  have HLI := Lib.hid (fun (w' : World) (hb : Below w.heap.size w w') => rlight_any w' l s (h.below hb (Nat.le_refl _)))
  obtain ⟨R, hR⟩ : ∃ r, parseR s t = r := ⟨_, rfl⟩
  rw [hR] at HP1 HP2
  obtain ⟨ad, nd, cd, ai, ni, ci, an, nn, cn, av, nv, cv⟩ := l
  unfold SchL.val at HP1 HP2 HLI ⊢
  dsimp only at HP1 HP2 HLI ⊢
  clear h ht hR
  obtain ⟨W0, hW0⟩ : ∃ W0, (w.alloc (.cells #[.slice ad nd cd, .slice ai ni ci, .slice an nn cn, .slice av nv cv] 40)) = W0 := ⟨_, rfl⟩
  have HB0 : Hid (Below w.heap.size w W0) := Lib.hid (by
    rw [← hW0]
    exact ((Below.refl _ _).alloc (Nat.le_refl _) _))
  have HZ0 : Hid (W0.heap.size = w.heap.size + 1) := Lib.hid (by rw [← hW0]; simp)
  have HK0 : Hid (Blk W0 (w.heap.size) 40 #[.slice ad nd cd, .slice ai ni ci, .slice an nn cn, .slice av nv cv]) := Lib.hid (by
    rw [← hW0]
    have h := Blk.new w 40 #[.slice ad nd cd, .slice ai ni ci, .slice an nn cn, .slice av nv cv]
    exact h)
  (try unfold StV)
  (try dsimp only)
  go_enter Try.func5, Try.ntmps5
  go_upto_region 1 with fail
  clear hW0
  generalize hS : w.heap.size = S at *
  have HSW := Lib.hid hS
  clear hS
  have c0 : W0.cell? ⟨S, 0, none⟩ = some (.slice ad nd cd) := HK0.out.cell 0
  have c1 : W0.cell? ⟨S, 1, none⟩ = some (.slice ai ni ci) := HK0.out.cell 1
  have c2 : W0.cell? ⟨S, 2, none⟩ = some (.slice an nn cn) := HK0.out.cell 2
  have c3 : W0.cell? ⟨S, 3, none⟩ = some (.slice av nv cv) := HK0.out.cell 3
  go_wp2_with fail
  refine (HLI.out _ HB0.out).mono ?_; rintro e w1 ⟨b1, rfl, -, hb1⟩
  have HB1 := Lib.hid (HB0.out.trans (hb1.mono (by have := HZ0.out; omega)))
  have HKA1 := Lib.hid (HK0.out.below hb1 HK0.out.lt)
  clear hb1 HLI HK0 HB0 HZ0
  clear c0 c1 c2 c3
  rcases b1 with _ | _
  · go_wp2_with fail
    refine (awakeP_any _).mono ?_; rintro e w2 ⟨rfl, hb2⟩
    have HB2 := Lib.hid (HB1.out.trans (hb2.mono (by have := HKA1.out.lt; omega)))
    clear hb2
    go_wp2_with fail
    go_ret
    exact ⟨rfl, by rw [HSW.out]; exact HB2.out⟩
  · have c0 : w1.cell? ⟨S, 0, none⟩ = some (.slice ad nd cd) := HKA1.out.cell 0
    have c1 : w1.cell? ⟨S, 1, none⟩ = some (.slice ai ni ci) := HKA1.out.cell 1
    have c2 : w1.cell? ⟨S, 2, none⟩ = some (.slice an nn cn) := HKA1.out.cell 2
    have c3 : w1.cell? ⟨S, 3, none⟩ = some (.slice av nv cv) := HKA1.out.cell 3
    go_wp2_with fail
    refine (HP1.out _ HB1.out).mono ?_; rintro e w2 hret
    obtain ⟨⟨af1, nf1, cf1, ac1, nc1, cc1, ao1, no1, co1⟩, fl1, rfl, hq1, hf1, hb2⟩ := rparse_form hret
    have HB2 := Lib.hid (HB1.out.trans (hb2.mono (by have := HKA1.out.lt; omega)))
    have HKA2 := Lib.hid (HKA1.out.below hb2 HKA1.out.lt)
    clear hret hb2
    clear c0 c1 c2 c3
    obtain ⟨ra, hra⟩ : ∃ x, R.a = x := ⟨_, rfl⟩
    obtain ⟨re, hre⟩ : ∃ x, R.e = x := ⟨_, rfl⟩
    have HRA := Lib.hid (And.intro hra hre)
    rw [hra, hre]
    clear hra hre
    obtain ⟨Q, hQ⟩ : ∃ x, R.q = x := ⟨_, rfl⟩
    have HRQ := Lib.hid hQ
    rw [hQ] at hq1 hf1 ⊢
    clear hQ
    obtain ⟨g, fq, cq, oq, lm⟩ := Q
    unfold QryL.val
    dsimp only [QP.at']
    go_upto_region 4 with fail
    have hk3 := Blk.new w2 47 #[.int .u32 g, .slice af1 nf1 cf1, .slice ac1 nc1 cc1, .slice ao1 no1 co1, .int .i64 lm]
    have hw3 : Below w2.heap.size w2 (w2.alloc (.cells #[.int .u32 g, .slice af1 nf1 cf1, .slice ac1 nc1 cc1, .slice ao1 no1 co1, .int .i64 lm] 47)) := (Below.refl _ _).alloc (Nat.le_refl _) _
    generalize (w2.alloc (.cells #[.int .u32 g, .slice af1 nf1 cf1, .slice ac1 nc1 cc1, .slice ao1 no1 co1, .int .i64 lm] 47)) = w3 at *
    generalize w2.heap.size = Y1 at hk3 ⊢
    have HKX := Lib.hid hk3
    have HB3 := Lib.hid (HB2.out.trans (hw3.mono (by have := HKA2.out.lt; omega)))
    have HKA3 := Lib.hid (HKA2.out.below hw3 HKA2.out.lt)
    have HQ1 : Hid (∀ w', Below w3.heap.size w3 w' → QryAt w' ⟨af1, nf1, cf1, ac1, nc1, cc1, ao1, no1, co1⟩ (QP.at' ⟨g, fq, cq, oq, lm⟩ fl1)) := Lib.hid (fun w' hb => (hq1.below hw3 (Nat.le_refl _)).below hb (Nat.le_refl _))
    have HF1 := Lib.hid hf1
    clear hk3 hw3 hq1 hf1 HKA1 HKA2 HB1 HB2
    have c0 : w3.cell? ⟨S, 0, none⟩ = some (.slice ad nd cd) := HKA3.out.cell 0
    have c1 : w3.cell? ⟨S, 1, none⟩ = some (.slice ai ni ci) := HKA3.out.cell 1
    have c2 : w3.cell? ⟨S, 2, none⟩ = some (.slice an nn cn) := HKA3.out.cell 2
    have c3 : w3.cell? ⟨S, 3, none⟩ = some (.slice av nv cv) := HKA3.out.cell 3
    go_wp2_with fail
    refine (HP2.out _ HB3.out).mono ?_; rintro e w4 hret
    obtain ⟨⟨af2, nf2, cf2, ac2, nc2, cc2, ao2, no2, co2⟩, fl2, rfl, hq2, hf2, hb4⟩ := rparse_form hret
    rw [HRA.out.1, HRA.out.2]
    rw [HRQ.out] at hq2 hf2 ⊢
    have HB4 := Lib.hid (HB3.out.trans (hb4.mono (by have := HKA3.out.lt; omega)))
    have HKX4 := Lib.hid (HKX.out.below hb4 HKX.out.lt)
    have HS34 : Hid (w3.heap.size ≤ w4.heap.size) := Lib.hid hb4.size
    have HQ14 := Lib.hid (fun w' hb => HQ1.out w' (hb4.trans hb))
    clear hret hb4
    clear c0 c1 c2 c3
    unfold QryL.val
    dsimp only [QP.at']
    go_upto_region 5 with fail
    have hk5 := Blk.new w4 47 #[.int .u32 g, .slice af2 nf2 cf2, .slice ac2 nc2 cc2, .slice ao2 no2 co2, .int .i64 lm]
    have hw5 : Below w4.heap.size w4 (w4.alloc (.cells #[.int .u32 g, .slice af2 nf2 cf2, .slice ac2 nc2 cc2, .slice ao2 no2 co2, .int .i64 lm] 47)) := (Below.refl _ _).alloc (Nat.le_refl _) _
    generalize (w4.alloc (.cells #[.int .u32 g, .slice af2 nf2 cf2, .slice ac2 nc2 cc2, .slice ao2 no2 co2, .int .i64 lm] 47)) = w5 at *
    generalize w4.heap.size = Y2 at hk5 ⊢
    have HKY := Lib.hid hk5
    have HB5 := Lib.hid (HB4.out.trans (hw5.mono (by have := HKA3.out.lt; have := HS34.out; omega)))
    have HKX5 := Lib.hid (HKX4.out.below hw5 HKX4.out.lt)
    have HSM := Lib.hid (rqsame_any w5 ⟨af1, nf1, cf1, ac1, nc1, cc1, ao1, no1, co1⟩ ⟨af2, nf2, cf2, ac2, nc2, cc2, ao2, no2, co2⟩ ⟨g, fq, cq, oq, lm⟩ fl1 fl2 (HQ14.out w5 (hw5.mono HS34.out)) (hq2.below hw5 (Nat.le_refl _)) (HF1.out.trans hf2.symm))
    unfold QryL.val at HSM
    dsimp only [QP.at'] at HSM
    clear hk5 hw5 hq2 hf2 HQ14 HQ1
    have t1 : (re == re) = true := by simp
    have t2 : (ra == ra) = true := by simp
    have x0 : w5.cell? ⟨Y1, 0, none⟩ = some (.int .u32 g) := HKX5.out.cell 0
    have x1 : w5.cell? ⟨Y1, 1, none⟩ = some (.slice af1 nf1 cf1) := HKX5.out.cell 1
    have x2 : w5.cell? ⟨Y1, 2, none⟩ = some (.slice ac1 nc1 cc1) := HKX5.out.cell 2
    have x3 : w5.cell? ⟨Y1, 3, none⟩ = some (.slice ao1 no1 co1) := HKX5.out.cell 3
    have x4 : w5.cell? ⟨Y1, 4, none⟩ = some (.int .i64 lm) := HKX5.out.cell 4
    have y0 : w5.cell? ⟨Y2, 0, none⟩ = some (.int .u32 g) := HKY.out.cell 0
    have y1 : w5.cell? ⟨Y2, 1, none⟩ = some (.slice af2 nf2 cf2) := HKY.out.cell 1
    have y2 : w5.cell? ⟨Y2, 2, none⟩ = some (.slice ac2 nc2 cc2) := HKY.out.cell 2
    have y3 : w5.cell? ⟨Y2, 3, none⟩ = some (.slice ao2 no2 co2) := HKY.out.cell 3
    have y4 : w5.cell? ⟨Y2, 4, none⟩ = some (.int .i64 lm) := HKY.out.cell 4
    go_wp2_with fail
    refine HSM.out.mono ?_; rintro e w6 ⟨rfl, hb6⟩
    have HB6 := Lib.hid (HB5.out.trans (hb6.mono (by have := HB5.out.size; have := HSW.out; omega)))
    have HSZ6 : Hid (S ≤ w6.heap.size) := Lib.hid (by have h1 := HB6.out.size; have h2 := HSW.out; omega)
    clear hb6 HSM x0 x1 x2 x3 x4 y0 y1 y2 y3 y4 t1 t2
    go_wp2_with fail
    refine (awakeP_any _).mono ?_; rintro e w7 ⟨rfl, hb7⟩
    have HB7 := Lib.hid (HB6.out.trans (hb7.mono HSZ6.out))
    clear hb7
    go_wp2_with fail
    go_ret
    exact ⟨rfl, by rw [HSW.out]; exact HB7.out⟩
set_option maxRecDepth 100000 in
set_option maxHeartbeats 1000000 in
theorem walk_parsemay (l : SchL) (s : Sch) (t : ByteArray) (w : World) (h : SchAt w l s) (ht : t.size ≤ maxLen) :
    Calls Try.prog 6 #[l.val, .string t] w fun e w' => e = .returned (.bool true) ∧ Below w.heap.size w w' := by
  have HP1 := Lib.hid (fun (w' : World) (hb : Below w.heap.size w w') => pparse_any w' l s (h.below hb (Nat.le_refl _)) t ht)
  have HSO := Lib.hid (fun (w' : World) (hb : Below w.heap.size w w') => h.below hb (Nat.le_refl _))
  have HMY := Lib.hid (parse_may s t)
  have HLI := Lib.hid (fun (w' : World) (hb : Below w.heap.size w w') => rlight_any w' l s (h.below hb (Nat.le_refl _)))
  obtain ⟨R, hR⟩ : ∃ r, parseR s t = r := ⟨_, rfl⟩
  rw [hR] at HP1 HMY
  obtain ⟨ad, nd, cd, ai, ni, ci, an, nn, cn, av, nv, cv⟩ := l
  unfold SchL.val at HP1 HLI ⊢
  dsimp only at HP1 HLI ⊢
  have hsz : t.size ≤ 9223372036854775807 := by unfold maxLen at ht; omega
  clear h ht hR
  obtain ⟨W0, hW0⟩ : ∃ W0, (w.alloc (.cells #[.slice ad nd cd, .slice ai ni ci, .slice an nn cn, .slice av nv cv] 40)) = W0 := ⟨_, rfl⟩
  have HB0 : Hid (Below w.heap.size w W0) := Lib.hid (by
    rw [← hW0]
    exact ((Below.refl _ _).alloc (Nat.le_refl _) _))
  have HZ0 : Hid (W0.heap.size = w.heap.size + 1) := Lib.hid (by rw [← hW0]; simp)
  have HK0 : Hid (Blk W0 (w.heap.size) 40 #[.slice ad nd cd, .slice ai ni ci, .slice an nn cn, .slice av nv cv]) := Lib.hid (by
    rw [← hW0]
    have h := Blk.new w 40 #[.slice ad nd cd, .slice ai ni ci, .slice an nn cn, .slice av nv cv]
    exact h)
  (try unfold StV)
  (try dsimp only)
  go_enter Try.func6, Try.ntmps6
  go_upto_region 1 with fail
  clear hW0
  generalize hS : w.heap.size = S at *
  have HSW := Lib.hid hS
  clear hS
  have c0 : W0.cell? ⟨S, 0, none⟩ = some (.slice ad nd cd) := HK0.out.cell 0
  have c1 : W0.cell? ⟨S, 1, none⟩ = some (.slice ai ni ci) := HK0.out.cell 1
  have c2 : W0.cell? ⟨S, 2, none⟩ = some (.slice an nn cn) := HK0.out.cell 2
  have c3 : W0.cell? ⟨S, 3, none⟩ = some (.slice av nv cv) := HK0.out.cell 3
  go_wp2_with fail
  refine (HLI.out _ HB0.out).mono ?_; rintro e w1 ⟨b1, rfl, -, hb1⟩
  have HB1 := Lib.hid (HB0.out.trans (hb1.mono (by have := HZ0.out; omega)))
  have HKA1 := Lib.hid (HK0.out.below hb1 HK0.out.lt)
  clear hb1 HLI HK0 HB0 HZ0
  clear c0 c1 c2 c3
  rcases b1 with _ | _
  · go_wp2_with fail
    refine (awakeP_any _).mono ?_; rintro e w2 ⟨rfl, hb2⟩
    have HB2 := Lib.hid (HB1.out.trans (hb2.mono (by have := HKA1.out.lt; omega)))
    clear hb2
    go_wp2_with fail
    go_ret
    exact ⟨rfl, by rw [HSW.out]; exact HB2.out⟩
  · have c0 : w1.cell? ⟨S, 0, none⟩ = some (.slice ad nd cd) := HKA1.out.cell 0
    have c1 : w1.cell? ⟨S, 1, none⟩ = some (.slice ai ni ci) := HKA1.out.cell 1
    have c2 : w1.cell? ⟨S, 2, none⟩ = some (.slice an nn cn) := HKA1.out.cell 2
    have c3 : w1.cell? ⟨S, 3, none⟩ = some (.slice av nv cv) := HKA1.out.cell 3
    go_wp2_with fail
    refine (HP1.out _ HB1.out).mono ?_; rintro e w2 hret
    rcases R with ⟨a, er⟩ | q
    · obtain ⟨rfl, hb2⟩ := hret
      obtain ⟨n1, n2, n3⟩ : er ≠ 0 ∧ 0 ≤ a ∧ a ≤ (t.size : Int) := HMY.out
      have HB2 := Lib.hid (HB1.out.trans (hb2.mono (by have := HKA1.out.lt; omega)))
      have HS2 : Hid (S ≤ w2.heap.size) := Lib.hid (by have h1 := HKA1.out.lt; have h2 := hb2.size; omega)
      clear hb2
      clear c0 c1 c2 c3
      unfold zeroQ
      go_upto_region 4 with fail
      have hk3 := Blk.new w2 47 #[.int .u32 0, .slice none 0 0, .slice none 0 0, .slice none 0 0, .int .i64 0]
      have hw3 : Below w2.heap.size w2 (w2.alloc (.cells #[.int .u32 0, .slice none 0 0, .slice none 0 0, .slice none 0 0, .int .i64 0] 47)) := (Below.refl _ _).alloc (Nat.le_refl _) _
      generalize (w2.alloc (.cells #[.int .u32 0, .slice none 0 0, .slice none 0 0, .slice none 0 0, .int .i64 0] 47)) = w3 at *
      generalize w2.heap.size = Y1 at hk3 ⊢
      have HKX := Lib.hid hk3
      have HB3 := Lib.hid (HB2.out.trans (hw3.mono HS2.out))
      have HS3 : Hid (S ≤ w3.heap.size) := Lib.hid (Nat.le_trans HS2.out hw3.size)
      have t1 : (er != 0) = true := by rw [bne_iff_ne]; exact n1
      have t2 : decide ((0 : Int) ≤ a) = true := decide_eq_true n2
      have t3 : decide (a ≤ (t.size : Int)) = true := decide_eq_true n3
      have HSM := Lib.hid (rqsame_any w3 nulL nulL QP.nul [] [] (nul_at w3) (nul_at w3) rfl)
      unfold QryL.val at HSM
      dsimp only [QP.at', nulL, QP.nul] at HSM
      clear hk3 hw3 n1 n2 n3
      have z0 : w3.cell? ⟨Y1, 0, none⟩ = some (.int .u32 0) := HKX.out.cell 0
      have z1 : w3.cell? ⟨Y1, 1, none⟩ = some (.slice none 0 0) := HKX.out.cell 1
      have z2 : w3.cell? ⟨Y1, 2, none⟩ = some (.slice none 0 0) := HKX.out.cell 2
      have z3 : w3.cell? ⟨Y1, 3, none⟩ = some (.slice none 0 0) := HKX.out.cell 3
      have z4 : w3.cell? ⟨Y1, 4, none⟩ = some (.int .i64 0) := HKX.out.cell 4
      go_wp2_with fail
      refine HSM.out.mono ?_; rintro e w6 ⟨rfl, hb6⟩
      have HB6 := Lib.hid (HB3.out.trans (hb6.mono HS3.out))
      have HSZ6 : Hid (S ≤ w6.heap.size) := Lib.hid (Nat.le_trans HS3.out hb6.size)
      clear hb6 HSM z0 z1 z2 z3 z4 t1 t2 t3
      go_wp2_with fail
      refine (awakeP_any _).mono ?_; rintro e w7 ⟨rfl, hb7⟩
      have HB7 := Lib.hid (HB6.out.trans (hb7.mono HSZ6.out))
      clear hb7
      go_wp2_with fail
      go_ret
      exact ⟨rfl, by rw [HSW.out]; exact HB7.out⟩
    · obtain ⟨⟨af1, nf1, cf1, ac1, nc1, cc1, ao1, no1, co1⟩, fl, rfl, hq, hf, hb2⟩ := hret
      have hmy : qchk s q.qry = 0 := HMY.out
      have HB2 := Lib.hid (HB1.out.trans (hb2.mono (by have := HKA1.out.lt; omega)))
      have HKA2 := Lib.hid (HKA1.out.below hb2 HKA1.out.lt)
      clear hb2
      clear c0 c1 c2 c3
      obtain ⟨Q, hQ⟩ : ∃ x : QP, q = x := ⟨_, rfl⟩
      rw [hQ] at hq hf hmy ⊢
      clear hQ HMY
      obtain ⟨g, fq, cq, oq, lm⟩ := Q
      unfold QryL.val
      dsimp only [QP.at']
      go_upto_region 4 with fail
      have hk3 := Blk.new w2 47 #[.int .u32 g, .slice af1 nf1 cf1, .slice ac1 nc1 cc1, .slice ao1 no1 co1, .int .i64 lm]
      have hw3 : Below w2.heap.size w2 (w2.alloc (.cells #[.int .u32 g, .slice af1 nf1 cf1, .slice ac1 nc1 cc1, .slice ao1 no1 co1, .int .i64 lm] 47)) := (Below.refl _ _).alloc (Nat.le_refl _) _
      generalize (w2.alloc (.cells #[.int .u32 g, .slice af1 nf1 cf1, .slice ac1 nc1 cc1, .slice ao1 no1 co1, .int .i64 lm] 47)) = w3 at *
      generalize w2.heap.size = Y1 at hk3 ⊢
      have HKX := Lib.hid hk3
      have HB3 := Lib.hid (HB2.out.trans (hw3.mono (by have := HKA2.out.lt; omega)))
      have HKA3 := Lib.hid (HKA2.out.below hw3 HKA2.out.lt)
      have HCK := Lib.hid (rqchk_any w3 ⟨ad, nd, cd, ai, ni, ci, an, nn, cn, av, nv, cv⟩ s ⟨af1, nf1, cf1, ac1, nc1, cc1, ao1, no1, co1⟩ _ (HSO.out _ HB3.out) (hq.below hw3 (Nat.le_refl _)))
      rw [qchk_at s _ hf, hmy] at HCK
      unfold SchL.val QryL.val RErr at HCK
      dsimp only [QP.at'] at HCK
      clear hk3 hw3 hq hf hmy
      have c0 : w3.cell? ⟨S, 0, none⟩ = some (.slice ad nd cd) := HKA3.out.cell 0
      have c1 : w3.cell? ⟨S, 1, none⟩ = some (.slice ai ni ci) := HKA3.out.cell 1
      have c2 : w3.cell? ⟨S, 2, none⟩ = some (.slice an nn cn) := HKA3.out.cell 2
      have c3 : w3.cell? ⟨S, 3, none⟩ = some (.slice av nv cv) := HKA3.out.cell 3
      have x0 : w3.cell? ⟨Y1, 0, none⟩ = some (.int .u32 g) := HKX.out.cell 0
      have x1 : w3.cell? ⟨Y1, 1, none⟩ = some (.slice af1 nf1 cf1) := HKX.out.cell 1
      have x2 : w3.cell? ⟨Y1, 2, none⟩ = some (.slice ac1 nc1 cc1) := HKX.out.cell 2
      have x3 : w3.cell? ⟨Y1, 3, none⟩ = some (.slice ao1 no1 co1) := HKX.out.cell 3
      have x4 : w3.cell? ⟨Y1, 4, none⟩ = some (.int .i64 lm) := HKX.out.cell 4
      go_wp2_with fail
      refine HCK.out.mono ?_; rintro e w6 ⟨rfl, hb6⟩
      have HB6 := Lib.hid (HB3.out.trans (hb6.mono (by have := HKA3.out.lt; omega)))
      have HSZ6 : Hid (S ≤ w6.heap.size) := Lib.hid (by have h1 := HKA3.out.lt; have h2 := hb6.size; omega)
      clear hb6 HCK x0 x1 x2 x3 x4
      clear c0 c1 c2 c3
      go_wp2_with fail
      refine (awakeP_any _).mono ?_; rintro e w7 ⟨rfl, hb7⟩
      have HB7 := Lib.hid (HB6.out.trans (hb7.mono HSZ6.out))
      clear hb7
      go_wp2_with fail
      go_ret
      exact ⟨rfl, by rw [HSW.out]; exact HB7.out⟩
end Go.Proofs.Ytaofjnidniekjaa
