/- Contract of package bushelref05's Read. No conditions. -/
import Derived.Test.YtgdddpbdcdheeaaExRc
namespace Go.Proofs.Ytgdddpbdcdheeaa
open Go.RowKit Ieee

def RRef (bs : List Int) (w : World) (e : Ending) (w' : World) : Prop := Below w.heap.size w w' ∧ ∃ (b : Nat) (z : Int) (ng : Bool) (a : Option Addr) (l c : Nat),
  e = .returned (.tuple #[.agg (rsCells b ng a l c), .int .i64 ((codeN bs : Nat) : Int)]) ∧ NumC w' ng a l c z ∧ (codeN bs = 0 → b = bOf bs ∧ z = zOf bs)
theorem rs_zero : rsCells 0 false none 0 0 = #[.bool false, .bool false, .bool false, .bool false, .bool false, .bool false, .slice none 0 0] := by simp [rsCells, fN, fU, fD, fM, fP]
theorem RRef.no {bs : List Int} {w w' : World} {k S : Nat} (hS : w.heap.size = S) (h : codeN bs = k + 1) (hb : Below S w w') :
    RRef bs w (.returned (.tuple #[.agg #[.bool false, .bool false, .bool false, .bool false, .bool false, .bool false, .slice none 0 0], .int .i64 ((k : Int) + 1)]))
      (((((((w'.setCell ⟨S, 0, none⟩ (.bool false)).setCell ⟨S, 1, none⟩ (.bool false)).setCell ⟨S, 2, none⟩ (.bool false)).setCell ⟨S, 3, none⟩ (.bool false)).setCell ⟨S, 4, none⟩ (.bool false)).setCell ⟨S, 5, none⟩ (.bool false)).setCell ⟨S, 6, none⟩ (.slice none 0 0)) := by
  subst hS
  exact ⟨below_set7 hb (Nat.le_refl _) _ _ _ _ _ _ _, 0, 0, false, none, 0, 0, by rw [rs_zero, h]; rfl, NumC.zero, fun h0 => by omega⟩
theorem flags_read : ∀ f : Nat, f < 64 → ((f : Int) % 2 == 1) = fN (f % 32) ∧ ((f : Int) / 2 % 2 == 1) = fU (f % 32) ∧ ((f : Int) / 4 % 2 == 1) = fD (f % 32) ∧ ((f : Int) / 8 % 2 == 1) = fM (f % 32) ∧ ((f : Int) / 16 % 2 == 1) = fP (f % 32) := by decide +kernel
theorem RRef.ok {bs : List Int} {w w' : World} {S : Nat} {z : Int} {u0 u1 u2 u3 u4 ng : Bool} {a : Option Addr} {l c : Nat} (hS : w.heap.size = S) (h : codeN bs = 0) (hb : Below S w w')
    (hk : Blk w' S 30 #[.bool false, .bool false, .bool false, .bool false, .bool false, .bool false, .slice none 0 0]) (hN : NumC w' ng a l c z) (hz : z = zOf bs) (hq : rsCells (bOf bs) = fun ng a l c => #[.bool u0, .bool u1, .bool u2, .bool u3, .bool u4, .bool ng, .slice a l c]) :
    RRef bs w (.returned (.tuple #[.agg #[.bool u0, .bool u1, .bool u2, .bool u3, .bool u4, .bool ng, .slice a l c], .int .i64 0]))
      (((((((w'.setCell ⟨S, 0, none⟩ (.bool u0)).setCell ⟨S, 1, none⟩ (.bool u1)).setCell ⟨S, 2, none⟩ (.bool u2)).setCell ⟨S, 3, none⟩ (.bool u3)).setCell ⟨S, 4, none⟩ (.bool u4)).setCell ⟨S, 5, none⟩ (.bool ng)).setCell ⟨S, 6, none⟩ (.slice a l c)) := by
  subst hS
  exact ⟨below_set7 hb (Nat.le_refl _) _ _ _ _ _ _ _, bOf bs, z, ng, a, l, c, by rw [hq, h]; rfl, NumC.seven hk hN _ _ _ _ _ _ _ _ _, fun _ => ⟨rfl, hz⟩⟩
theorem rsread_results {w : World} {s : Nat} {k : Int} {tmps : Array Value} {v0 v1 v2 v3 v4 v5 v6 : Value} (h2 : tmps[2]? = some (.pointer (some ⟨s, 0, none⟩))) (h3 : tmps[3]? = some (.int .i64 k))
    (hk : Blk w s 30 #[v0, v1, v2, v3, v4, v5, v6]) :
    (Sem.run Try.prog (results Try.f24 tmps) w) = .ok (.tuple #[.agg #[v0, v1, v2, v3, v4, v5, v6], .int .i64 k]) w := by
  have d0 := hk.cell 0
  have d1 := hk.cell 1
  have d2 := hk.cell 2
  have d3 := hk.cell 3
  have d4 := hk.cell 4
  have d5 := hk.cell 5
  have d6 := hk.cell 6
  clear hk
  simp at d0 d1 d2 d3 d4 d5 d6
  simp [results, Try.results24, go_sem, h2, h3, d0, d1, d2, d3, d4, d5, d6]
set_option maxRecDepth 100000 in
/-- a sum is stored into a box -/
theorem store_seven {ops : Array Oper} {rest : List Oper} {w : World} {s i j : Nat} {Q : Exit → Act → World → Prop} {tmps : Array Value} {ds : List Deferred} {c0 c1 c2 c3 c4 c5 c6 : Value} {ty : TypeId} {pos : String} {after : Array Edge} (u0 u1 u2 u3 u4 u5 : Bool) (a : Option Addr) (l c : Nat)
    (hi : tmps[i]? = some (.pointer (some ⟨s, 0, none⟩))) (hj : tmps[j]? = some (.agg #[.bool u0, .bool u1, .bool u2, .bool u3, .bool u4, .bool u5, .slice a l c]))
    (r0 : w.cell? ⟨s, 0, none⟩ = some c0) (r1 : w.cell? ⟨s, 1, none⟩ = some c1) (r2 : w.cell? ⟨s, 2, none⟩ = some c2) (r3 : w.cell? ⟨s, 3, none⟩ = some c3) (r4 : w.cell? ⟨s, 4, none⟩ = some c4) (r5 : w.cell? ⟨s, 5, none⟩ = some c5) (r6 : w.cell? ⟨s, 6, none⟩ = some c6)
    (rf : ∀ o, w.frozen? ⟨s, o, none⟩ = false)
    (hk : wpList Try.prog ops Q rest ⟨tmps, ds⟩ (((((((w.setCell ⟨s, 0, none⟩ (.bool u0)).setCell ⟨s, 1, none⟩ (.bool u1)).setCell ⟨s, 2, none⟩ (.bool u2)).setCell ⟨s, 3, none⟩ (.bool u3)).setCell ⟨s, 4, none⟩ (.bool u4)).setCell ⟨s, 5, none⟩ (.bool u5)).setCell ⟨s, 6, none⟩ (.slice a l c))) :
    wpList Try.prog ops Q (⟨none, .store 30 (.tmp i) (.tmp j), ty, pos, after, none⟩ :: rest) ⟨tmps, ds⟩ w := by
  refine wpList_plain rfl (fun K hK => ?_)
  replace hk := hK _ _ hk
  revert hk
  clear hK
  go_simp
theorem code_hdr {bs : List Int} {k : Nat} (h : hdrN bs = k + 1) : codeN bs = k + 1 := by unfold codeN; rw [h, if_neg (by omega)]
theorem hdr_a {bs : List Int} (h : bs.length = 0) : hdrN bs = 5 := by unfold hdrN; rw [if_pos h]
theorem hdr_b {bs : List Int} (h : bs.length ≠ 0) (h1 : badF (btN bs 0) = true) : hdrN bs = 6 := by unfold hdrN; rw [if_neg h, if_pos h1]
theorem hdr_c {bs : List Int} (h : bs.length = 1) (h1 : badF (btN bs 0) = false) : hdrN bs = 5 := by unfold hdrN; rw [if_neg (by omega), if_neg (by rw [h1]; decide), if_pos h]
theorem hdr_d {bs : List Int} (h : 1 < bs.length) (h1 : badF (btN bs 0) = false) (h2 : badL (btN bs 0) (btN bs 1) = true) : hdrN bs = 6 := by
  unfold hdrN; rw [if_neg (by omega), if_neg (by rw [h1]; decide), if_neg (by omega), if_pos h2]
theorem hdr_e {bs : List Int} (h : bs.length = 2) (h1 : badF (btN bs 0) = false) (h2 : badL (btN bs 0) (btN bs 1) = false) : hdrN bs = 5 := by
  unfold hdrN; rw [if_neg (by omega), if_neg (by rw [h1]; decide), if_neg (by omega), if_neg (by rw [h2]; decide), if_pos h]
theorem hdr_f {bs : List Int} (h : 2 < bs.length) (h1 : badF (btN bs 0) = false) (h2 : badL (btN bs 0) (btN bs 1) = false) (h3 : badM (btN bs 0) (btN bs 1) (btN bs 2) = true) : hdrN bs = 6 := by
  unfold hdrN; rw [if_neg (by omega), if_neg (by rw [h1]; decide), if_neg (by omega), if_neg (by rw [h2]; decide), if_neg (by omega), if_pos h3]
theorem hdr_g {bs : List Int} (h : 2 < bs.length) (h1 : badF (btN bs 0) = false) (h2 : badL (btN bs 0) (btN bs 1) = false) (h3 : badM (btN bs 0) (btN bs 1) (btN bs 2) = false) : hdrN bs = 0 := by
  unfold hdrN; rw [if_neg (by omega), if_neg (by rw [h1]; decide), if_neg (by omega), if_neg (by rw [h2]; decide), if_neg (by omega), if_neg (by rw [h3]; decide)]

set_option maxRecDepth 100000 in
set_option maxHeartbeats 40000000 in
theorem rsread_any (w : World) (a : Option Addr) (n c : Nat) (bs : List Int) (hr : RowK .u8 w a n c bs) (hb : Byt bs) :
    Calls Try.prog 24 #[.slice a n c] w (RRef bs w) := by
  have hlen : bs.length = n := hr.1
  have hn : n ≤ 9223372036854775807 := by have := hr.2.1; have := hr.2.2.1; unfold maxLen at this; omega
  obtain ⟨hk0, hk1, hbw, -⟩ := two_bx w 30 #[.bool false, .bool false, .bool false, .bool false, .bool false, .bool false, .slice none 0 0] #[.bool false, .bool false, .bool false, .bool false, .bool false, .bool false, .slice none 0 0]
  have HBY := Lib.hid hb
  have HLEN := Lib.hid hlen
  obtain ⟨s, hs⟩ : ∃ s, w.heap.size = s := ⟨_, rfl⟩
  have HROW : Hid (∀ w', Below s w w' → RowK .u8 w' a n c bs) := Lib.hid (fun w' h => hr.below h (by rw [hs]; exact Nat.le_refl _))
  go_enter Try.func24, Try.ntmps24
  go_upto_region 2 with fail
  rw [hs] at hbw hk0 hk1
  generalize ((w.alloc (.cells #[.bool false, .bool false, .bool false, .bool false, .bool false, .bool false, .slice none 0 0] 30)).alloc (.cells #[.bool false, .bool false, .bool false, .bool false, .bool false, .bool false, .slice none 0 0] 30)) = w7 at *
  have HSZ := Lib.hid hs
  have HK0 := Lib.hid hk0
  have HK1 := Lib.hid hk1
  have HB := Lib.hid hbw
  clear hk0 hk1 hbw hs hr hb hlen
  by_cases hn0 : n = 0
  · subst hn0
    have HC := Lib.hid (code_hdr (k := 4) (hdr_a HLEN.out))
    have hk0z := HK0.out
    have hk1z := HK1.out
    have r0 : w7.cell? ⟨s, 0, none⟩ = some (.bool false) := hk0z.cell 0
    have r1 : w7.cell? ⟨s, 1, none⟩ = some (.bool false) := hk0z.cell 1
    have r2 : w7.cell? ⟨s, 2, none⟩ = some (.bool false) := hk0z.cell 2
    have r3 : w7.cell? ⟨s, 3, none⟩ = some (.bool false) := hk0z.cell 3
    have r4 : w7.cell? ⟨s, 4, none⟩ = some (.bool false) := hk0z.cell 4
    have r5 : w7.cell? ⟨s, 5, none⟩ = some (.bool false) := hk0z.cell 5
    have r6 : w7.cell? ⟨s, 6, none⟩ = some (.slice none 0 0) := hk0z.cell 6
    have x0 : w7.cell? ⟨s + 1, 0, none⟩ = some (.bool false) := hk1z.cell 0
    have x1 : w7.cell? ⟨s + 1, 1, none⟩ = some (.bool false) := hk1z.cell 1
    have x2 : w7.cell? ⟨s + 1, 2, none⟩ = some (.bool false) := hk1z.cell 2
    have x3 : w7.cell? ⟨s + 1, 3, none⟩ = some (.bool false) := hk1z.cell 3
    have x4 : w7.cell? ⟨s + 1, 4, none⟩ = some (.bool false) := hk1z.cell 4
    have x5 : w7.cell? ⟨s + 1, 5, none⟩ = some (.bool false) := hk1z.cell 5
    have x6 : w7.cell? ⟨s + 1, 6, none⟩ = some (.slice none 0 0) := hk1z.cell 6
    have rf : ∀ o, w7.frozen? ⟨s, o, none⟩ = false := fun o => hk0z.frozen o
    have HRZ := Lib.hid (RRef.no (bs := bs) (w := w) (k := 4) HSZ.out HC.out HB.out)
    have HKZ := Lib.hid (Blk.seven hk0z false false false false false false none 0 0)
    clear hk0z hk1z
    go_wp2_with (first
      | (with_reducible refine store_seven (s := s) _ _ _ _ _ _ _ _ _ (by with_unfolding_all rfl) (by with_unfolding_all rfl) r0 r1 r2 r3 r4 r5 r6 rf ?_
         generalize (World.setCell _ _ _) = wz at HRZ HKZ ⊢)
      | (with_reducible refine bodyPost_ret ?_ ?_ HRZ.out
         rotate_left
         · rfl
         · exact rsread_results rfl rfl HKZ.out))
  have hd0 : ((n : Int) == 0) = false := by simpa using hn0
  have hn1 : 0 < n := by omega
  obtain ⟨ba, oa, rfl, hba, hc⟩ := (HROW.out _ HB.out).at hn1
  have c0 := hc 0 hn1
  obtain ⟨q1, q2⟩ := HBY.out.lt 0
  obtain ⟨f, hf⟩ : ∃ f, btN bs 0 = f := ⟨_, rfl⟩
  rw [hf] at q1 q2
  rw [Nat.add_zero, q2] at c0
  have HF := Lib.hid hf
  have HN0 : Hid (bs.length ≠ 0) := Lib.hid (by rw [HLEN.out]; exact hn0)
  have hwF : IntKind.i64.wrap (f : Int) = (f : Int) := IntWalk.i64_in _ (by omega)
  have HCELL := Lib.hid hc
  clear hc hf q2 hn0
  go_upto_region 5 with fail
  obtain ⟨D, hD⟩ : ∃ D, decide (63 < (f : Int)) = D := ⟨_, rfl⟩
  obtain ⟨P, hP⟩ : ∃ P, ((f : Int) / 32 == 1) = P := ⟨_, rfl⟩
  obtain ⟨PL, hPL⟩ : ∃ PL, ((f : Int) / 16 % 2 == 1) = PL := ⟨_, rfl⟩
  have hQ : ((f : Int) / 16 % 2 == 0) = !PL := by
    rw [← hPL, Bool.eq_iff_iff]; simp only [beq_iff_eq, Bool.not_eq_true', beq_eq_false_iff_ne]; omega
  have hDf : decide (63 < f) = D := by rw [← hD, decide_eq_decide]; omega
  have hPf : decide (f / 32 = 1) = P := by rw [← hP, Bool.eq_iff_iff, decide_eq_true_eq, beq_iff_eq]; omega
  have hQf : decide (f / 16 % 2 = 0) = !PL := by rw [← hQ, Bool.eq_iff_iff, decide_eq_true_eq, beq_iff_eq]; omega
  have hPLf : decide (f / 16 % 2 = 1) = PL := by rw [← hPL, Bool.eq_iff_iff, decide_eq_true_eq, beq_iff_eq]; omega
  have HBF : Hid (badF f = (D || (P && !PL))) := Lib.hid (by unfold badF; rw [hDf, hPf, hQf])
  have HPf := Lib.hid hPf
  have HQf := Lib.hid hQf
  have HPLf := Lib.hid hPLf
  clear hDf hPf hQf hPLf
  go_cut [35] (fun v wx => v = .bool (badF f) ∧ w7 = wx)
  case first =>
    as_aux_lemma =>
      have hcase : D = true ∨ (D = false ∧ P = false) ∨ (D = false ∧ P = true) := by cases D <;> cases P <;> simp
      rcases hcase with rfl | ⟨rfl, rfl⟩ | ⟨rfl, rfl⟩
      all_goals
        go_wp2_with fail
        go_meet
        exact ⟨by rw [HBF.out]; rfl, rfl⟩
  case rest =>
    obtain ⟨rfl, rfl⟩ := hcut
    clear hD
    rcases hq : badF f with _ | _
    case true =>
      have HC := Lib.hid (code_hdr (k := 5) (hdr_b HN0.out (by rw [HF.out]; exact hq)))
      clear hq c0
      have hk0z := HK0.out
      have hk1z := HK1.out
      have r0 : w7.cell? ⟨s, 0, none⟩ = some (.bool false) := hk0z.cell 0
      have r1 : w7.cell? ⟨s, 1, none⟩ = some (.bool false) := hk0z.cell 1
      have r2 : w7.cell? ⟨s, 2, none⟩ = some (.bool false) := hk0z.cell 2
      have r3 : w7.cell? ⟨s, 3, none⟩ = some (.bool false) := hk0z.cell 3
      have r4 : w7.cell? ⟨s, 4, none⟩ = some (.bool false) := hk0z.cell 4
      have r5 : w7.cell? ⟨s, 5, none⟩ = some (.bool false) := hk0z.cell 5
      have r6 : w7.cell? ⟨s, 6, none⟩ = some (.slice none 0 0) := hk0z.cell 6
      have x0 : w7.cell? ⟨s + 1, 0, none⟩ = some (.bool false) := hk1z.cell 0
      have x1 : w7.cell? ⟨s + 1, 1, none⟩ = some (.bool false) := hk1z.cell 1
      have x2 : w7.cell? ⟨s + 1, 2, none⟩ = some (.bool false) := hk1z.cell 2
      have x3 : w7.cell? ⟨s + 1, 3, none⟩ = some (.bool false) := hk1z.cell 3
      have x4 : w7.cell? ⟨s + 1, 4, none⟩ = some (.bool false) := hk1z.cell 4
      have x5 : w7.cell? ⟨s + 1, 5, none⟩ = some (.bool false) := hk1z.cell 5
      have x6 : w7.cell? ⟨s + 1, 6, none⟩ = some (.slice none 0 0) := hk1z.cell 6
      have rf : ∀ o, w7.frozen? ⟨s, o, none⟩ = false := fun o => hk0z.frozen o
      have HRZ := Lib.hid (RRef.no (bs := bs) (w := w) (k := 5) HSZ.out HC.out HB.out)
      have HKZ := Lib.hid (Blk.seven hk0z false false false false false false none 0 0)
      clear hk0z hk1z
      go_wp2_with (first
        | (with_reducible refine store_seven (s := s) _ _ _ _ _ _ _ _ _ (by with_unfolding_all rfl) (by with_unfolding_all rfl) r0 r1 r2 r3 r4 r5 r6 rf ?_
           generalize (World.setCell _ _ _) = wz at HRZ HKZ ⊢)
        | (with_reducible refine bodyPost_ret ?_ ?_ HRZ.out
           rotate_left
           · rfl
           · exact rsread_results rfl rfl HKZ.out))
    case false =>
      have HQF : Hid (badF (btN bs 0) = false) := Lib.hid (by rw [HF.out]; exact hq)
      clear hq
      go_upto_region 8 with fail
      by_cases hn2 : n = 1
      · have hd1 : ((n : Int) == 1) = true := by rw [hn2]; rfl
        have HC := Lib.hid (code_hdr (k := 4) (hdr_c (by rw [HLEN.out]; exact hn2) HQF.out))
        clear hn2 c0
        have hk0z := HK0.out
        have hk1z := HK1.out
        have r0 : w7.cell? ⟨s, 0, none⟩ = some (.bool false) := hk0z.cell 0
        have r1 : w7.cell? ⟨s, 1, none⟩ = some (.bool false) := hk0z.cell 1
        have r2 : w7.cell? ⟨s, 2, none⟩ = some (.bool false) := hk0z.cell 2
        have r3 : w7.cell? ⟨s, 3, none⟩ = some (.bool false) := hk0z.cell 3
        have r4 : w7.cell? ⟨s, 4, none⟩ = some (.bool false) := hk0z.cell 4
        have r5 : w7.cell? ⟨s, 5, none⟩ = some (.bool false) := hk0z.cell 5
        have r6 : w7.cell? ⟨s, 6, none⟩ = some (.slice none 0 0) := hk0z.cell 6
        have x0 : w7.cell? ⟨s + 1, 0, none⟩ = some (.bool false) := hk1z.cell 0
        have x1 : w7.cell? ⟨s + 1, 1, none⟩ = some (.bool false) := hk1z.cell 1
        have x2 : w7.cell? ⟨s + 1, 2, none⟩ = some (.bool false) := hk1z.cell 2
        have x3 : w7.cell? ⟨s + 1, 3, none⟩ = some (.bool false) := hk1z.cell 3
        have x4 : w7.cell? ⟨s + 1, 4, none⟩ = some (.bool false) := hk1z.cell 4
        have x5 : w7.cell? ⟨s + 1, 5, none⟩ = some (.bool false) := hk1z.cell 5
        have x6 : w7.cell? ⟨s + 1, 6, none⟩ = some (.slice none 0 0) := hk1z.cell 6
        have rf : ∀ o, w7.frozen? ⟨s, o, none⟩ = false := fun o => hk0z.frozen o
        have HRZ := Lib.hid (RRef.no (bs := bs) (w := w) (k := 4) HSZ.out HC.out HB.out)
        have HKZ := Lib.hid (Blk.seven hk0z false false false false false false none 0 0)
        clear hk0z hk1z
        go_wp2_with (first
          | (with_reducible refine store_seven (s := s) _ _ _ _ _ _ _ _ _ (by with_unfolding_all rfl) (by with_unfolding_all rfl) r0 r1 r2 r3 r4 r5 r6 rf ?_
             generalize (World.setCell _ _ _) = wz at HRZ HKZ ⊢)
          | (with_reducible refine bodyPost_ret ?_ ?_ HRZ.out
             rotate_left
             · rfl
             · exact rsread_results rfl rfl HKZ.out))
      have hd1 : ((n : Int) == 1) = false := by simp; omega
      have hn3 : 1 < n := by omega
      have hn3i : (1 : Int) < (n : Int) := by omega
      have c1 := HCELL.out 1 hn3
      obtain ⟨q3, q4⟩ := HBY.out.lt 1
      obtain ⟨l, hl⟩ : ∃ l, btN bs 1 = l := ⟨_, rfl⟩
      rw [hl] at q3 q4
      rw [q4] at c1
      have HL0 := Lib.hid hl
      have hwL : IntKind.i64.wrap (l : Int) = (l : Int) := IntWalk.i64_in _ (by omega)
      have HN1 : Hid (1 < bs.length) := Lib.hid (by rw [HLEN.out]; exact hn3)
      clear hl q4 hn2
      go_upto_region 11 with fail
      obtain ⟨D2, hD2⟩ : ∃ D, decide (69 < (l : Int)) = D := ⟨_, rfl⟩
      obtain ⟨G, hG⟩ : ∃ G, decide (0 < (l : Int)) = G := ⟨_, rfl⟩
      have hG2 : decide (0 < l) = G := by rw [← hG, decide_eq_decide]; omega
      have hD2f : decide (69 < l) = D2 := by rw [← hD2, decide_eq_decide]; omega
      have HBL : Hid (badL f l = (D2 || (G && !PL))) := Lib.hid (by unfold badL; rw [hD2f, hG2, HQf.out])
      clear hD2f
      go_cut [61] (fun v wx => v = .bool (badL f l) ∧ w7 = wx)
      case first =>
        as_aux_lemma =>
          have hcase : D2 = true ∨ (D2 = false ∧ G = false) ∨ (D2 = false ∧ G = true) := by cases D2 <;> cases G <;> simp
          rcases hcase with rfl | ⟨rfl, rfl⟩ | ⟨rfl, rfl⟩
          all_goals
            go_wp2_with fail
            go_meet
            exact ⟨by rw [HBL.out]; rfl, rfl⟩
      case rest =>
        obtain ⟨rfl, rfl⟩ := hcut
        clear hD2
        rcases hq : badL f l with _ | _
        case true =>
          have HC := Lib.hid (code_hdr (k := 5) (hdr_d HN1.out HQF.out (by rw [HF.out, HL0.out]; exact hq)))
          clear hq c0 c1
          have hk0z := HK0.out
          have hk1z := HK1.out
          have r0 : w7.cell? ⟨s, 0, none⟩ = some (.bool false) := hk0z.cell 0
          have r1 : w7.cell? ⟨s, 1, none⟩ = some (.bool false) := hk0z.cell 1
          have r2 : w7.cell? ⟨s, 2, none⟩ = some (.bool false) := hk0z.cell 2
          have r3 : w7.cell? ⟨s, 3, none⟩ = some (.bool false) := hk0z.cell 3
          have r4 : w7.cell? ⟨s, 4, none⟩ = some (.bool false) := hk0z.cell 4
          have r5 : w7.cell? ⟨s, 5, none⟩ = some (.bool false) := hk0z.cell 5
          have r6 : w7.cell? ⟨s, 6, none⟩ = some (.slice none 0 0) := hk0z.cell 6
          have x0 : w7.cell? ⟨s + 1, 0, none⟩ = some (.bool false) := hk1z.cell 0
          have x1 : w7.cell? ⟨s + 1, 1, none⟩ = some (.bool false) := hk1z.cell 1
          have x2 : w7.cell? ⟨s + 1, 2, none⟩ = some (.bool false) := hk1z.cell 2
          have x3 : w7.cell? ⟨s + 1, 3, none⟩ = some (.bool false) := hk1z.cell 3
          have x4 : w7.cell? ⟨s + 1, 4, none⟩ = some (.bool false) := hk1z.cell 4
          have x5 : w7.cell? ⟨s + 1, 5, none⟩ = some (.bool false) := hk1z.cell 5
          have x6 : w7.cell? ⟨s + 1, 6, none⟩ = some (.slice none 0 0) := hk1z.cell 6
          have rf : ∀ o, w7.frozen? ⟨s, o, none⟩ = false := fun o => hk0z.frozen o
          have HRZ := Lib.hid (RRef.no (bs := bs) (w := w) (k := 5) HSZ.out HC.out HB.out)
          have HKZ := Lib.hid (Blk.seven hk0z false false false false false false none 0 0)
          clear hk0z hk1z
          go_wp2_with (first
            | (with_reducible refine store_seven (s := s) _ _ _ _ _ _ _ _ _ (by with_unfolding_all rfl) (by with_unfolding_all rfl) r0 r1 r2 r3 r4 r5 r6 rf ?_
               generalize (World.setCell _ _ _) = wz at HRZ HKZ ⊢)
            | (with_reducible refine bodyPost_ret ?_ ?_ HRZ.out
               rotate_left
               · rfl
               · exact rsread_results rfl rfl HKZ.out))
        case false =>
          have HQL : Hid (badL (btN bs 0) (btN bs 1) = false) := Lib.hid (by rw [HF.out, HL0.out]; exact hq)
          clear hq
          by_cases hn4 : n = 2
          · have hd2 : ((n : Int) == 2) = true := by rw [hn4]; rfl
            have HC := Lib.hid (code_hdr (k := 4) (hdr_e (by rw [HLEN.out]; exact hn4) HQF.out HQL.out))
            clear hn4 c0 c1
            have hk0z := HK0.out
            have hk1z := HK1.out
            have r0 : w7.cell? ⟨s, 0, none⟩ = some (.bool false) := hk0z.cell 0
            have r1 : w7.cell? ⟨s, 1, none⟩ = some (.bool false) := hk0z.cell 1
            have r2 : w7.cell? ⟨s, 2, none⟩ = some (.bool false) := hk0z.cell 2
            have r3 : w7.cell? ⟨s, 3, none⟩ = some (.bool false) := hk0z.cell 3
            have r4 : w7.cell? ⟨s, 4, none⟩ = some (.bool false) := hk0z.cell 4
            have r5 : w7.cell? ⟨s, 5, none⟩ = some (.bool false) := hk0z.cell 5
            have r6 : w7.cell? ⟨s, 6, none⟩ = some (.slice none 0 0) := hk0z.cell 6
            have x0 : w7.cell? ⟨s + 1, 0, none⟩ = some (.bool false) := hk1z.cell 0
            have x1 : w7.cell? ⟨s + 1, 1, none⟩ = some (.bool false) := hk1z.cell 1
            have x2 : w7.cell? ⟨s + 1, 2, none⟩ = some (.bool false) := hk1z.cell 2
            have x3 : w7.cell? ⟨s + 1, 3, none⟩ = some (.bool false) := hk1z.cell 3
            have x4 : w7.cell? ⟨s + 1, 4, none⟩ = some (.bool false) := hk1z.cell 4
            have x5 : w7.cell? ⟨s + 1, 5, none⟩ = some (.bool false) := hk1z.cell 5
            have x6 : w7.cell? ⟨s + 1, 6, none⟩ = some (.slice none 0 0) := hk1z.cell 6
            have rf : ∀ o, w7.frozen? ⟨s, o, none⟩ = false := fun o => hk0z.frozen o
            have HRZ := Lib.hid (RRef.no (bs := bs) (w := w) (k := 4) HSZ.out HC.out HB.out)
            have HKZ := Lib.hid (Blk.seven hk0z false false false false false false none 0 0)
            clear hk0z hk1z
            go_wp2_with (first
              | (with_reducible refine store_seven (s := s) _ _ _ _ _ _ _ _ _ (by with_unfolding_all rfl) (by with_unfolding_all rfl) r0 r1 r2 r3 r4 r5 r6 rf ?_
                 generalize (World.setCell _ _ _) = wz at HRZ HKZ ⊢)
              | (with_reducible refine bodyPost_ret ?_ ?_ HRZ.out
                 rotate_left
                 · rfl
                 · exact rsread_results rfl rfl HKZ.out))
          have hd2 : ((n : Int) == 2) = false := by simp; omega
          have hn5 : 2 < n := by omega
          have hn5i : (2 : Int) < (n : Int) := by omega
          have c2 := HCELL.out 2 hn5
          obtain ⟨q5, q6⟩ := HBY.out.lt 2
          obtain ⟨m, hm⟩ : ∃ m, btN bs 2 = m := ⟨_, rfl⟩
          rw [hm] at q5 q6
          rw [q6] at c2
          have HM0 := Lib.hid hm
          have hwM : IntKind.i64.wrap (m : Int) = (m : Int) := IntWalk.i64_in _ (by omega)
          have HN2 : Hid (2 < bs.length) := Lib.hid (by rw [HLEN.out]; exact hn5)
          clear hm q6 hn4
          obtain ⟨t, ht⟩ : ∃ t, l + m = t := ⟨_, rfl⟩
          have hmlt : (m : Int) + (l : Int) = (t : Int) := by omega
          have hltm : (l : Int) + (m : Int) = (t : Int) := by omega
          have w1' : IntKind.i64.wrap (t : Int) = (t : Int) := IntWalk.i64_in _ (by omega)
          have HT := Lib.hid ht
          go_upto_region 16 with fail
          obtain ⟨D3, hD3⟩ : ∃ D, decide (70 < (t : Int)) = D := ⟨_, rfl⟩
          obtain ⟨R, hR⟩ : ∃ G, decide (0 < (m : Int)) = G := ⟨_, rfl⟩
          have hR2 : decide (0 < m) = R := by rw [← hR, decide_eq_decide]; omega
          have hZ : ((m : Int) == 0) = !R := by rw [← hR, Bool.eq_iff_iff]; simp only [beq_iff_eq, Bool.not_eq_true', decide_eq_false_iff_not]; omega
          have hD3f : decide (70 < l + m) = D3 := by rw [← hD3, decide_eq_decide]; omega
          have hZf : decide (m = 0) = !R := by rw [← hZ, Bool.eq_iff_iff]; simp only [beq_iff_eq, decide_eq_true_eq]; omega
          have HBM : Hid (badM f l m = ((D3 || (R && !PL)) || (!R && (G || P)))) := Lib.hid (by unfold badM; rw [hD3f, hR2, HQf.out, hZf, hG2, HPf.out])
          clear hD3f hZf
          go_cut [93] (fun v wx => v = .bool (badM f l m) ∧ w7 = wx)
          case first =>
            as_aux_lemma =>
              have hcase : D3 = true ∨ (D3 = false ∧ R = true ∧ PL = true) ∨ (D3 = false ∧ R = true ∧ PL = false) ∨ (D3 = false ∧ R = false ∧ G = true) ∨ (D3 = false ∧ R = false ∧ G = false) := by
                cases D3 <;> cases R <;> cases PL <;> cases G <;> simp
              rcases hcase with rfl | ⟨rfl, rfl, rfl⟩ | ⟨rfl, rfl, rfl⟩ | ⟨rfl, rfl, rfl⟩ | ⟨rfl, rfl, rfl⟩
              · go_wp2_with fail
                go_meet
                exact ⟨by rw [HBM.out]; rfl, rfl⟩
              · replace hZ : ((m : Int) == 0) = false := hZ
                go_wp2_with fail
                go_meet
                exact ⟨by rw [HBM.out]; rfl, rfl⟩
              · replace hZ : ((m : Int) == 0) = false := hZ
                go_wp2_with fail
                go_meet
                exact ⟨by rw [HBM.out]; rfl, rfl⟩
              · replace hZ : ((m : Int) == 0) = true := hZ
                go_wp2_with fail
                go_meet
                exact ⟨by rw [HBM.out]; rfl, rfl⟩
              · replace hZ : ((m : Int) == 0) = true := hZ
                go_wp2_with fail
                go_meet
                exact ⟨by rw [HBM.out]; rfl, rfl⟩
          case rest =>
            obtain ⟨rfl, rfl⟩ := hcut
            clear hD3 hR hR2 hZ hG hG2
            rcases hq : badM f l m with _ | _
            case true =>
              have HC := Lib.hid (code_hdr (k := 5) (hdr_f HN2.out HQF.out HQL.out (by rw [HF.out, HL0.out, HM0.out]; exact hq)))
              clear hq c0 c1 c2
              have hk0z := HK0.out
              have hk1z := HK1.out
              have r0 : w7.cell? ⟨s, 0, none⟩ = some (.bool false) := hk0z.cell 0
              have r1 : w7.cell? ⟨s, 1, none⟩ = some (.bool false) := hk0z.cell 1
              have r2 : w7.cell? ⟨s, 2, none⟩ = some (.bool false) := hk0z.cell 2
              have r3 : w7.cell? ⟨s, 3, none⟩ = some (.bool false) := hk0z.cell 3
              have r4 : w7.cell? ⟨s, 4, none⟩ = some (.bool false) := hk0z.cell 4
              have r5 : w7.cell? ⟨s, 5, none⟩ = some (.bool false) := hk0z.cell 5
              have r6 : w7.cell? ⟨s, 6, none⟩ = some (.slice none 0 0) := hk0z.cell 6
              have x0 : w7.cell? ⟨s + 1, 0, none⟩ = some (.bool false) := hk1z.cell 0
              have x1 : w7.cell? ⟨s + 1, 1, none⟩ = some (.bool false) := hk1z.cell 1
              have x2 : w7.cell? ⟨s + 1, 2, none⟩ = some (.bool false) := hk1z.cell 2
              have x3 : w7.cell? ⟨s + 1, 3, none⟩ = some (.bool false) := hk1z.cell 3
              have x4 : w7.cell? ⟨s + 1, 4, none⟩ = some (.bool false) := hk1z.cell 4
              have x5 : w7.cell? ⟨s + 1, 5, none⟩ = some (.bool false) := hk1z.cell 5
              have x6 : w7.cell? ⟨s + 1, 6, none⟩ = some (.slice none 0 0) := hk1z.cell 6
              have rf : ∀ o, w7.frozen? ⟨s, o, none⟩ = false := fun o => hk0z.frozen o
              have HRZ := Lib.hid (RRef.no (bs := bs) (w := w) (k := 5) HSZ.out HC.out HB.out)
              have HKZ := Lib.hid (Blk.seven hk0z false false false false false false none 0 0)
              clear hk0z hk1z
              go_wp2_with (first
                | (with_reducible refine store_seven (s := s) _ _ _ _ _ _ _ _ _ (by with_unfolding_all rfl) (by with_unfolding_all rfl) r0 r1 r2 r3 r4 r5 r6 rf ?_
                   generalize (World.setCell _ _ _) = wz at HRZ HKZ ⊢)
                | (with_reducible refine bodyPost_ret ?_ ?_ HRZ.out
                   rotate_left
                   · rfl
                   · exact rsread_results rfl rfl HKZ.out))
            case false =>
              have hqm : badM (btN bs 0) (btN bs 1) (btN bs 2) = false := by rw [HF.out, HL0.out, HM0.out]; exact hq
              have hh := hdr_g HN2.out HQF.out HQL.out hqm
              obtain ⟨hs1, hs2, -⟩ := hdr_says HQF.out HQL.out hqm
              rw [HF.out] at hs1
              rw [HL0.out, HM0.out] at hs2
              have HC : Hid (codeN bs = bodyN bs m m 0) := Lib.hid (by unfold codeN; rw [hh, if_pos rfl, HM0.out])
              have HS1 := Lib.hid hs1
              clear hq hqm hh hs1 c1 c2
              go_wp2_with (at_make; refine make_arr .u32 53 87 4 info_u32 (by decide) Try.underlying53 rfl _ _ rfl .i64 .i64 _ _ t _ rfl rfl (by omega) (by omega) (by omega) ?_)
              intro w2 harr hb2 hsz2
              have HB2 := Lib.hid (HB.out.trans (hb2.mono (HSZ.out ▸ HB.out.size)))
              have HKA := Lib.hid (HK0.out.below hb2 HK0.out.lt)
              have HKB := Lib.hid (HK1.out.below hb2 HK1.out.lt)
              obtain ⟨g, hg⟩ : ∃ g, w7.heap.size = g := ⟨_, rfl⟩
              have HG : Hid (s + 1 < g) := Lib.hid (by rw [← hg]; exact HK1.out.lt)
              rw [hg] at harr ⊢
              have HA2 := Lib.hid harr
              clear harr hb2 hsz2 hg hba c0
              go_wp2_with fail
              go_loopg [11] m (fun gg i wr => ∃ k : Nat, i = .int .i64 (k : Int) ∧ k + gg = m ∧ Arr .u32 87 wr g (magN bs l m k) ∧ bodyN bs m (m - k) k = codeN bs ∧ Below s w wr ∧ Blk wr s 30 #[.bool false, .bool false, .bool false, .bool false, .bool false, .bool false, .slice none 0 0] ∧ Blk wr (s + 1) 30 #[.bool false, .bool false, .bool false, .bool false, .bool false, .bool false, .slice none 0 0])
              case atStart => exact ⟨0, rfl, by omega, by rw [magN_zero, HT.out]; exact HA2.out, by rw [Nat.sub_zero]; exact HC.out.symm, HB2.out, HKA.out, HKB.out⟩
              case round =>
                obtain ⟨i, rfl, hk, harr, hbd, hb, hka, hkb⟩ := hrel
                have HK := Lib.hid hk
                have HBD := Lib.hid hbd
                have HBW := Lib.hid hb
                have HAR := Lib.hid harr
                have HKC := Lib.hid hka
                have HKD := Lib.hid hkb
                clear harr hbd hb HA2 HB2 HKA HKB hka hkb
                obtain ⟨wo, rfl⟩ : ∃ wo : World, wo = wr := ⟨_, rfl⟩
                by_cases hlt : i < m
                · have hkd : decide (i < m) = true := decide_eq_true (by omega)
                  have HLT := Lib.hid hlt
                  have him : i ≤ 70 := by omega
                  clear hk hlt
                  go_wp2_with fail
                  go_loopg [12] 4 (fun gg j wx => ∃ k2 : Nat, j = .int .i64 (k2 : Int) ∧ k2 + gg = 4 ∧ Arr .u32 87 wx g ((magN bs l m i).set (t - 1 - i) ((wdK bs i k2 : Nat) : Int)) ∧ (k2 = 0 ∨ 3 + 4 * i + k2 ≤ n) ∧ Below s w wx ∧ Blk wx s 30 #[.bool false, .bool false, .bool false, .bool false, .bool false, .bool false, .slice none 0 0] ∧ Blk wx (s + 1) 30 #[.bool false, .bool false, .bool false, .bool false, .bool false, .bool false, .slice none 0 0])
                  case atStart => exact ⟨0, rfl, by omega, by rw [magN_start HT.out HLT.out]; exact HAR.out, .inl rfl, HBW.out, HKC.out, HKD.out⟩
                  case round =>
                    obtain ⟨k2, rfl, hk2, harr2, hle, hb3, hk3a, hk3b⟩ := hrel
                    have HA3 := Lib.hid harr2
                    have HB3 := Lib.hid hb3
                    have HLE := Lib.hid hle
                    have HK3A := Lib.hid hk3a
                    have HK3B := Lib.hid hk3b
                    have hdig := magN_len bs l m i
                    clear hle hk3a hk3b HKC HKD
                    by_cases hlt2 : k2 < 4
                    · have hkd2 : decide ((k2 : Int) < 4) = true := decide_eq_true (by omega)
                      have HK2 := Lib.hid hk2
                      have hk3 : k2 ≤ 3 := by omega
                      have HLT2 := Lib.hid hlt2
                      obtain ⟨p, hp⟩ : ∃ p, 3 + 4 * i + k2 = p := ⟨_, rfl⟩
                      have hpi : 3 + 4 * (i : Int) + (k2 : Int) = (p : Int) := by omega
                      have HP := Lib.hid hp
                      clear hk2 hlt2
                      go_upto_region 26 with fail
                      by_cases hpn : p < n
                      · have hpd : decide (n ≤ p) = false := decide_eq_false (by omega)
                        have HPN := Lib.hid hpn
                        obtain ⟨q, hq⟩ : ∃ q, t - 1 - i = q := ⟨_, rfl⟩
                        have hlt := HLT.out
                        have hqt : q < t := by have := HT.out; omega
                        have hqi : (t : Int) - 1 - (i : Int) = (q : Int) := by have := HT.out; omega
                        have HQ := Lib.hid hq
                        rw [hq] at harr2
                        have cg := harr2.cell (i := q) (by rw [List.length_set, hdig, HT.out]; exact hqt)
                        rw [getD_set_self (by rw [hdig, HT.out]; exact hqt)] at cg
                        obtain ⟨cur, hcur⟩ : ∃ cur, wdK bs i k2 = cur := ⟨_, rfl⟩
                        have hcl := wdK_lt HBY.out i k2
                        have hcl2 : (256 : Nat) ^ k2 ≤ 256 ^ 3 := Nat.pow_le_pow_right (by decide) hk3
                        have hcl3 : cur < 16777216 := by rw [← hcur]; exact Nat.lt_of_lt_of_le hcl hcl2
                        rw [hcur] at cg
                        have HCUR := Lib.hid hcur
                        obtain ⟨hB0, hB1⟩ := HBY.out.lt p
                        obtain ⟨b', o', he, hba, hcc⟩ := (HROW.out _ HB3.out).at hpn
                        cases he
                        have cb := hcc p hpn
                        rw [hB1] at cb
                        obtain ⟨B, hBe⟩ : ∃ B, btN bs p = B := ⟨_, rfl⟩
                        rw [hBe] at cb hB0
                        have HBE := Lib.hid hBe
                        have hgf : ∀ o, wr.frozen? ⟨g, o, none⟩ = false := fun o => HA3.out.frozen o
                        have hb3s : g < wr.heap.size := HA3.out.lt
                        have w2' : IntKind.i64.wrap ((t : Int) - 1) = (t : Int) - 1 := IntWalk.i64_in _ (by omega)
                        have w3' : IntKind.i64.wrap (q : Int) = (q : Int) := IntWalk.i64_in _ (by omega)
                        have hqn : (q : Int) < (t : Int) := by omega
                        have hpn2 : (p : Int) < (n : Int) := by omega
                        have w4' : IntKind.u32.wrap (B : Int) = (B : Int) := by simp only [IntKind.wrap, IntKind.bits, IntKind.signed]; simp; omega
                        clear hcc hBe hb3 harr2 hcl hcl2 hB1 hq hp hcur hlt hdig
                        go_wp2_with fail
                        refine wp_regionN (fun w' => w'.cell? ⟨g, q, none⟩ = some (.int .u32 (cur : Int)) ∧ w'.cell? ⟨ba, oa + p, none⟩ = some (.int .u8 (B : Int))) [24] (by kernel_rfl) (by exact ⟨cg, cb⟩) (fun hHeld => ?_)
                        refine wpAnyN_tk (i := 0) (oi := ⟨some 118, _, _, _, _, _⟩) (v := ?_) rfl (by kernel_rfl) (fun _ _ _ h => h) (by rfl) ?_ (by assumption) ?_
                        rotate_left 1
                        · (intro w hSw; (try dsimp only at hSw); go_simp; try with_reducible rfl)
                        try simp only [Act.put, List.setIfInBounds_toArray, List.set_cons_zero, List.set_cons_succ]
                        refine wpAnyN_tk (i := 1) (oi := ⟨some 119, _, _, _, _, _⟩) (v := ?_) rfl (by kernel_rfl) (fun _ _ _ h => h) (by rfl) ?_ (by assumption) ?_
                        rotate_left 1
                        · (intro w hSw; (try dsimp only at hSw); go_simp; try with_reducible rfl)
                        try simp only [Act.put, List.setIfInBounds_toArray, List.set_cons_zero, List.set_cons_succ]
                        refine wpAnyN_tk (i := 2) (oi := ⟨some 120, _, _, _, _, _⟩) (v := ?_) rfl (by kernel_rfl) (fun _ _ _ h => h) (by rfl) ?_ (by assumption) ?_
                        rotate_left 1
                        · (intro w hSw; (try dsimp only at hSw); go_simp; try with_reducible rfl)
                        try simp only [Act.put, List.setIfInBounds_toArray, List.set_cons_zero, List.set_cons_succ]
                        refine wpAnyN_tk (i := 3) (oi := ⟨some 121, _, _, _, _, _⟩) (v := ?_) rfl (by kernel_rfl) (fun _ _ _ h => h) (by rfl) ?_ (by assumption) ?_
                        rotate_left 1
                        · (intro w hSw; (try dsimp only at hSw); go_simp; try with_reducible rfl)
                        try simp only [Act.put, List.setIfInBounds_toArray, List.set_cons_zero, List.set_cons_succ]
                        refine wpAnyN_tk (i := 4) (oi := ⟨some 122, _, _, _, _, _⟩) (v := ?_) rfl (by kernel_rfl) (fun _ _ _ h => h) (by rfl) ?_ (by assumption) ?_
                        rotate_left 1
                        · (intro w hSw; (try dsimp only at hSw); go_simp; try with_reducible rfl)
                        try simp only [Act.put, List.setIfInBounds_toArray, List.set_cons_zero, List.set_cons_succ]
                        refine wpAnyN_tk (i := 5) (oi := ⟨some 123, _, _, _, _, _⟩) (v := ?_) rfl (by kernel_rfl) (fun _ _ _ h => h) (by rfl) ?_ (by assumption) ?_
                        rotate_left 1
                        · (intro w hSw; (try dsimp only at hSw); go_simp; try with_reducible rfl)
                        try simp only [Act.put, List.setIfInBounds_toArray, List.set_cons_zero, List.set_cons_succ]
                        refine wpAnyN_tk (i := 6) (oi := ⟨some 124, _, _, _, _, _⟩) (v := ?_) rfl (by kernel_rfl) (fun _ _ _ h => h) (by rfl) ?_ (by assumption) ?_
                        rotate_left 1
                        · (intro w hSw; (try dsimp only at hSw); go_simp; try with_reducible rfl)
                        try simp only [Act.put, List.setIfInBounds_toArray, List.set_cons_zero, List.set_cons_succ]
                        refine wpAnyN_tk (i := 7) (oi := ⟨some 125, _, _, _, _, _⟩) (v := ?_) rfl (by kernel_rfl) (fun _ _ _ h => h) (by rfl) ?_ (by assumption) ?_
                        rotate_left 1
                        · (intro w hSw; (try dsimp only at hSw); go_simp; try with_reducible rfl)
                        try simp only [Act.put, List.setIfInBounds_toArray, List.set_cons_zero, List.set_cons_succ]
                        refine wpAnyN_tk (i := 8) (oi := ⟨some 126, _, _, _, _, _⟩) (v := ?_) rfl (by kernel_rfl) (fun _ _ _ h => h) (by rfl) ?_ (by assumption) ?_
                        rotate_left 1
                        · (intro w hSw; (try dsimp only at hSw); go_simp; try with_reducible rfl)
                        try simp only [Act.put, List.setIfInBounds_toArray, List.set_cons_zero, List.set_cons_succ]
                        refine wpAnyN_tk (i := 9) (oi := ⟨some 127, _, _, _, _, _⟩) (v := ?_) rfl (by kernel_rfl) (fun _ _ _ h => h) (by rfl) ?_ (by assumption) ?_
                        rotate_left 1
                        · (intro w hSw; (try dsimp only at hSw); go_simp; try with_reducible rfl)
                        try simp only [Act.put, List.setIfInBounds_toArray, List.set_cons_zero, List.set_cons_succ]
                        refine wpAnyN_tk (i := 10) (oi := ⟨some 128, _, _, _, _, _⟩) (v := ?_) rfl (by kernel_rfl) (fun _ _ _ h => h) (by rfl) ?_ (by assumption) ?_
                        rotate_left 1
                        · (intro w hSw; (try dsimp only at hSw); go_simp; try with_reducible rfl)
                        try simp only [Act.put, List.setIfInBounds_toArray, List.set_cons_zero, List.set_cons_succ]
                        refine wpAnyN_tk (i := 11) (oi := ⟨some 129, _, _, _, _, _⟩) (v := ?_) rfl (by kernel_rfl) (fun _ _ _ h => h) (by rfl) ?_ (by assumption) ?_
                        rotate_left 1
                        · (intro w hSw; (try dsimp only at hSw); go_simp; try with_reducible rfl)
                        try simp only [Act.put, List.setIfInBounds_toArray, List.set_cons_zero, List.set_cons_succ]
                        refine wpAnyN_tk (i := 12) (oi := ⟨some 130, _, _, _, _, _⟩) (v := ?_) rfl (by kernel_rfl) (fun _ _ _ h => h) (by rfl) ?_ (by assumption) ?_
                        rotate_left 1
                        · (intro w hSw; (try dsimp only at hSw); go_simp; try with_reducible rfl)
                        try simp only [Act.put, List.setIfInBounds_toArray, List.set_cons_zero, List.set_cons_succ]
                        refine wpAnyN_tk (i := 13) (oi := ⟨some 131, _, _, _, _, _⟩) (v := ?_) rfl (by kernel_rfl) (fun _ _ _ h => h) (by rfl) ?_ (by assumption) ?_
                        rotate_left 1
                        · (intro w hSw; (try dsimp only at hSw); go_simp; try with_reducible rfl)
                        try simp only [Act.put, List.setIfInBounds_toArray, List.set_cons_zero, List.set_cons_succ]
                        refine wpAnyN_tk (i := 14) (oi := ⟨some 132, _, _, _, _, _⟩) (v := ?_) rfl (by kernel_rfl) (fun _ _ _ h => h) (by rfl) ?_ (by assumption) ?_
                        rotate_left 1
                        · (intro w hSw; (try dsimp only at hSw); go_simp; try with_reducible rfl)
                        try simp only [Act.put, List.setIfInBounds_toArray, List.set_cons_zero, List.set_cons_succ]
                        refine wpAnyN_tk (i := 15) (oi := ⟨some 133, _, _, _, _, _⟩) (v := ?_) rfl (by kernel_rfl) (fun _ _ _ h => h) (by rfl) ?_ (by assumption) ?_
                        rotate_left 1
                        · (intro w hSw; (try dsimp only at hSw); go_simp; try with_reducible rfl)
                        try simp only [Act.put, List.setIfInBounds_toArray, List.set_cons_zero, List.set_cons_succ]
                        refine wpAnyN_tk (i := 16) (oi := ⟨some 134, _, _, _, _, _⟩) (v := ?_) rfl (by kernel_rfl) (fun _ _ _ h => h) (by rfl) ?_ (by assumption) ?_
                        rotate_left 1
                        · (intro w hSw; (try dsimp only at hSw); go_simp; try with_reducible rfl)
                        try simp only [Act.put, List.setIfInBounds_toArray, List.set_cons_zero, List.set_cons_succ]
                        refine wpAnyN_tk (i := 17) (oi := ⟨some 135, _, _, _, _, _⟩) (v := ?_) rfl (by kernel_rfl) (fun _ _ _ h => h) (by rfl) ?_ (by assumption) ?_
                        rotate_left 1
                        · (intro w hSw; (try dsimp only at hSw); go_simp; try with_reducible rfl)
                        try simp only [Act.put, List.setIfInBounds_toArray, List.set_cons_zero, List.set_cons_succ]
                        refine wpAnyN_tk (i := 18) (oi := ⟨some 136, _, _, _, _, _⟩) (v := ?_) rfl (by kernel_rfl) (fun _ _ _ h => h) (by rfl) ?_ (by assumption) ?_
                        rotate_left 1
                        · (intro w hSw; (try dsimp only at hSw); go_simp; try with_reducible rfl)
                        try simp only [Act.put, List.setIfInBounds_toArray, List.set_cons_zero, List.set_cons_succ]
                        refine wpAnyN_tk (i := 19) (oi := ⟨some 137, _, _, _, _, _⟩) (v := ?_) rfl (by kernel_rfl) (fun _ _ _ h => h) (by rfl) ?_ (by assumption) ?_
                        rotate_left 1
                        · (intro w hSw; (try dsimp only at hSw); go_simp; try with_reducible rfl)
                        try simp only [Act.put, List.setIfInBounds_toArray, List.set_cons_zero, List.set_cons_succ]
                        refine wpAnyN_tk (i := 20) (oi := ⟨some 138, _, _, _, _, _⟩) (v := ?_) rfl (by kernel_rfl) (fun _ _ _ h => h) (by rfl) ?_ (by assumption) ?_
                        rotate_left 1
                        · (intro w hSw; (try dsimp only at hSw); go_simp; try with_reducible rfl)
                        try simp only [Act.put, List.setIfInBounds_toArray, List.set_cons_zero, List.set_cons_succ]
                        refine wpAnyN_tk (i := 21) (oi := ⟨some 139, _, _, _, _, _⟩) (v := ?_) rfl (by kernel_rfl) (fun _ _ _ h => h) (by rfl) ?_ (by assumption) ?_
                        rotate_left 1
                        · (intro w hSw; (try dsimp only at hSw); go_simp; try with_reducible rfl)
                        try simp only [Act.put, List.setIfInBounds_toArray, List.set_cons_zero, List.set_cons_succ]
                        refine wpAnyN_tk (i := 22) (oi := ⟨some 140, _, _, _, _, _⟩) (v := ?_) rfl (by kernel_rfl) (fun _ _ _ h => h) (by rfl) ?_ (by assumption) ?_
                        rotate_left 1
                        · (intro w hSw; (try dsimp only at hSw); go_simp; try with_reducible rfl)
                        try simp only [Act.put, List.setIfInBounds_toArray, List.set_cons_zero, List.set_cons_succ]
                        refine wpAnyN_tk (i := 23) (oi := ⟨some 141, _, _, _, _, _⟩) (v := ?_) rfl (by kernel_rfl) (fun _ _ _ h => h) (by rfl) ?_ (by assumption) ?_
                        rotate_left 1
                        · (intro w hSw; (try dsimp only at hSw); go_simp; try with_reducible rfl)
                        try simp only [Act.put, List.setIfInBounds_toArray, List.set_cons_zero, List.set_cons_succ]
                        refine wpAnyN_late (i := 24) (o := ⟨none, _, _, _, _, _⟩) (by kernel_rfl) (by kernel_rfl) rfl (fun K hK => ?_)
                        go_simp
                        refine hK.out _ _ ?_
                        clear hK K
                        try simp only [Act.put, List.setIfInBounds_toArray, List.set_cons_zero, List.set_cons_succ]
                        refine wpAnyN_end (by kernel_rfl) ?_
                        have hor : IntKind.u32.wrap (IntKind.u32.wrap ((cur : Int) * 256) + (B : Int)) = ((wdK bs i (k2 + 1) : Nat) : Int) := by
                          rw [show IntKind.u32.wrap ((cur : Int) * 256) = (cur : Int) * 256 from IntWalk.u32_in _ (by omega), show IntKind.u32.wrap ((cur : Int) * 256 + (B : Int)) = (cur : Int) * 256 + (B : Int) from IntWalk.u32_in _ (by omega)]
                          show _ = ((wdK bs i k2 * 256 + btN bs (3 + 4 * i + k2) : Nat) : Int)
                          rw [HP.out, HBE.out, HCUR.out]
                          omega
                        rw [hor]
                        clear hor hHeld
                        have hkw : IntKind.i64.wrap ((k2 : Int) + 1) = (k2 : Int) + 1 := IntWalk.i64_in _ (by omega)
                        go_wp2_with fail
                        go_roundg (gk - 1)
                        case measure => have := HLT2.out; have := HK2.out; omega
                        case rel => exact ⟨k2 + 1, rfl, by have := HLT2.out; have := HK2.out; omega, by have h := HA3.out.set q ((wdK bs i (k2 + 1) : Nat) : Int); rw [HQ.out] at h ⊢; rw [List.set_set] at h; exact h, .inr (by have := HP.out; have := HPN.out; omega), (HB3.out.setCell (Nat.le_of_lt (Nat.lt_of_succ_lt HG.out)) _).drew, (HK3A.out.far (by have := HG.out; show s ≠ g; omega) _).drew, (HK3B.out.far (by have := HG.out; show s + 1 ≠ g; omega) _).drew⟩
                      · have hpd : decide (n ≤ p) = true := decide_eq_true (by omega)
                        have HC5 : Hid (codeN bs = 4 + 1) := Lib.hid (by rw [← HBD.out]; exact body_short HLT.out (by rw [HLEN.out]; have := HP.out; omega))
                        clear hpn harr2
                        as_aux_lemma =>
                          have hk0z := HK3A.out
                          have hk1z := HK3B.out
                          have r0 : wr.cell? ⟨s, 0, none⟩ = some (.bool false) := hk0z.cell 0
                          have r1 : wr.cell? ⟨s, 1, none⟩ = some (.bool false) := hk0z.cell 1
                          have r2 : wr.cell? ⟨s, 2, none⟩ = some (.bool false) := hk0z.cell 2
                          have r3 : wr.cell? ⟨s, 3, none⟩ = some (.bool false) := hk0z.cell 3
                          have r4 : wr.cell? ⟨s, 4, none⟩ = some (.bool false) := hk0z.cell 4
                          have r5 : wr.cell? ⟨s, 5, none⟩ = some (.bool false) := hk0z.cell 5
                          have r6 : wr.cell? ⟨s, 6, none⟩ = some (.slice none 0 0) := hk0z.cell 6
                          have x0 : wr.cell? ⟨s + 1, 0, none⟩ = some (.bool false) := hk1z.cell 0
                          have x1 : wr.cell? ⟨s + 1, 1, none⟩ = some (.bool false) := hk1z.cell 1
                          have x2 : wr.cell? ⟨s + 1, 2, none⟩ = some (.bool false) := hk1z.cell 2
                          have x3 : wr.cell? ⟨s + 1, 3, none⟩ = some (.bool false) := hk1z.cell 3
                          have x4 : wr.cell? ⟨s + 1, 4, none⟩ = some (.bool false) := hk1z.cell 4
                          have x5 : wr.cell? ⟨s + 1, 5, none⟩ = some (.bool false) := hk1z.cell 5
                          have x6 : wr.cell? ⟨s + 1, 6, none⟩ = some (.slice none 0 0) := hk1z.cell 6
                          have rf : ∀ o, wr.frozen? ⟨s, o, none⟩ = false := fun o => hk0z.frozen o
                          have HRZ := Lib.hid (RRef.no (bs := bs) (w := w) (k := 4) HSZ.out HC5.out HB3.out)
                          have HKZ := Lib.hid (Blk.seven hk0z false false false false false false none 0 0)
                          clear hk0z hk1z
                          go_wp2_with (first
                            | (with_reducible refine store_seven (s := s) _ _ _ _ _ _ _ _ _ (by with_unfolding_all rfl) (by with_unfolding_all rfl) r0 r1 r2 r3 r4 r5 r6 rf ?_
                               generalize (World.setCell _ _ _) = wz at HRZ HKZ ⊢)
                            | (with_reducible refine bodyPost_ret ?_ ?_ HRZ.out
                               rotate_left
                               · rfl
                               · exact rsread_results rfl rfl HKZ.out))
                    · have hkd2 : decide ((k2 : Int) < 4) = false := decide_eq_false (by omega)
                      have hk4 : k2 = 4 := by omega
                      subst hk4
                      have hlt := HLT.out
                      have htm := HT.out
                      have hA4 : Arr .u32 87 wr g (magN bs l m (i + 1)) := by rw [← magN_set hlt, htm]; exact HA3.out
                      have hm4 := magN_len bs l m (i + 1)
                      obtain ⟨q, hq⟩ : ∃ q, t - 1 - i = q := ⟨_, rfl⟩
                      have ca := hA4.cell (i := q) (by rw [hm4]; omega)
                      rw [magN_get (by omega), if_pos (by omega), show l + m - 1 - q = i from by omega] at ca
                      have hqi : (t : Int) - 1 - (i : Int) = (q : Int) := by omega
                      have w2' : IntKind.i64.wrap ((t : Int) - 1) = (t : Int) - 1 := IntWalk.i64_in _ (by omega)
                      have w2'' : IntKind.i64.wrap (q : Int) = (q : Int) := IntWalk.i64_in _ (by omega)
                      have hqn : (q : Int) < (t : Int) := by omega
                      obtain ⟨r, hr⟩ : ∃ r, m - 1 = r := ⟨_, rfl⟩
                      have hri : (m : Int) - 1 = (r : Int) := by omega
                      have w3' : IntKind.i64.wrap (r : Int) = (r : Int) := IntWalk.i64_in _ (by omega)
                      have HA4 := Lib.hid hA4
                      have HR2 := Lib.hid hr
                      have hle2 : 3 + 4 * i + 4 ≤ n := by
                        rcases HLE.out with h | h
                        · omega
                        · exact h
                      have HLE2 := Lib.hid hle2
                      clear hlt2 hk2 harr2 hkd2 hA4 hm4 hlt htm hle2 HA3 HLE
                      go_upto_region 29 with fail
                      go_cut [161] (fun v wx => v = .bool (decide ((i = 0 ∨ i + 1 = m) ∧ wdN bs i = 0)) ∧ wr = wx)
                      case first =>
                        as_aux_lemma =>
                          obtain ⟨zz, hzz⟩ : ∃ zz, (((wdN bs i : Nat) : Int) == 0) = zz := ⟨_, rfl⟩
                          have HZZ : Hid (decide (wdN bs i = 0) = zz) := Lib.hid (by rw [← hzz, Bool.eq_iff_iff]; simp only [decide_eq_true_eq, beq_iff_eq]; omega)
                          by_cases hi0 : i = 0
                          · have HI0 := Lib.hid hi0
                            have hid0 : ((i : Int) == 0) = true := by simp; omega
                            clear hi0
                            go_wp2_with fail
                            go_meet
                            exact ⟨by rw [← HZZ.out]; congr 1; rw [decide_eq_decide]; exact ⟨fun h => ⟨.inl HI0.out, h⟩, fun h => h.2⟩, rfl⟩
                          · have HI0 := Lib.hid hi0
                            have hid0 : ((i : Int) == 0) = false := by simp; omega
                            by_cases hir : i = r
                            · have hird : ((i : Int) == (r : Int)) = true := by simp; omega
                              have HIR : Hid (i + 1 = m) := Lib.hid (by have := HR2.out; have := HLT.out; omega)
                              clear hi0 hir
                              go_wp2_with fail
                              go_meet
                              exact ⟨by rw [← HZZ.out]; congr 1; rw [decide_eq_decide]; exact ⟨fun h => ⟨.inr HIR.out, h⟩, fun h => h.2⟩, rfl⟩
                            · have hird : ((i : Int) == (r : Int)) = false := by simp; omega
                              have HIR : Hid (i + 1 ≠ m) := Lib.hid (by have := HR2.out; have := HLT.out; omega)
                              clear hi0 hir ca
                              go_wp2_with fail
                              go_meet
                              exact ⟨by rw [decide_eq_false (fun h => by rcases h.1 with h | h; exact HI0.out h; exact HIR.out h)], rfl⟩
                      case rest =>
                        obtain ⟨rfl, rfl⟩ := hcut
                        clear ca
                        rcases hf : (decide ((i = 0 ∨ i + 1 = m) ∧ wdN bs i = 0)) with _ | _
                        case true =>
                          have HC6 : Hid (codeN bs = 5 + 1) := Lib.hid (by rw [← HBD.out]; exact body_form HLT.out (by rw [HLEN.out]; have := HLE2.out; omega) (of_decide_eq_true hf))
                          clear hf
                          as_aux_lemma =>
                            have hk0z := HK3A.out
                            have hk1z := HK3B.out
                            have r0 : wr.cell? ⟨s, 0, none⟩ = some (.bool false) := hk0z.cell 0
                            have r1 : wr.cell? ⟨s, 1, none⟩ = some (.bool false) := hk0z.cell 1
                            have r2 : wr.cell? ⟨s, 2, none⟩ = some (.bool false) := hk0z.cell 2
                            have r3 : wr.cell? ⟨s, 3, none⟩ = some (.bool false) := hk0z.cell 3
                            have r4 : wr.cell? ⟨s, 4, none⟩ = some (.bool false) := hk0z.cell 4
                            have r5 : wr.cell? ⟨s, 5, none⟩ = some (.bool false) := hk0z.cell 5
                            have r6 : wr.cell? ⟨s, 6, none⟩ = some (.slice none 0 0) := hk0z.cell 6
                            have x0 : wr.cell? ⟨s + 1, 0, none⟩ = some (.bool false) := hk1z.cell 0
                            have x1 : wr.cell? ⟨s + 1, 1, none⟩ = some (.bool false) := hk1z.cell 1
                            have x2 : wr.cell? ⟨s + 1, 2, none⟩ = some (.bool false) := hk1z.cell 2
                            have x3 : wr.cell? ⟨s + 1, 3, none⟩ = some (.bool false) := hk1z.cell 3
                            have x4 : wr.cell? ⟨s + 1, 4, none⟩ = some (.bool false) := hk1z.cell 4
                            have x5 : wr.cell? ⟨s + 1, 5, none⟩ = some (.bool false) := hk1z.cell 5
                            have x6 : wr.cell? ⟨s + 1, 6, none⟩ = some (.slice none 0 0) := hk1z.cell 6
                            have rf : ∀ o, wr.frozen? ⟨s, o, none⟩ = false := fun o => hk0z.frozen o
                            have HRZ := Lib.hid (RRef.no (bs := bs) (w := w) (k := 5) HSZ.out HC6.out HB3.out)
                            have HKZ := Lib.hid (Blk.seven hk0z false false false false false false none 0 0)
                            clear hk0z hk1z
                            go_wp2_with (first
                              | (with_reducible refine store_seven (s := s) _ _ _ _ _ _ _ _ _ (by with_unfolding_all rfl) (by with_unfolding_all rfl) r0 r1 r2 r3 r4 r5 r6 rf ?_
                                 generalize (World.setCell _ _ _) = wz at HRZ HKZ ⊢)
                              | (with_reducible refine bodyPost_ret ?_ ?_ HRZ.out
                                 rotate_left
                                 · rfl
                                 · exact rsread_results rfl rfl HKZ.out))
                        case false =>
                          have HBN : Hid (bodyN bs m (m - (i + 1)) (i + 1) = codeN bs) := Lib.hid (by rw [← HBD.out]; exact (body_next HLT.out (by rw [HLEN.out]; have := HLE2.out; omega) (of_decide_eq_false hf)).symm)
                          clear hf
                          have him2 : IntKind.i64.wrap ((i : Int) + 1) = (i : Int) + 1 := IntWalk.i64_in _ (by omega)
                          go_wp2_with fail
                          go_roundg (m - i - 1)
                          case measure => have := HLT.out; have := HK.out; omega
                          case rel => exact ⟨i + 1, rfl, by have := HLT.out; omega, HA4.out, HBN.out, HB3.out, HK3A.out, HK3B.out⟩
                · have hkd : decide (i < m) = false := decide_eq_false hlt
                  obtain rfl : i = m := by omega
                  have hbd := HBD.out
                  rw [Nat.sub_self] at hbd
                  unfold bodyN at hbd
                  by_cases h7 : 3 + 4 * i < n
                  · have h7d : decide (3 + 4 * (i : Int) < (n : Int)) = true := decide_eq_true (by omega)
                    rw [if_pos (by rw [HLEN.out]; exact h7)] at hbd
                    have HC7 : Hid (codeN bs = 6 + 1) := Lib.hid hbd.symm
                    clear hbd h7 hlt hk
                    as_aux_lemma =>
                      have hk0z := HKC.out
                      have hk1z := HKD.out
                      have r0 : wo.cell? ⟨s, 0, none⟩ = some (.bool false) := hk0z.cell 0
                      have r1 : wo.cell? ⟨s, 1, none⟩ = some (.bool false) := hk0z.cell 1
                      have r2 : wo.cell? ⟨s, 2, none⟩ = some (.bool false) := hk0z.cell 2
                      have r3 : wo.cell? ⟨s, 3, none⟩ = some (.bool false) := hk0z.cell 3
                      have r4 : wo.cell? ⟨s, 4, none⟩ = some (.bool false) := hk0z.cell 4
                      have r5 : wo.cell? ⟨s, 5, none⟩ = some (.bool false) := hk0z.cell 5
                      have r6 : wo.cell? ⟨s, 6, none⟩ = some (.slice none 0 0) := hk0z.cell 6
                      have x0 : wo.cell? ⟨s + 1, 0, none⟩ = some (.bool false) := hk1z.cell 0
                      have x1 : wo.cell? ⟨s + 1, 1, none⟩ = some (.bool false) := hk1z.cell 1
                      have x2 : wo.cell? ⟨s + 1, 2, none⟩ = some (.bool false) := hk1z.cell 2
                      have x3 : wo.cell? ⟨s + 1, 3, none⟩ = some (.bool false) := hk1z.cell 3
                      have x4 : wo.cell? ⟨s + 1, 4, none⟩ = some (.bool false) := hk1z.cell 4
                      have x5 : wo.cell? ⟨s + 1, 5, none⟩ = some (.bool false) := hk1z.cell 5
                      have x6 : wo.cell? ⟨s + 1, 6, none⟩ = some (.slice none 0 0) := hk1z.cell 6
                      have rf : ∀ o, wo.frozen? ⟨s, o, none⟩ = false := fun o => hk0z.frozen o
                      have HRZ := Lib.hid (RRef.no (bs := bs) (w := w) (k := 6) HSZ.out HC7.out HBW.out)
                      have HKZ := Lib.hid (Blk.seven hk0z false false false false false false none 0 0)
                      clear hk0z hk1z
                      go_wp2_with (first
                        | (with_reducible refine store_seven (s := s) _ _ _ _ _ _ _ _ _ (by with_unfolding_all rfl) (by with_unfolding_all rfl) r0 r1 r2 r3 r4 r5 r6 rf ?_
                           generalize (World.setCell _ _ _) = wz at HRZ HKZ ⊢)
                        | (with_reducible refine bodyPost_ret ?_ ?_ HRZ.out
                           rotate_left
                           · rfl
                           · exact rsread_results rfl rfl HKZ.out))
                  · have h7d : decide (3 + 4 * (i : Int) < (n : Int)) = false := decide_eq_false (by omega)
                    rw [if_neg (by rw [HLEN.out]; exact h7)] at hbd
                    have HC0 : Hid (codeN bs = 0) := Lib.hid hbd.symm
                    clear hbd h7 hlt hk
                    have hfull := HAR.out.full (by rw [magN_len]; omega)
                    rw [magN_len, HT.out] at hfull
                    obtain ⟨vv, hvv⟩ : ∃ vv, V 4294967296 (magN bs l i i) = vv := ⟨_, rfl⟩
                    have HZO : Hid (zOf bs = if P = true then -vv else vv) := Lib.hid (by
                      unfold zOf
                      rw [HF.out, HL0.out, HM0.out, hvv, ← HPf.out]
                      by_cases h : f / 32 = 1
                      · rw [if_pos h, if_pos (decide_eq_true h)]
                      · rw [if_neg h, if_neg (by rw [decide_eq_false h]; decide)])
                    have HCALL : Hid (Calls Try.prog 29 #[.slice (some ⟨g, 0, none⟩) t t] wo (RetNum wo vv)) := Lib.hid (by rw [← hvv]; exact rnum_any _ t t _ wo hfull (magN_dig HBY.out l i i) (by have := HT.out; have := hs2; omega))
                    clear hfull hvv
                    have hfl := flags_read f (by have := HS1.out; omega)
                    rw [hPL] at hfl
                    obtain ⟨q0, hq0⟩ : ∃ q, ((f : Int) % 2 == 1) = q := ⟨_, rfl⟩
                    obtain ⟨q1, hq1⟩ : ∃ q, ((f : Int) / 2 % 2 == 1) = q := ⟨_, rfl⟩
                    obtain ⟨q2, hq2⟩ : ∃ q, ((f : Int) / 4 % 2 == 1) = q := ⟨_, rfl⟩
                    obtain ⟨q3, hq3⟩ : ∃ q, ((f : Int) / 8 % 2 == 1) = q := ⟨_, rfl⟩
                    rw [hq0, hq1, hq2, hq3] at hfl
                    have HQ7 : Hid (rsCells (bOf bs) = fun ng a l c => #[.bool q0, .bool q1, .bool q2, .bool q3, .bool PL, .bool ng, .slice a l c]) := Lib.hid (by
                      have hbf : bOf bs = f % 32 := by unfold bOf; rw [HF.out]
                      rw [hbf]; funext ng a l c; unfold rsCells
                      rw [← hfl.1, ← hfl.2.1, ← hfl.2.2.1, ← hfl.2.2.2.1, ← hfl.2.2.2.2])
                    clear hfl
                    go_wp2_with fail
                    refine HCALL.out.mono ?_; rintro e w5 ⟨ng, a2, l2, c2, rfl, hN, hb5, -⟩
                    have HB5 := Lib.hid (HBW.out.trans (hb5.mono (HSZ.out ▸ HBW.out.size)))
                    have hk5a := HKC.out.below hb5 (Nat.lt_of_lt_of_le HKC.out.lt (Nat.le_refl _))
                    have hk5 := HKD.out.below hb5 HKD.out.lt
                    have HK6 := Lib.hid (Blk.seven hk5 q0 q1 q2 q3 PL ng a2 l2 c2)
                    have HN6 := Lib.hid (NumC.seven hk5 hN q0 q1 q2 q3 PL ng a2 l2 c2)
                    have hbs := below_set7 HB5.out (Nat.le_succ s) (.bool q0) (.bool q1) (.bool q2) (.bool q3) (.bool PL) (.bool ng) (.slice a2 l2 c2)
                    have HB6 := Lib.hid hbs
                    have HK6A := Lib.hid (hk5a.far7 (by omega : s ≠ s + 1) (.bool q0) (.bool q1) (.bool q2) (.bool q3) (.bool PL) (.bool ng) (.slice a2 l2 c2))
                    have hk5f : ∀ o, w5.frozen? ⟨s + 1, o, none⟩ = false := fun o => hk5.frozen o
                    have x0 : w5.cell? ⟨s + 1, 0, none⟩ = some (.bool false) := hk5.cell 0
                    have x1 : w5.cell? ⟨s + 1, 1, none⟩ = some (.bool false) := hk5.cell 1
                    have x2 : w5.cell? ⟨s + 1, 2, none⟩ = some (.bool false) := hk5.cell 2
                    have x3 : w5.cell? ⟨s + 1, 3, none⟩ = some (.bool false) := hk5.cell 3
                    have x4 : w5.cell? ⟨s + 1, 4, none⟩ = some (.bool false) := hk5.cell 4
                    have x5 : w5.cell? ⟨s + 1, 5, none⟩ = some (.bool false) := hk5.cell 5
                    have x6 : w5.cell? ⟨s + 1, 6, none⟩ = some (.slice none 0 0) := hk5.cell 6
                    clear hk5 hk5a hb5 hN hbs HBW HKC HKD HAR HCALL
                    go_upto_region 34 with (with_reducible refine store_seven (s := s + 1) _ _ _ _ _ _ _ _ _ (by with_unfolding_all rfl) (by with_unfolding_all rfl) x0 x1 x2 x3 x4 x5 x6 hk5f ?_)
                    generalize (World.setCell _ _ _) = w6 at HK6 HN6 HB6 HK6A ⊢
                    clear hq0 hq1 hq2 hq3 x0 x1 x2 x3 x4 x5 x6 hk5f
                    cases P with
                    | false =>
                      as_aux_lemma =>
                        have hkA := HK6A.out
                        have hkB := HK6.out
                        have r0 : w6.cell? ⟨s, 0, none⟩ = some (.bool false) := hkA.cell 0
                        have r1 : w6.cell? ⟨s, 1, none⟩ = some (.bool false) := hkA.cell 1
                        have r2 : w6.cell? ⟨s, 2, none⟩ = some (.bool false) := hkA.cell 2
                        have r3 : w6.cell? ⟨s, 3, none⟩ = some (.bool false) := hkA.cell 3
                        have r4 : w6.cell? ⟨s, 4, none⟩ = some (.bool false) := hkA.cell 4
                        have r5 : w6.cell? ⟨s, 5, none⟩ = some (.bool false) := hkA.cell 5
                        have r6 : w6.cell? ⟨s, 6, none⟩ = some (.slice none 0 0) := hkA.cell 6
                        have y0 : w6.cell? ⟨s + 1, 0, none⟩ = some (.bool q0) := hkB.cell 0
                        have y1 : w6.cell? ⟨s + 1, 1, none⟩ = some (.bool q1) := hkB.cell 1
                        have y2 : w6.cell? ⟨s + 1, 2, none⟩ = some (.bool q2) := hkB.cell 2
                        have y3 : w6.cell? ⟨s + 1, 3, none⟩ = some (.bool q3) := hkB.cell 3
                        have y4 : w6.cell? ⟨s + 1, 4, none⟩ = some (.bool PL) := hkB.cell 4
                        have y5 : w6.cell? ⟨s + 1, 5, none⟩ = some (.bool ng) := hkB.cell 5
                        have y6 : w6.cell? ⟨s + 1, 6, none⟩ = some (.slice a2 l2 c2) := hkB.cell 6
                        have rf : ∀ o, w6.frozen? ⟨s, o, none⟩ = false := fun o => hkA.frozen o
                        have HRZ := Lib.hid (RRef.ok (bs := bs) HSZ.out HC0.out HB6.out hkA HN6.out (by rw [HZO.out]; exact (if_neg (by decide)).symm) HQ7.out)
                        have HKZ := Lib.hid (Blk.seven hkA q0 q1 q2 q3 PL ng a2 l2 c2)
                        clear hkA hkB
                        go_wp2_with (first
                          | (with_reducible refine store_seven (s := s) _ _ _ _ _ _ _ _ _ (by with_unfolding_all rfl) (by with_unfolding_all rfl) r0 r1 r2 r3 r4 r5 r6 rf ?_
                             generalize (World.setCell _ _ _) = wz at HRZ HKZ ⊢)
                          | (with_reducible refine bodyPost_ret ?_ ?_ HRZ.out
                             rotate_left
                             · rfl
                             · exact rsread_results rfl rfl HKZ.out))
                    | true =>
                      as_aux_lemma =>
                        have hk := HK6.out
                        have y0 : w6.cell? ⟨s + 1, 0, none⟩ = some (.bool q0) := hk.cell 0
                        have y1 : w6.cell? ⟨s + 1, 1, none⟩ = some (.bool q1) := hk.cell 1
                        have y2 : w6.cell? ⟨s + 1, 2, none⟩ = some (.bool q2) := hk.cell 2
                        have y3 : w6.cell? ⟨s + 1, 3, none⟩ = some (.bool q3) := hk.cell 3
                        have y4 : w6.cell? ⟨s + 1, 4, none⟩ = some (.bool PL) := hk.cell 4
                        have y5 : w6.cell? ⟨s + 1, 5, none⟩ = some (.bool ng) := hk.cell 5
                        have y6 : w6.cell? ⟨s + 1, 6, none⟩ = some (.slice a2 l2 c2) := hk.cell 6
                        have hkf : ∀ o, w6.frozen? ⟨s + 1, o, none⟩ = false := fun o => hk.frozen o
                        clear hk
                        go_wp2_with fail
                        refine (neg_any ng a2 l2 c2 vv _ HN6.out).mono ?_; rintro e w7 ⟨ng7, a7, l7, c7, rfl, hN7, hb7, -⟩
                        have HB7 := Lib.hid (HB6.out.trans (hb7.mono (HSZ.out ▸ HB6.out.size)))
                        have hk7 := HK6.out.below hb7 HK6.out.lt
                        have hk7a := HK6A.out.below hb7 HK6A.out.lt
                        have k1 : Blk (w7.setCell ⟨s + 1, 5, none⟩ (.bool ng7)) (s + 1) 30 #[.bool q0, .bool q1, .bool q2, .bool q3, .bool PL, .bool ng7, .slice a2 l2 c2] := (hk7.set_ 5 (.bool ng7)).to rfl
                        have k2 : Blk ((w7.setCell ⟨s + 1, 5, none⟩ (.bool ng7)).setCell ⟨s + 1, 6, none⟩ (.slice a7 l7 c7)) (s + 1) 30 #[.bool q0, .bool q1, .bool q2, .bool q3, .bool PL, .bool ng7, .slice a7 l7 c7] := (k1.set_ 6 (.slice a7 l7 c7)).to rfl
                        have n1 : NumC (w7.setCell ⟨s + 1, 5, none⟩ (.bool ng7)) ng7 a7 l7 c7 (-vv) := NumC.set hN7 (hk7.cell 5) (fun _ e => by cases e) _
                        have n2 : NumC ((w7.setCell ⟨s + 1, 5, none⟩ (.bool ng7)).setCell ⟨s + 1, 6, none⟩ (.slice a7 l7 c7)) ng7 a7 l7 c7 (-vv) := NumC.set n1 (k1.cell 6) (fun _ e => by cases e) _
                        have HK8 := Lib.hid k2
                        have HN8 := Lib.hid n2
                        have HB8 := Lib.hid ((HB7.out.setCell (p := ⟨s + 1, 5, none⟩) (Nat.le_succ s) (.bool ng7)).setCell (p := ⟨s + 1, 6, none⟩) (Nat.le_succ s) (.slice a7 l7 c7))
                        have HK8A := Lib.hid ((hk7a.far (p := ⟨s + 1, 5, none⟩) (by show s ≠ s + 1; omega) (.bool ng7)).far (p := ⟨s + 1, 6, none⟩) (by show s ≠ s + 1; omega) (.slice a7 l7 c7))
                        have e5 : w7.cell? ⟨s + 1, 5, none⟩ = some (.bool ng) := hk7.cell 5
                        have e6 : w7.cell? ⟨s + 1, 6, none⟩ = some (.slice a2 l2 c2) := hk7.cell 6
                        have hkf7 : ∀ o, w7.frozen? ⟨s + 1, o, none⟩ = false := fun o => hk7.frozen o
                        clear hk7 hk7a k1 k2 n1 n2 hN7 hb7 HK6 HN6 HB6 HK6A y0 y1 y2 y3 y4 y5 y6
                        go_upto_region 36 with fail
                        generalize (World.setCell _ _ _) = w8 at HK8 HN8 HB8 HK8A ⊢
                        clear e5 e6 hkf hkf7
                        as_aux_lemma =>
                          have hkA := HK8A.out
                          have hkB := HK8.out
                          have r0 : w8.cell? ⟨s, 0, none⟩ = some (.bool false) := hkA.cell 0
                          have r1 : w8.cell? ⟨s, 1, none⟩ = some (.bool false) := hkA.cell 1
                          have r2 : w8.cell? ⟨s, 2, none⟩ = some (.bool false) := hkA.cell 2
                          have r3 : w8.cell? ⟨s, 3, none⟩ = some (.bool false) := hkA.cell 3
                          have r4 : w8.cell? ⟨s, 4, none⟩ = some (.bool false) := hkA.cell 4
                          have r5 : w8.cell? ⟨s, 5, none⟩ = some (.bool false) := hkA.cell 5
                          have r6 : w8.cell? ⟨s, 6, none⟩ = some (.slice none 0 0) := hkA.cell 6
                          have y0 : w8.cell? ⟨s + 1, 0, none⟩ = some (.bool q0) := hkB.cell 0
                          have y1 : w8.cell? ⟨s + 1, 1, none⟩ = some (.bool q1) := hkB.cell 1
                          have y2 : w8.cell? ⟨s + 1, 2, none⟩ = some (.bool q2) := hkB.cell 2
                          have y3 : w8.cell? ⟨s + 1, 3, none⟩ = some (.bool q3) := hkB.cell 3
                          have y4 : w8.cell? ⟨s + 1, 4, none⟩ = some (.bool PL) := hkB.cell 4
                          have y5 : w8.cell? ⟨s + 1, 5, none⟩ = some (.bool ng7) := hkB.cell 5
                          have y6 : w8.cell? ⟨s + 1, 6, none⟩ = some (.slice a7 l7 c7) := hkB.cell 6
                          have rf : ∀ o, w8.frozen? ⟨s, o, none⟩ = false := fun o => hkA.frozen o
                          have HRZ := Lib.hid (RRef.ok (bs := bs) HSZ.out HC0.out HB8.out hkA HN8.out (by rw [HZO.out]; exact (if_pos trivial).symm) HQ7.out)
                          have HKZ := Lib.hid (Blk.seven hkA q0 q1 q2 q3 PL ng7 a7 l7 c7)
                          clear hkA hkB
                          go_wp2_with (first
                            | (with_reducible refine store_seven (s := s) _ _ _ _ _ _ _ _ _ (by with_unfolding_all rfl) (by with_unfolding_all rfl) r0 r1 r2 r3 r4 r5 r6 rf ?_
                               generalize (World.setCell _ _ _) = wz at HRZ HKZ ⊢)
                            | (with_reducible refine bodyPost_ret ?_ ?_ HRZ.out
                               rotate_left
                               · rfl
                               · exact rsread_results rfl rfl HKZ.out))
end Go.Proofs.Ytgdddpbdcdheeaa
