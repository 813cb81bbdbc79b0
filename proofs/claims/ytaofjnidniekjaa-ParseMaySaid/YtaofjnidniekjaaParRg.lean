/- The reference's reading (package bushelref36): ord. Conditions: those stated. -/
import Derived.Test.YtaofjnidniekjaaParRf
import Derived.Deep.DeepCutAuto
namespace Go.Proofs.Ytaofjnidniekjaa
open Go.RowKit

/-- two operations may come up -/
theorem wpAnyN_both {P : Program} {ops : Array Oper} {Q : Exit → Act → World → Prop} {md : Region.Mode} {S : World → Prop} {Ls : List Nat} {i j : Nat} {o p : Oper} {fuel : Nat} {listed : Array Bool} {a : Act} {w : World} (hr : Region.ready md ops listed = [i, j]) (ho : ops[i]? = some o) (hp : ops[j]? = some p)
    (h1 : ∀ K' : Act → World → Prop, Shut (∀ a w, S w → (S w → wpAnyN P md ops Q S Ls fuel (listed.setIfInBounds i true) a w) → K' a w) → if Region.wanted o (yielded ops a.tmps) = true then Oper.wp P o a w K' Q else K' (a.put o.dst undef) w)
    (h2 : ∀ K' : Act → World → Prop, Shut (∀ a w, S w → (S w → wpAnyN P md ops Q S Ls fuel (listed.setIfInBounds j true) a w) → K' a w) → if Region.wanted p (yielded ops a.tmps) = true then Oper.wp P p a w K' Q else K' (a.put p.dst undef) w) :
    wpAnyN P md ops Q S Ls (fuel + 1) listed a w :=
  ⟨fun h0 => (by rw [hr] at h0; cases h0), fun q hq => by
    rw [hr] at hq
    have hq' : q = i ∨ q = j := by simpa using hq
    rcases hq' with rfl | rfl
    · exact wpOp_step ho fun K' hK => h1 K' fun a w hS hW => hK a w ⟨.inr hS, hW hS⟩
    · exact wpOp_step hp fun K' hK => h2 K' fun a w hS hW => hK a w ⟨.inr hS, hW hS⟩⟩

theorem ord_qry {w : World} {af ac ao ra : Option Addr} {nf cf nc cc no co rc : Nat} {q : QP} {fl : List Flt} (h : QryAt w ⟨af, nf, cf, ac, nc, cc, ao, no, co⟩ (q.at' fl)) {x : Int × Bool} (hx : I64 x.1) (hr : RowG 2 w ra (no + 1) rc (ordCells (q.ord ++ [x]))) : QryAt w ⟨af, nf, cf, ac, nc, cc, ra, no + 1, rc⟩ (({ q with ord := q.ord ++ [x] } : QP).at' fl) :=
  ⟨h.1, h.2.1, h.2.2.1, hr, by have := h.2.2.2.2.1; show (q.ord ++ [x]).length = no + 1; rw [List.length_append]; exact congrArg (· + 1) this, h.2.2.2.2.2.1, h.2.2.2.2.2.2.1, h.2.2.2.2.2.2.2.1, fun c hc => by
    rcases List.mem_append.1 hc with hc | hc
    · exact h.2.2.2.2.2.2.2.2 c hc
    · rw [List.mem_singleton.1 hc]; exact hx⟩
theorem own_none (w : World) (e : TypeId) (N : Nat) (h : N ≤ w.heap.size) : (w.alloc (.cells #[] e)).ownsRow N e 2 (.slice (some ⟨w.heap.size, 0, none⟩) 0 0) 0 [] :=
  ⟨rfl, .inr ⟨w.heap.size, 0, #[], rfl, h, heap_alloc_new w _, Nat.le_refl _, Nat.zero_le _, rfl, rfl⟩⟩
theorem row_elem (w : World) (e : TypeId) (u0 u1 : Value) : RowG 2 (w.alloc (.cells #[u0, u1] e)) (some ⟨w.heap.size, 0, none⟩) 1 1 [u0, u1] := by
  refine ⟨rfl, Nat.le_refl _, by unfold maxLen; omega, .inr ⟨w.heap.size, 0, rfl, by simp, fun i hi => ?_⟩⟩
  rw [cell_of_row _ w.heap.size (0 + i) #[u0, u1] e (0, 0) (heap_alloc_new w _), Nat.zero_add]
  have : i = 0 ∨ i = 1 := by omega
  rcases this with rfl | rfl <;> rfl
theorem ordCells_one : ∀ (l : List (Int × Bool)), ∀ u ∈ ordCells l, u.oneCell' = true
  | [], _, h => by cases h
  | x :: l, u, h => by
    unfold ordCells at h
    rcases List.mem_cons.1 h with rfl | h
    · rfl
    rcases List.mem_cons.1 h with rfl | h
    · rfl
    · exact ordCells_one l u h
theorem colCells_one : ∀ (l : List (Int × Int)), ∀ u ∈ colCells l, u.oneCell' = true
  | [], _, h => by cases h
  | x :: l, u, h => by
    unfold colCells at h
    rcases List.mem_cons.1 h with rfl | h
    · rfl
    rcases List.mem_cons.1 h with rfl | h
    · rfl
    · exact colCells_one l u h
theorem fltCells_one : ∀ (l : List Flt), ∀ u ∈ fltCells l, u.oneCell' = true
  | [], _, h => by cases h
  | x :: l, u, h => by
    unfold fltCells at h
    rcases List.mem_cons.1 h with rfl | h
    · rfl
    rcases List.mem_cons.1 h with rfl | h
    · rfl
    · exact fltCells_one l u h

set_option maxRecDepth 100000 in
set_option maxHeartbeats 2000000 in
theorem vord_any (X : RX) (m : QryL) (fl : List Flt) (p : PState) (G : Nat → Prop) (w : World) (hX : X.At w) (hpG : StG G X m fl p w) (h0 : p.err = 0) :
    Calls Try.prog 77 #[StV X m p] w (RStO X (ordR X.L p) G w) := by
  have hp := hpG.here
  have HSG := Lib.hid hpG
  clear hpG
  have hmany := hX.good.many
  have HNA := Lib.hid (num_at hX.good hp.at')
  have HNU := Lib.hid (fun (w' : World) (hb : Below w.heap.size w w') => vnumber_any X m p w' (hX.below hb (Nat.le_refl _)) hp.at')
  have HIS := Lib.hid (fun (w' : World) (hb : Below w.heap.size w w') (u : ByteArray) (t : List UInt8) (b : Bool) (ht : u.data.toList = t) (hb' : isR X.L (numTR X.L p).1 t = b) => vis_any X m (numTR X.L p).1 w' (hX.below hb (Nat.le_refl _)) HNA.out.1 u b (by rw [ht]; exact hb'))
  have HON := Lib.hid (fun (w' : World) => von_any X m (numTR X.L p).1 w' (by have := HNA.out.1; omega))
  have HOR : Hid (ordR X.L p = { (if isR X.L (numTR X.L p).1 [100, 101, 115, 99] || isR X.L (numTR X.L p).1 [97, 115, 99] then onR (numTR X.L p).1 else (numTR X.L p).1) with q := { (if isR X.L (numTR X.L p).1 [100, 101, 115, 99] || isR X.L (numTR X.L p).1 [97, 115, 99] then onR (numTR X.L p).1 else (numTR X.L p).1).q with ord := (if isR X.L (numTR X.L p).1 [100, 101, 115, 99] || isR X.L (numTR X.L p).1 [97, 115, 99] then onR (numTR X.L p).1 else (numTR X.L p).1).q.ord ++ [((numTR X.L p).2 - 1, isR X.L (numTR X.L p).1 [100, 101, 115, 99])] } }) := Lib.hid rfl
  have HWA := Lib.hid (fun (t : List UInt8) (hw : isR X.L (numTR X.L p).1 t = true) => word_at hX.good hw)
  have HST := Lib.hid hp
  have H0 := Lib.hid h0
  obtain ⟨r, hr⟩ : ∃ x, ordR X.L p = x := ⟨_, rfl⟩
  rw [hr] at HOR ⊢
  obtain ⟨⟨p1, n⟩, hp1⟩ : ∃ x, numTR X.L p = x := ⟨_, rfl⟩
  rw [hp1] at HNA HNU HIS HON HOR HWA
  clear hp1 hr hX hp h0
  unfold RSt RStN at *
  have hq1 : p1.q = p.q := HNA.out.2.1
  obtain ⟨n0, n1⟩ : 0 ≤ n ∧ n ≤ 1000000000000000000 := HNA.out.2.2.2
  obtain ⟨d, hd⟩ : ∃ x, isR X.L p1 [100, 101, 115, 99] = x := ⟨_, rfl⟩
  obtain ⟨a, ha⟩ : ∃ x, isR X.L p1 [97, 115, 99] = x := ⟨_, rfl⟩
  have HI1 := Lib.hid (fun (w' : World) hb => HIS.out w' hb ⟨#[100, 101, 115, 99]⟩ _ d rfl hd)
  have HI2 := Lib.hid (fun (w' : World) hb => HIS.out w' hb ⟨#[97, 115, 99]⟩ _ a rfl ha)
  have HW1 : Hid (d = true ∨ a = true → p1.err = 0 ∧ p1.at' + 1 < X.L.length) := Lib.hid (by
    rintro (h | h)
    · exact HWA.out _ (hd.trans h)
    · exact HWA.out _ (ha.trans h))
  dsimp only at HOR
  rw [hd, ha] at HOR
  clear hd ha HIS HWA
  obtain ⟨i1, q1, e1⟩ := p1
  dsimp only at hq1
  subst hq1
  unfold onR at HOR HON
  unfold StV at *
  obtain ⟨⟨ad, nd, cd, ai, ni, ci, an, nn, cn, av, nv, cv⟩, s, ta, tc, L⟩ := X
  obtain ⟨af, nf, cf, ac, nc, cc, ao, no, co⟩ := m
  obtain ⟨i, ⟨g, fq, cq, oq, lm⟩, er⟩ := p
  (try dsimp only at *)
  obtain ⟨W0, hW0⟩ : ∃ W0, ((w.alloc (.cells #[.slice ad nd cd, .slice ai ni ci, .slice an nn cn, .slice av nv cv, .slice ta L.length tc, .int .i64 (i : Int), .int .u32 g, .slice af nf cf, .slice ac nc cc, .slice ao no co, .int .i64 lm, .int .i64 (er : Int)] 82)).alloc (.cells #[.slice none 0 0, .slice none 0 0, .slice none 0 0, .slice none 0 0, .slice none 0 0, .int .i64 0, .int .u32 0, .slice none 0 0, .slice none 0 0, .slice none 0 0, .int .i64 0, .int .i64 0] 82)) = W0 := ⟨_, rfl⟩
  have HB0 : Hid (Below w.heap.size w W0) := Lib.hid (by
    rw [← hW0]
    exact (((Below.refl _ _).alloc (Nat.le_refl _) _).alloc (by simp) _))
  have HZ0 : Hid (W0.heap.size = w.heap.size + 2) := Lib.hid (by rw [← hW0]; simp)
  have HK0 : Hid (Blk W0 (w.heap.size) 82 #[.slice ad nd cd, .slice ai ni ci, .slice an nn cn, .slice av nv cv, .slice ta L.length tc, .int .i64 (i : Int), .int .u32 g, .slice af nf cf, .slice ac nc cc, .slice ao no co, .int .i64 lm, .int .i64 (er : Int)]) := Lib.hid (by
    rw [← hW0]
    have h := Blk.new w 82 #[.slice ad nd cd, .slice ai ni ci, .slice an nn cn, .slice av nv cv, .slice ta L.length tc, .int .i64 (i : Int), .int .u32 g, .slice af nf cf, .slice ac nc cc, .slice ao no co, .int .i64 lm, .int .i64 (er : Int)]
    exact h.alloc _)
  have HK1 : Hid (Blk W0 (w.heap.size + 1) 82 #[.slice none 0 0, .slice none 0 0, .slice none 0 0, .slice none 0 0, .slice none 0 0, .int .i64 0, .int .u32 0, .slice none 0 0, .slice none 0 0, .slice none 0 0, .int .i64 0, .int .i64 0]) := Lib.hid (by
    rw [← hW0]
    have h := Blk.new (w.alloc (.cells #[.slice ad nd cd, .slice ai ni ci, .slice an nn cn, .slice av nv cv, .slice ta L.length tc, .int .i64 (i : Int), .int .u32 g, .slice af nf cf, .slice ac nc cc, .slice ao no co, .int .i64 lm, .int .i64 (er : Int)] 82)) 82 #[.slice none 0 0, .slice none 0 0, .slice none 0 0, .slice none 0 0, .slice none 0 0, .int .i64 0, .int .u32 0, .slice none 0 0, .slice none 0 0, .slice none 0 0, .int .i64 0, .int .i64 0]
    rw [World.size_alloc] at h
    exact h)
  have HNO : Hid (oq.length = no) := Lib.hid HST.out.q.2.2.2.2.1
  have hno : no ≤ 1001 := by have h1 := (HST.out.len H0.out).2.1; have h2 := HST.out.at'; have h3 := HNO.out; dsimp only at *; omega
  have n2 : -9223372036854775808 ≤ n - 1 := by omega
  have n3 : n - 1 ≤ 9223372036854775807 := by omega
  (try unfold StV)
  (try dsimp only)
  go_enter Try.func77, Try.ntmps77
  go_upto_region 1 with fail
  clear hW0
  generalize hS : w.heap.size = S at *
  have HSW := Lib.hid hS
  clear hS
  have c0 : W0.cell? ⟨S, 0, none⟩ = some (.slice ad nd cd) := HK0.out.cell 0
  have c1 : W0.cell? ⟨S, 1, none⟩ = some (.slice ai ni ci) := HK0.out.cell 1
  have c2 : W0.cell? ⟨S, 2, none⟩ = some (.slice an nn cn) := HK0.out.cell 2
  have c3 : W0.cell? ⟨S, 3, none⟩ = some (.slice av nv cv) := HK0.out.cell 3
  have c4 : W0.cell? ⟨S, 4, none⟩ = some (.slice ta L.length tc) := HK0.out.cell 4
  have c5 : W0.cell? ⟨S, 5, none⟩ = some (.int .i64 (i : Int)) := HK0.out.cell 5
  have c6 : W0.cell? ⟨S, 6, none⟩ = some (.int .u32 g) := HK0.out.cell 6
  have c7 : W0.cell? ⟨S, 7, none⟩ = some (.slice af nf cf) := HK0.out.cell 7
  have c8 : W0.cell? ⟨S, 8, none⟩ = some (.slice ac nc cc) := HK0.out.cell 8
  have c9 : W0.cell? ⟨S, 9, none⟩ = some (.slice ao no co) := HK0.out.cell 9
  have c10 : W0.cell? ⟨S, 10, none⟩ = some (.int .i64 lm) := HK0.out.cell 10
  have c11 : W0.cell? ⟨S, 11, none⟩ = some (.int .i64 (er : Int)) := HK0.out.cell 11
  have fzc : ∀ o, W0.frozen? ⟨S, o, none⟩ = false := fun o => HK0.out.frozen o
  go_wp2_with fail
  refine (HNU.out _ HB0.out).mono ?_; rintro e w1 ⟨rfl, hb1⟩
  have HB1 := Lib.hid (HB0.out.trans (hb1.mono (by have := HZ0.out; omega)))
  have HKA := Lib.hid (HK0.out.below hb1 HK0.out.lt)
  have HKB := Lib.hid (HK1.out.below hb1 HK1.out.lt)
  clear hb1
  clear c0 c1 c2 c3 c4 c5 c6 c7 c8 c9 c10 c11 fzc
  have c0 : w1.cell? ⟨S, 0, none⟩ = some (.slice ad nd cd) := HKA.out.cell 0
  have c1 : w1.cell? ⟨S, 1, none⟩ = some (.slice ai ni ci) := HKA.out.cell 1
  have c2 : w1.cell? ⟨S, 2, none⟩ = some (.slice an nn cn) := HKA.out.cell 2
  have c3 : w1.cell? ⟨S, 3, none⟩ = some (.slice av nv cv) := HKA.out.cell 3
  have c4 : w1.cell? ⟨S, 4, none⟩ = some (.slice ta L.length tc) := HKA.out.cell 4
  have c5 : w1.cell? ⟨S, 5, none⟩ = some (.int .i64 (i : Int)) := HKA.out.cell 5
  have c6 : w1.cell? ⟨S, 6, none⟩ = some (.int .u32 g) := HKA.out.cell 6
  have c7 : w1.cell? ⟨S, 7, none⟩ = some (.slice af nf cf) := HKA.out.cell 7
  have c8 : w1.cell? ⟨S, 8, none⟩ = some (.slice ac nc cc) := HKA.out.cell 8
  have c9 : w1.cell? ⟨S, 9, none⟩ = some (.slice ao no co) := HKA.out.cell 9
  have c10 : w1.cell? ⟨S, 10, none⟩ = some (.int .i64 lm) := HKA.out.cell 10
  have c11 : w1.cell? ⟨S, 11, none⟩ = some (.int .i64 (er : Int)) := HKA.out.cell 11
  have fzc : ∀ o, w1.frozen? ⟨S, o, none⟩ = false := fun o => HKA.out.frozen o
  go_upto_region 2 with fail
  clear c0 c1 c2 c3 c4 c5 c6 c7 c8 c9 c10 c11 fzc
  have HKA2 := Lib.hid (blk_st12 HKA.out (.slice ad nd cd) (.slice ai ni ci) (.slice an nn cn) (.slice av nv cv) (.slice ta L.length tc) (.int .i64 (i1 : Int)) (.int .u32 g) (.slice af nf cf) (.slice ac nc cc) (.slice ao no co) (.int .i64 lm) (.int .i64 (e1 : Int)))
  have HKB2 := Lib.hid (blk_far12 HKB.out (b := S) (by omega) (.slice ad nd cd) (.slice ai ni ci) (.slice an nn cn) (.slice av nv cv) (.slice ta L.length tc) (.int .i64 (i1 : Int)) (.int .u32 g) (.slice af nf cf) (.slice ac nc cc) (.slice ao no co) (.int .i64 lm) (.int .i64 (e1 : Int)))
  have HB2 := Lib.hid (below_st12 HB1.out (b := S) (by have := HSW.out; omega) (.slice ad nd cd) (.slice ai ni ci) (.slice an nn cn) (.slice av nv cv) (.slice ta L.length tc) (.int .i64 (i1 : Int)) (.int .u32 g) (.slice af nf cf) (.slice ac nc cc) (.slice ao no co) (.int .i64 lm) (.int .i64 (e1 : Int)))
  generalize ((((((((((((w1.setCell ⟨S, 0, none⟩ (.slice ad nd cd)).setCell ⟨S, 1, none⟩ (.slice ai ni ci)).setCell ⟨S, 2, none⟩ (.slice an nn cn)).setCell ⟨S, 3, none⟩ (.slice av nv cv)).setCell ⟨S, 4, none⟩ (.slice ta L.length tc)).setCell ⟨S, 5, none⟩ (.int .i64 (i1 : Int))).setCell ⟨S, 6, none⟩ (.int .u32 g)).setCell ⟨S, 7, none⟩ (.slice af nf cf)).setCell ⟨S, 8, none⟩ (.slice ac nc cc)).setCell ⟨S, 9, none⟩ (.slice ao no co)).setCell ⟨S, 10, none⟩ (.int .i64 lm)).setCell ⟨S, 11, none⟩ (.int .i64 (e1 : Int))) = w2 at *
  have c0 : w2.cell? ⟨S, 0, none⟩ = some (.slice ad nd cd) := HKA2.out.cell 0
  have c1 : w2.cell? ⟨S, 1, none⟩ = some (.slice ai ni ci) := HKA2.out.cell 1
  have c2 : w2.cell? ⟨S, 2, none⟩ = some (.slice an nn cn) := HKA2.out.cell 2
  have c3 : w2.cell? ⟨S, 3, none⟩ = some (.slice av nv cv) := HKA2.out.cell 3
  have c4 : w2.cell? ⟨S, 4, none⟩ = some (.slice ta L.length tc) := HKA2.out.cell 4
  have c5 : w2.cell? ⟨S, 5, none⟩ = some (.int .i64 (i1 : Int)) := HKA2.out.cell 5
  have c6 : w2.cell? ⟨S, 6, none⟩ = some (.int .u32 g) := HKA2.out.cell 6
  have c7 : w2.cell? ⟨S, 7, none⟩ = some (.slice af nf cf) := HKA2.out.cell 7
  have c8 : w2.cell? ⟨S, 8, none⟩ = some (.slice ac nc cc) := HKA2.out.cell 8
  have c9 : w2.cell? ⟨S, 9, none⟩ = some (.slice ao no co) := HKA2.out.cell 9
  have c10 : w2.cell? ⟨S, 10, none⟩ = some (.int .i64 lm) := HKA2.out.cell 10
  have c11 : w2.cell? ⟨S, 11, none⟩ = some (.int .i64 (e1 : Int)) := HKA2.out.cell 11
  go_wp2_with fail
  refine (HI1.out _ HB2.out).mono ?_; rintro e w3 ⟨rfl, hb3⟩
  have HB3 := Lib.hid ((HB2.out.trans (hb3.mono (by have := HB2.out.size; have := HKA2.out.lt; have := HSW.out; omega))).alloc (by have := hb3.size; have := HKA2.out.lt; have := HSW.out; omega) (.cells #[.int .i64 (n - 1), .bool d] 71))
  have HKA3 := Lib.hid ((HKA2.out.below hb3 HKA2.out.lt).alloc (.cells #[.int .i64 (n - 1), .bool d] 71))
  have HKB3 := Lib.hid ((HKB2.out.below hb3 HKB2.out.lt).alloc (.cells #[.int .i64 (n - 1), .bool d] 71))
  have HTL := Lib.hid (HKB2.out.below hb3 HKB2.out.lt).lt
  have HKT3 := Lib.hid (Blk.new w3 71 #[.int .i64 (n - 1), .bool d])
  clear hb3
  clear c0 c1 c2 c3 c4 c5 c6 c7 c8 c9 c10 c11
  go_upto_region 3 with fail
  generalize w3.alloc (.cells #[.int .i64 (n - 1), .bool d] 71) = w4 at *
  have HTS : Hid (S + 1 < w3.heap.size) := Lib.hid HTL.out
  generalize w3.heap.size = T at *
  go_cut [20] (fun v wx => v = .bool (d || a) ∧ Blk wx S 82 #[.slice ad nd cd, .slice ai ni ci, .slice an nn cn, .slice av nv cv, .slice ta L.length tc, .int .i64 (i1 : Int), .int .u32 g, .slice af nf cf, .slice ac nc cc, .slice ao no co, .int .i64 lm, .int .i64 (e1 : Int)] ∧ Blk wx (S + 1) 82 #[.slice none 0 0, .slice none 0 0, .slice none 0 0, .slice none 0 0, .slice none 0 0, .int .i64 0, .int .u32 0, .slice none 0 0, .slice none 0 0, .slice none 0 0, .int .i64 0, .int .i64 0] ∧ Blk wx T 71 #[.int .i64 (n - 1), .bool d] ∧ Below S w wx)
  case first =>
    have c0 : w4.cell? ⟨S, 0, none⟩ = some (.slice ad nd cd) := HKA3.out.cell 0
    have c1 : w4.cell? ⟨S, 1, none⟩ = some (.slice ai ni ci) := HKA3.out.cell 1
    have c2 : w4.cell? ⟨S, 2, none⟩ = some (.slice an nn cn) := HKA3.out.cell 2
    have c3 : w4.cell? ⟨S, 3, none⟩ = some (.slice av nv cv) := HKA3.out.cell 3
    have c4 : w4.cell? ⟨S, 4, none⟩ = some (.slice ta L.length tc) := HKA3.out.cell 4
    have c5 : w4.cell? ⟨S, 5, none⟩ = some (.int .i64 (i1 : Int)) := HKA3.out.cell 5
    have c6 : w4.cell? ⟨S, 6, none⟩ = some (.int .u32 g) := HKA3.out.cell 6
    have c7 : w4.cell? ⟨S, 7, none⟩ = some (.slice af nf cf) := HKA3.out.cell 7
    have c8 : w4.cell? ⟨S, 8, none⟩ = some (.slice ac nc cc) := HKA3.out.cell 8
    have c9 : w4.cell? ⟨S, 9, none⟩ = some (.slice ao no co) := HKA3.out.cell 9
    have c10 : w4.cell? ⟨S, 10, none⟩ = some (.int .i64 lm) := HKA3.out.cell 10
    have c11 : w4.cell? ⟨S, 11, none⟩ = some (.int .i64 (e1 : Int)) := HKA3.out.cell 11
    go_wp2_with fail
    refine (HI1.out _ HB3.out).mono ?_; rintro e w5 ⟨rfl, hb5⟩
    have HKA5 := Lib.hid (HKA3.out.below hb5 HKA3.out.lt)
    have HKB5 := Lib.hid (HKB3.out.below hb5 HKB3.out.lt)
    have HKT5 := Lib.hid (HKT3.out.below hb5 HKT3.out.lt)
    have HB5 := Lib.hid (HB3.out.trans (hb5.mono (by have := HKA3.out.lt; omega)))
    clear hb5
    clear c0 c1 c2 c3 c4 c5 c6 c7 c8 c9 c10 c11
    rcases d with _ | _
    · have c0 : w5.cell? ⟨S, 0, none⟩ = some (.slice ad nd cd) := HKA5.out.cell 0
      have c1 : w5.cell? ⟨S, 1, none⟩ = some (.slice ai ni ci) := HKA5.out.cell 1
      have c2 : w5.cell? ⟨S, 2, none⟩ = some (.slice an nn cn) := HKA5.out.cell 2
      have c3 : w5.cell? ⟨S, 3, none⟩ = some (.slice av nv cv) := HKA5.out.cell 3
      have c4 : w5.cell? ⟨S, 4, none⟩ = some (.slice ta L.length tc) := HKA5.out.cell 4
      have c5 : w5.cell? ⟨S, 5, none⟩ = some (.int .i64 (i1 : Int)) := HKA5.out.cell 5
      have c6 : w5.cell? ⟨S, 6, none⟩ = some (.int .u32 g) := HKA5.out.cell 6
      have c7 : w5.cell? ⟨S, 7, none⟩ = some (.slice af nf cf) := HKA5.out.cell 7
      have c8 : w5.cell? ⟨S, 8, none⟩ = some (.slice ac nc cc) := HKA5.out.cell 8
      have c9 : w5.cell? ⟨S, 9, none⟩ = some (.slice ao no co) := HKA5.out.cell 9
      have c10 : w5.cell? ⟨S, 10, none⟩ = some (.int .i64 lm) := HKA5.out.cell 10
      have c11 : w5.cell? ⟨S, 11, none⟩ = some (.int .i64 (e1 : Int)) := HKA5.out.cell 11
      go_wp2_with fail
      refine (HI2.out _ HB5.out).mono ?_; rintro e w6 ⟨rfl, hb6⟩
      have HKA6 := Lib.hid (HKA5.out.below hb6 HKA5.out.lt)
      have HKB6 := Lib.hid (HKB5.out.below hb6 HKB5.out.lt)
      have HKT6 := Lib.hid (HKT5.out.below hb6 HKT5.out.lt)
      have HB6 := Lib.hid (HB5.out.trans (hb6.mono (by have := HKA5.out.lt; omega)))
      clear hb6
      clear c0 c1 c2 c3 c4 c5 c6 c7 c8 c9 c10 c11
      go_wp2_with fail
      go_meet
      exact ⟨by cases a <;> rfl, HKA6.out, HKB6.out, HKT6.out, HB6.out⟩
    · go_wp2_with fail
      go_meet
      exact ⟨rfl, HKA5.out, HKB5.out, HKT5.out, HB5.out⟩
  case rest =>
    obtain ⟨rfl, hka, hkb, hkt, hb⟩ := hcut
    have HKA4 := Lib.hid hka
    have HKB4 := Lib.hid hkb
    have HKT4 := Lib.hid hkt
    have HB4 := Lib.hid hb
    clear hka hkb hkt hb HKA3 HKB3 HKT3 HB3
    obtain ⟨v, hv⟩ : ∃ v, (d || a) = v := ⟨_, rfl⟩
    rw [hv] at HOR ⊢
    have HV := Lib.hid hv
    clear hv
    go_upto_if 20 with fail
    go_cut [] (fun wx => ∃ i2 : Nat, i2 = (if v then i1 + 1 else i1) ∧ Blk wx S 82 #[.slice ad nd cd, .slice ai ni ci, .slice an nn cn, .slice av nv cv, .slice ta L.length tc, .int .i64 (i2 : Int), .int .u32 g, .slice af nf cf, .slice ac nc cc, .slice ao no co, .int .i64 lm, .int .i64 (e1 : Int)] ∧ Blk wx (S + 1) 82 #[.slice none 0 0, .slice none 0 0, .slice none 0 0, .slice none 0 0, .slice none 0 0, .int .i64 0, .int .u32 0, .slice none 0 0, .slice none 0 0, .slice none 0 0, .int .i64 0, .int .i64 0] ∧ Blk wx T 71 #[.int .i64 (n - 1), .bool d] ∧ Below S w wx)
    case first =>
      rcases v with _ | _
      · go_wp2_with fail
        go_meet
        exact ⟨_, rfl, HKA4.out, HKB4.out, HKT4.out, HB4.out⟩
      · have c0 : wc.cell? ⟨S, 0, none⟩ = some (.slice ad nd cd) := HKA4.out.cell 0
        have c1 : wc.cell? ⟨S, 1, none⟩ = some (.slice ai ni ci) := HKA4.out.cell 1
        have c2 : wc.cell? ⟨S, 2, none⟩ = some (.slice an nn cn) := HKA4.out.cell 2
        have c3 : wc.cell? ⟨S, 3, none⟩ = some (.slice av nv cv) := HKA4.out.cell 3
        have c4 : wc.cell? ⟨S, 4, none⟩ = some (.slice ta L.length tc) := HKA4.out.cell 4
        have c5 : wc.cell? ⟨S, 5, none⟩ = some (.int .i64 (i1 : Int)) := HKA4.out.cell 5
        have c6 : wc.cell? ⟨S, 6, none⟩ = some (.int .u32 g) := HKA4.out.cell 6
        have c7 : wc.cell? ⟨S, 7, none⟩ = some (.slice af nf cf) := HKA4.out.cell 7
        have c8 : wc.cell? ⟨S, 8, none⟩ = some (.slice ac nc cc) := HKA4.out.cell 8
        have c9 : wc.cell? ⟨S, 9, none⟩ = some (.slice ao no co) := HKA4.out.cell 9
        have c10 : wc.cell? ⟨S, 10, none⟩ = some (.int .i64 lm) := HKA4.out.cell 10
        have c11 : wc.cell? ⟨S, 11, none⟩ = some (.int .i64 (e1 : Int)) := HKA4.out.cell 11
        go_wp2_with fail
        refine (HON.out _).mono ?_; rintro e w5 ⟨rfl, hb5⟩
        have HKA5 := Lib.hid (HKA4.out.below hb5 HKA4.out.lt)
        have HKB5 := Lib.hid (HKB4.out.below hb5 HKB4.out.lt)
        have HKT5 := Lib.hid (HKT4.out.below hb5 HKT4.out.lt)
        have HB5 := Lib.hid (HB4.out.trans (hb5.mono (by have := HKA4.out.lt; omega)))
        clear hb5
        clear c0 c1 c2 c3 c4 c5 c6 c7 c8 c9 c10 c11
        dsimp only
        have c0 : w5.cell? ⟨S, 0, none⟩ = some (.slice ad nd cd) := HKA5.out.cell 0
        have c1 : w5.cell? ⟨S, 1, none⟩ = some (.slice ai ni ci) := HKA5.out.cell 1
        have c2 : w5.cell? ⟨S, 2, none⟩ = some (.slice an nn cn) := HKA5.out.cell 2
        have c3 : w5.cell? ⟨S, 3, none⟩ = some (.slice av nv cv) := HKA5.out.cell 3
        have c4 : w5.cell? ⟨S, 4, none⟩ = some (.slice ta L.length tc) := HKA5.out.cell 4
        have c5 : w5.cell? ⟨S, 5, none⟩ = some (.int .i64 (i1 : Int)) := HKA5.out.cell 5
        have c6 : w5.cell? ⟨S, 6, none⟩ = some (.int .u32 g) := HKA5.out.cell 6
        have c7 : w5.cell? ⟨S, 7, none⟩ = some (.slice af nf cf) := HKA5.out.cell 7
        have c8 : w5.cell? ⟨S, 8, none⟩ = some (.slice ac nc cc) := HKA5.out.cell 8
        have c9 : w5.cell? ⟨S, 9, none⟩ = some (.slice ao no co) := HKA5.out.cell 9
        have c10 : w5.cell? ⟨S, 10, none⟩ = some (.int .i64 lm) := HKA5.out.cell 10
        have c11 : w5.cell? ⟨S, 11, none⟩ = some (.int .i64 (e1 : Int)) := HKA5.out.cell 11
        have fzc : ∀ o, w5.frozen? ⟨S, o, none⟩ = false := fun o => HKA5.out.frozen o
        go_wp2_with fail
        clear c0 c1 c2 c3 c4 c5 c6 c7 c8 c9 c10 c11 fzc
        have HKA6 := Lib.hid (blk_st12 HKA5.out (.slice ad nd cd) (.slice ai ni ci) (.slice an nn cn) (.slice av nv cv) (.slice ta L.length tc) (.int .i64 ((i1 : Int) + 1)) (.int .u32 g) (.slice af nf cf) (.slice ac nc cc) (.slice ao no co) (.int .i64 lm) (.int .i64 (e1 : Int)))
        have HKB6 := Lib.hid (blk_far12 HKB5.out (b := S) (by have := HTS.out; omega) (.slice ad nd cd) (.slice ai ni ci) (.slice an nn cn) (.slice av nv cv) (.slice ta L.length tc) (.int .i64 ((i1 : Int) + 1)) (.int .u32 g) (.slice af nf cf) (.slice ac nc cc) (.slice ao no co) (.int .i64 lm) (.int .i64 (e1 : Int)))
        have HKT6 := Lib.hid (blk_far12 HKT5.out (b := S) (by have := HTS.out; omega) (.slice ad nd cd) (.slice ai ni ci) (.slice an nn cn) (.slice av nv cv) (.slice ta L.length tc) (.int .i64 ((i1 : Int) + 1)) (.int .u32 g) (.slice af nf cf) (.slice ac nc cc) (.slice ao no co) (.int .i64 lm) (.int .i64 (e1 : Int)))
        have HB6 := Lib.hid (below_st12 HB5.out (b := S) (by have := HSW.out; omega) (.slice ad nd cd) (.slice ai ni ci) (.slice an nn cn) (.slice av nv cv) (.slice ta L.length tc) (.int .i64 ((i1 : Int) + 1)) (.int .u32 g) (.slice af nf cf) (.slice ac nc cc) (.slice ao no co) (.int .i64 lm) (.int .i64 (e1 : Int)))
        generalize ((((((((((((w5.setCell ⟨S, 0, none⟩ (.slice ad nd cd)).setCell ⟨S, 1, none⟩ (.slice ai ni ci)).setCell ⟨S, 2, none⟩ (.slice an nn cn)).setCell ⟨S, 3, none⟩ (.slice av nv cv)).setCell ⟨S, 4, none⟩ (.slice ta L.length tc)).setCell ⟨S, 5, none⟩ (.int .i64 ((i1 : Int) + 1))).setCell ⟨S, 6, none⟩ (.int .u32 g)).setCell ⟨S, 7, none⟩ (.slice af nf cf)).setCell ⟨S, 8, none⟩ (.slice ac nc cc)).setCell ⟨S, 9, none⟩ (.slice ao no co)).setCell ⟨S, 10, none⟩ (.int .i64 lm)).setCell ⟨S, 11, none⟩ (.int .i64 (e1 : Int))) = w6 at *
        go_meet
        exact ⟨i1 + 1, rfl, HKA6.out, HKB6.out, HKT6.out, HB6.out⟩
    case rest =>
      obtain ⟨i2, hi2, hka, hkb, hkt, hb⟩ := hcut
      obtain ⟨w5, rfl⟩ : ∃ x, x = wc := ⟨_, rfl⟩
      have HI2' := Lib.hid hi2
      have HKS := Lib.hid hka
      have HKB5 := Lib.hid hkb
      have HKT := Lib.hid hkt
      have HB5 := Lib.hid hb
      have HOLD : Hid (∀ w', Below w5.heap.size w5 w' → RowG 2 w' ao no co (ordCells oq)) := Lib.hid (fun w' hbb => HST.out.q.2.2.2.1.below (HB5.out.trans (hbb.mono (by have := HKS.out.lt; omega))) (Nat.le_of_eq HSW.out))
      have HONE := Lib.hid (ordCells_one oq)
      clear hi2 hka hkb hkt hb HKA4 HKB4 HKT4 HB4
      go_upto_region 5 with fail
      go_cut [] (fun wx => ∃ ra rc, Blk wx S 82 #[.slice ad nd cd, .slice ai ni ci, .slice an nn cn, .slice av nv cv, .slice ta L.length tc, .int .i64 (i2 : Int), .int .u32 g, .slice af nf cf, .slice ac nc cc, .slice ra (no + 1) rc, .int .i64 lm, .int .i64 (e1 : Int)] ∧ Blk wx (S + 1) 82 #[.slice none 0 0, .slice none 0 0, .slice none 0 0, .slice none 0 0, .slice none 0 0, .int .i64 0, .int .u32 0, .slice none 0 0, .slice none 0 0, .slice none 0 0, .int .i64 0, .int .i64 0] ∧ wx.ownsRow (S + 2) 71 2 (.slice ra (no + 1) rc) (no + 1) (ordCells oq ++ [.int .i64 (n - 1), .bool d]) ∧ Below S w wx)
      case first =>
        have HS0 := Lib.hid (HKS.out).drew
        have HE0 := Lib.hid (HKT.out).drew
        have HOR0 : Hid (∀ w', Below w5.drew.heap.size w5.drew w' → RowG 2 w' ao no co (ordCells oq)) := Lib.hid (fun w' hb => HOLD.out w' (((Below.refl _ _).drew).trans hb))
        have hBS : S < w5.drew.heap.size := HS0.out.lt
        have hBE : T < w5.drew.heap.size := HE0.out.lt
        refine wp_regionN (fun w' => Blk w' S 82 #[.slice ad nd cd, .slice ai ni ci, .slice an nn cn, .slice av nv cv, .slice ta L.length tc, .int .i64 (i2 : Int), .int .u32 g, .slice af nf cf, .slice ac nc cc, .slice ao no co, .int .i64 lm, .int .i64 (e1 : Int)] ∧ Blk w' T 71 #[.int .i64 (n - 1), .bool d]) [10] (by kernel_rfl) (by exact ⟨HS0.out, HE0.out⟩) (fun hHeld => ?_)
        refine wpAnyN_take (i := 1) (oi := ⟨some 24, _, _, _, _, _⟩) (v := ?_) rfl (by kernel_rfl) (by kernel_rfl) (by kernel_rfl) (by kernel_rfl) (by kernel_rfl) (fun _ _ _ h => h) (Or.inl ⟨by rfl, ?_⟩) (by assumption) ?_
        rotate_left 1
        · (intro w hSw; obtain ⟨u0, u1, u2, u3, u4, u5, u6, u7, u8, u9, u10, u11⟩ := blk12 hSw.1; have v0 : w.cell? ⟨T, 0, none⟩ = some (.int .i64 (n - 1)) := hSw.2.cell 0; have v1 : w.cell? ⟨T, 1, none⟩ = some (.bool d) := hSw.2.cell 1; go_simp; try with_reducible rfl)
        try simp only [Act.put, List.setIfInBounds_toArray, List.set_cons_zero, List.set_cons_succ]
        refine wpAnyN_take (i := 2) (oi := ⟨some 25, _, _, _, _, _⟩) (v := ?_) rfl (by kernel_rfl) (by kernel_rfl) (by kernel_rfl) (by kernel_rfl) (by kernel_rfl) (fun _ _ _ h => h) (Or.inl ⟨by rfl, ?_⟩) (by assumption) ?_
        rotate_left 1
        · (intro w hSw; obtain ⟨u0, u1, u2, u3, u4, u5, u6, u7, u8, u9, u10, u11⟩ := blk12 hSw.1; have v0 : w.cell? ⟨T, 0, none⟩ = some (.int .i64 (n - 1)) := hSw.2.cell 0; have v1 : w.cell? ⟨T, 1, none⟩ = some (.bool d) := hSw.2.cell 1; go_simp; try with_reducible rfl)
        try simp only [Act.put, List.setIfInBounds_toArray, List.set_cons_zero, List.set_cons_succ]
        refine wpAnyN_take (i := 3) (oi := ⟨some 26, _, _, _, _, _⟩) (v := ?_) rfl (by kernel_rfl) (by kernel_rfl) (by kernel_rfl) (by kernel_rfl) (by kernel_rfl) (fun _ _ _ h => h) (Or.inl ⟨by rfl, ?_⟩) (by assumption) ?_
        rotate_left 1
        · (intro w hSw; obtain ⟨u0, u1, u2, u3, u4, u5, u6, u7, u8, u9, u10, u11⟩ := blk12 hSw.1; have v0 : w.cell? ⟨T, 0, none⟩ = some (.int .i64 (n - 1)) := hSw.2.cell 0; have v1 : w.cell? ⟨T, 1, none⟩ = some (.bool d) := hSw.2.cell 1; go_simp; try with_reducible rfl)
        try simp only [Act.put, List.setIfInBounds_toArray, List.set_cons_zero, List.set_cons_succ]
        refine wpAnyN_take (i := 5) (oi := ⟨some 28, _, _, _, _, _⟩) (v := ?_) rfl (by kernel_rfl) (by kernel_rfl) (by kernel_rfl) (by kernel_rfl) (by kernel_rfl) (fun _ _ _ h => h) (Or.inl ⟨by rfl, ?_⟩) (by assumption) ?_
        rotate_left 1
        · (intro w hSw; obtain ⟨u0, u1, u2, u3, u4, u5, u6, u7, u8, u9, u10, u11⟩ := blk12 hSw.1; have v0 : w.cell? ⟨T, 0, none⟩ = some (.int .i64 (n - 1)) := hSw.2.cell 0; have v1 : w.cell? ⟨T, 1, none⟩ = some (.bool d) := hSw.2.cell 1; go_simp; try with_reducible rfl)
        try simp only [Act.put, List.setIfInBounds_toArray, List.set_cons_zero, List.set_cons_succ]
        have HB0R := Lib.hid (Below.refl w5.drew.heap.size w5.drew)
        refine wpAnyN_both (i := 0) (j := 6) (o := ⟨some 23, _, _, _, _, _⟩) (p := ⟨some 29, _, _, _, _, _⟩) (by kernel_rfl) rfl rfl (fun K hK => ?_) (fun K hK => ?_)
        · go_simp
          have HO0 : Hid ((w5.drew.alloc (.cells #[] 71)).ownsRow w5.drew.heap.size 71 2 (.slice (some ⟨w5.heap.size, 0, none⟩) 0 0) 0 []) := Lib.hid (by have h := own_none w5.drew 71 _ HB0R.out.size; exact h)
          have HB_0 := Lib.hid (HB0R.out.alloc HB0R.out.size (.cells #[] 71))
          refine hK.out _ _ (by exact ⟨HS0.out.below HB_0.out hBS, HE0.out.below HB_0.out hBE⟩) ?_
          clear hK K hHeld
          intro hHeld
          try simp only [Act.put, List.setIfInBounds_toArray, List.set_cons_zero, List.set_cons_succ]
          refine wpAnyN_both (i := 4) (j := 6) (o := ⟨some 27, _, _, _, _, _⟩) (p := ⟨some 29, _, _, _, _, _⟩) (by kernel_rfl) rfl rfl (fun K hK => ?_) (fun K hK => ?_)
          · refine step_append_rowG (z := .agg #[.int .i64 0, .bool false]) (sz := 2) (bytes := 16) info_sort rfl (by decide) Try.underlying45 rfl _ _ (by rfl) _ w5.drew.heap.size _ 0 [] ao no co (ordCells oq) (by rfl) (by rfl) HO0.out (HOR0.out _ HB_0.out) HONE.out (by omega) (by unfold maxLen; omega) HB_0.out.size ?_
            intro v1 x1 h2 h3 h4
            rw [Nat.zero_add, List.nil_append] at h2
            have HO1 := Lib.hid h2
            have HB_1 := Lib.hid (h4 _ HB_0.out)
            clear h2 h3 h4
            refine hK.out _ _ (by exact ⟨HS0.out.below HB_1.out hBS, HE0.out.below HB_1.out hBE⟩) ?_
            clear hK K hHeld
            intro hHeld
            try simp only [Act.put, List.setIfInBounds_toArray, List.set_cons_zero, List.set_cons_succ]
            refine wpAnyN_one (i := 6) (o := ⟨some 29, _, _, _, _, _⟩) (by kernel_rfl) rfl (fun K hK => ?_)
            go_simp
            have HL2 : Hid (RowG 2 (x1.alloc (.cells #[.int .i64 (n - 1), .bool d] 71)) (some ⟨x1.heap.size, 0, none⟩) 1 1 [.int .i64 (n - 1), .bool d]) := Lib.hid (by have h := row_elem x1 71 (.int .i64 (n - 1)) (.bool d); exact h)
            have HB_2 := Lib.hid (HB_1.out.alloc HB_1.out.size (.cells #[.int .i64 (n - 1), .bool d] 71))
            have HO2 := Lib.hid (World.ownsRow.alloc HO1.out (.cells #[.int .i64 (n - 1), .bool d] 71))
            refine hK.out _ _ (by exact ⟨HS0.out.below HB_2.out hBS, HE0.out.below HB_2.out hBE⟩) ?_
            clear hK K hHeld
            intro hHeld
            try simp only [Act.put, List.setIfInBounds_toArray, List.set_cons_zero, List.set_cons_succ]
            refine wpAnyN_one (i := 7) (o := ⟨some 30, _, _, _, _, _⟩) (by kernel_rfl) rfl (fun K hK => ?_)
            refine step_append_rowG (z := .agg #[.int .i64 0, .bool false]) (sz := 2) (bytes := 16) info_sort rfl (by decide) Try.underlying45 rfl _ _ (by rfl) _ w5.drew.heap.size _ no (ordCells oq) (some ⟨x1.heap.size, 0, none⟩) 1 1 [.int .i64 (n - 1), .bool d] (by rfl) (by rfl) HO2.out HL2.out (by intro u hu; simp at hu; rcases hu with rfl | rfl <;> rfl) (by omega) (by unfold maxLen; omega) HB_2.out.size ?_
            intro v3 x3 h2 h3 h4
            obtain ⟨ra, rc, rfl⟩ := own_form h2
            have HRF := Lib.hid h2
            have HB_3 := Lib.hid (h4 _ HB_2.out)
            clear h2 h3 h4
            refine hK.out _ _ (by exact ⟨HS0.out.below HB_3.out hBS, HE0.out.below HB_3.out hBE⟩) ?_
            clear hK K hHeld
            intro hHeld
            try simp only [Act.put, List.setIfInBounds_toArray, List.set_cons_zero, List.set_cons_succ]
            refine wpAnyN_take (i := 8) (oi := ⟨some 31, _, _, _, _, _⟩) (v := ?_) rfl (by kernel_rfl) (by kernel_rfl) (by kernel_rfl) (by kernel_rfl) (by kernel_rfl) (fun _ _ _ h => h) (Or.inl ⟨by rfl, ?_⟩) (by assumption) ?_
            rotate_left 1
            · (intro w hSw; obtain ⟨u0, u1, u2, u3, u4, u5, u6, u7, u8, u9, u10, u11⟩ := blk12 hSw.1; have v0 : w.cell? ⟨T, 0, none⟩ = some (.int .i64 (n - 1)) := hSw.2.cell 0; have v1 : w.cell? ⟨T, 1, none⟩ = some (.bool d) := hSw.2.cell 1; go_simp; try with_reducible rfl)
            try simp only [Act.put, List.setIfInBounds_toArray, List.set_cons_zero, List.set_cons_succ]
            refine wpAnyN_take (i := 9) (oi := ⟨some 32, _, _, _, _, _⟩) (v := ?_) rfl (by kernel_rfl) (by kernel_rfl) (by kernel_rfl) (by kernel_rfl) (by kernel_rfl) (fun _ _ _ h => h) (Or.inl ⟨by rfl, ?_⟩) (by assumption) ?_
            rotate_left 1
            · (intro w hSw; obtain ⟨u0, u1, u2, u3, u4, u5, u6, u7, u8, u9, u10, u11⟩ := blk12 hSw.1; have v0 : w.cell? ⟨T, 0, none⟩ = some (.int .i64 (n - 1)) := hSw.2.cell 0; have v1 : w.cell? ⟨T, 1, none⟩ = some (.bool d) := hSw.2.cell 1; go_simp; try with_reducible rfl)
            try simp only [Act.put, List.setIfInBounds_toArray, List.set_cons_zero, List.set_cons_succ]
            refine wpAnyN_late (i := 10) (o := ⟨none, _, _, _, _, _⟩) (by kernel_rfl) (by kernel_rfl) rfl (fun K hK => ?_)
            obtain ⟨u0, u1, u2, u3, u4, u5, u6, u7, u8, u9, u10, u11⟩ := blk12 hHeld.1
            have uf : ∀ o, x3.frozen? ⟨S, o, none⟩ = false := fun o => hHeld.1.frozen o
            go_simp
            refine hK.out _ _ ?_
            clear hK K u0 u1 u2 u3 u4 u5 u6 u7 u8 u9 u10 u11 uf
            try simp only [Act.put, List.setIfInBounds_toArray, List.set_cons_zero, List.set_cons_succ]
            refine wpAnyN_end (by kernel_rfl) ?_
            have HSF := Lib.hid (hHeld.1.set_ 9 (.slice ra (no + 1) rc))
            have HBE0 := Lib.hid (((Below.refl _ _).drew).trans HB_3.out)
            clear hHeld
            have HSB := Lib.hid ((HKB5.out.below HBE0.out HKB5.out.lt).far (p := ⟨S, 9, none⟩) (by show S + 1 ≠ S; omega) (.slice ra (no + 1) rc))
            have HBZ := Lib.hid (below_set (HB5.out.trans (HBE0.out.mono (show S ≤ w5.drew.heap.size by have := HKS.out.lt; show S ≤ w5.heap.size; omega))) (p := ⟨S, 9, none⟩) (Nat.le_refl S) (.slice ra (no + 1) rc))
            go_wp2_with fail
            go_meet
            exact ⟨ra, rc, HSF.out, HSB.out, own_base (own_set HRF.out hBS 9 _) (by have := HKB5.out.lt; show S + 2 ≤ w5.heap.size; omega), HBZ.out⟩
          · go_simp
            have HL1 : Hid (RowG 2 ((w5.drew.alloc (.cells #[] 71)).alloc (.cells #[.int .i64 (n - 1), .bool d] 71)) (some ⟨w5.heap.size + 1, 0, none⟩) 1 1 [.int .i64 (n - 1), .bool d]) := Lib.hid (by have h := row_elem (w5.drew.alloc (.cells #[] 71)) 71 (.int .i64 (n - 1)) (.bool d); rw [World.size_alloc] at h; exact h)
            have HB_1 := Lib.hid (HB_0.out.alloc HB_0.out.size (.cells #[.int .i64 (n - 1), .bool d] 71))
            have HO1 := Lib.hid (World.ownsRow.alloc HO0.out (.cells #[.int .i64 (n - 1), .bool d] 71))
            have HNE : Hid (w5.heap.size + 1 ≠ w5.heap.size) := Lib.hid (by simp)
            refine hK.out _ _ (by exact ⟨HS0.out.below HB_1.out hBS, HE0.out.below HB_1.out hBE⟩) ?_
            clear hK K hHeld
            intro hHeld
            try simp only [Act.put, List.setIfInBounds_toArray, List.set_cons_zero, List.set_cons_succ]
            refine wpAnyN_one (i := 4) (o := ⟨some 27, _, _, _, _, _⟩) (by kernel_rfl) rfl (fun K hK => ?_)
            refine step_append_rowG (z := .agg #[.int .i64 0, .bool false]) (sz := 2) (bytes := 16) info_sort rfl (by decide) Try.underlying45 rfl _ _ (by rfl) _ w5.drew.heap.size _ 0 [] ao no co (ordCells oq) (by rfl) (by rfl) HO1.out (HOR0.out _ HB_1.out) HONE.out (by omega) (by unfold maxLen; omega) HB_1.out.size ?_
            intro v2 x2 h2 h3 h4
            rw [Nat.zero_add, List.nil_append] at h2
            have HO2 := Lib.hid h2
            have HB_2 := Lib.hid (h4 _ HB_1.out)
            have HL2 := Lib.hid (HL1.out.grown h3 (.inr (fun x hx => by cases hx; intro hy; simp [Value.ownBlock] at hy)))
            clear h2 h3 h4
            refine hK.out _ _ (by exact ⟨HS0.out.below HB_2.out hBS, HE0.out.below HB_2.out hBE⟩) ?_
            clear hK K hHeld
            intro hHeld
            try simp only [Act.put, List.setIfInBounds_toArray, List.set_cons_zero, List.set_cons_succ]
            refine wpAnyN_one (i := 7) (o := ⟨some 30, _, _, _, _, _⟩) (by kernel_rfl) rfl (fun K hK => ?_)
            refine step_append_rowG (z := .agg #[.int .i64 0, .bool false]) (sz := 2) (bytes := 16) info_sort rfl (by decide) Try.underlying45 rfl _ _ (by rfl) _ w5.drew.heap.size _ no (ordCells oq) (some ⟨w5.heap.size + 1, 0, none⟩) 1 1 [.int .i64 (n - 1), .bool d] (by rfl) (by rfl) HO2.out HL2.out (by intro u hu; simp at hu; rcases hu with rfl | rfl <;> rfl) (by omega) (by unfold maxLen; omega) HB_2.out.size ?_
            intro v3 x3 h2 h3 h4
            obtain ⟨ra, rc, rfl⟩ := own_form h2
            have HRF := Lib.hid h2
            have HB_3 := Lib.hid (h4 _ HB_2.out)
            clear h2 h3 h4
            refine hK.out _ _ (by exact ⟨HS0.out.below HB_3.out hBS, HE0.out.below HB_3.out hBE⟩) ?_
            clear hK K hHeld
            intro hHeld
            try simp only [Act.put, List.setIfInBounds_toArray, List.set_cons_zero, List.set_cons_succ]
            refine wpAnyN_take (i := 8) (oi := ⟨some 31, _, _, _, _, _⟩) (v := ?_) rfl (by kernel_rfl) (by kernel_rfl) (by kernel_rfl) (by kernel_rfl) (by kernel_rfl) (fun _ _ _ h => h) (Or.inl ⟨by rfl, ?_⟩) (by assumption) ?_
            rotate_left 1
            · (intro w hSw; obtain ⟨u0, u1, u2, u3, u4, u5, u6, u7, u8, u9, u10, u11⟩ := blk12 hSw.1; have v0 : w.cell? ⟨T, 0, none⟩ = some (.int .i64 (n - 1)) := hSw.2.cell 0; have v1 : w.cell? ⟨T, 1, none⟩ = some (.bool d) := hSw.2.cell 1; go_simp; try with_reducible rfl)
            try simp only [Act.put, List.setIfInBounds_toArray, List.set_cons_zero, List.set_cons_succ]
            refine wpAnyN_take (i := 9) (oi := ⟨some 32, _, _, _, _, _⟩) (v := ?_) rfl (by kernel_rfl) (by kernel_rfl) (by kernel_rfl) (by kernel_rfl) (by kernel_rfl) (fun _ _ _ h => h) (Or.inl ⟨by rfl, ?_⟩) (by assumption) ?_
            rotate_left 1
            · (intro w hSw; obtain ⟨u0, u1, u2, u3, u4, u5, u6, u7, u8, u9, u10, u11⟩ := blk12 hSw.1; have v0 : w.cell? ⟨T, 0, none⟩ = some (.int .i64 (n - 1)) := hSw.2.cell 0; have v1 : w.cell? ⟨T, 1, none⟩ = some (.bool d) := hSw.2.cell 1; go_simp; try with_reducible rfl)
            try simp only [Act.put, List.setIfInBounds_toArray, List.set_cons_zero, List.set_cons_succ]
            refine wpAnyN_late (i := 10) (o := ⟨none, _, _, _, _, _⟩) (by kernel_rfl) (by kernel_rfl) rfl (fun K hK => ?_)
            obtain ⟨u0, u1, u2, u3, u4, u5, u6, u7, u8, u9, u10, u11⟩ := blk12 hHeld.1
            have uf : ∀ o, x3.frozen? ⟨S, o, none⟩ = false := fun o => hHeld.1.frozen o
            go_simp
            refine hK.out _ _ ?_
            clear hK K u0 u1 u2 u3 u4 u5 u6 u7 u8 u9 u10 u11 uf
            try simp only [Act.put, List.setIfInBounds_toArray, List.set_cons_zero, List.set_cons_succ]
            refine wpAnyN_end (by kernel_rfl) ?_
            have HSF := Lib.hid (hHeld.1.set_ 9 (.slice ra (no + 1) rc))
            have HBE0 := Lib.hid (((Below.refl _ _).drew).trans HB_3.out)
            clear hHeld
            have HSB := Lib.hid ((HKB5.out.below HBE0.out HKB5.out.lt).far (p := ⟨S, 9, none⟩) (by show S + 1 ≠ S; omega) (.slice ra (no + 1) rc))
            have HBZ := Lib.hid (below_set (HB5.out.trans (HBE0.out.mono (show S ≤ w5.drew.heap.size by have := HKS.out.lt; show S ≤ w5.heap.size; omega))) (p := ⟨S, 9, none⟩) (Nat.le_refl S) (.slice ra (no + 1) rc))
            go_wp2_with fail
            go_meet
            exact ⟨ra, rc, HSF.out, HSB.out, own_base (own_set HRF.out hBS 9 _) (by have := HKB5.out.lt; show S + 2 ≤ w5.heap.size; omega), HBZ.out⟩
        · go_simp
          have HL0 : Hid (RowG 2 (w5.drew.alloc (.cells #[.int .i64 (n - 1), .bool d] 71)) (some ⟨w5.heap.size, 0, none⟩) 1 1 [.int .i64 (n - 1), .bool d]) := Lib.hid (by have h := row_elem w5.drew 71 (.int .i64 (n - 1)) (.bool d); exact h)
          have HB_0 := Lib.hid (HB0R.out.alloc HB0R.out.size (.cells #[.int .i64 (n - 1), .bool d] 71))
          refine hK.out _ _ (by exact ⟨HS0.out.below HB_0.out hBS, HE0.out.below HB_0.out hBE⟩) ?_
          clear hK K hHeld
          intro hHeld
          try simp only [Act.put, List.setIfInBounds_toArray, List.set_cons_zero, List.set_cons_succ]
          refine wpAnyN_one (i := 0) (o := ⟨some 23, _, _, _, _, _⟩) (by kernel_rfl) rfl (fun K hK => ?_)
          go_simp
          have HO1 : Hid (((w5.drew.alloc (.cells #[.int .i64 (n - 1), .bool d] 71)).alloc (.cells #[] 71)).ownsRow w5.drew.heap.size 71 2 (.slice (some ⟨w5.heap.size + 1, 0, none⟩) 0 0) 0 []) := Lib.hid (by have h := own_none (w5.drew.alloc (.cells #[.int .i64 (n - 1), .bool d] 71)) 71 _ HB_0.out.size; rw [World.size_alloc] at h; exact h)
          have HB_1 := Lib.hid (HB_0.out.alloc HB_0.out.size (.cells #[] 71))
          have HL1 := Lib.hid (HL0.out.below ((Below.refl _ _).alloc (Nat.le_refl _) (.cells #[] 71)) (Nat.le_refl _))
          have HNE : Hid (w5.heap.size ≠ w5.heap.size + 1) := Lib.hid (by simp)
          refine hK.out _ _ (by exact ⟨HS0.out.below HB_1.out hBS, HE0.out.below HB_1.out hBE⟩) ?_
          clear hK K hHeld
          intro hHeld
          try simp only [Act.put, List.setIfInBounds_toArray, List.set_cons_zero, List.set_cons_succ]
          refine wpAnyN_one (i := 4) (o := ⟨some 27, _, _, _, _, _⟩) (by kernel_rfl) rfl (fun K hK => ?_)
          refine step_append_rowG (z := .agg #[.int .i64 0, .bool false]) (sz := 2) (bytes := 16) info_sort rfl (by decide) Try.underlying45 rfl _ _ (by rfl) _ w5.drew.heap.size _ 0 [] ao no co (ordCells oq) (by rfl) (by rfl) HO1.out (HOR0.out _ HB_1.out) HONE.out (by omega) (by unfold maxLen; omega) HB_1.out.size ?_
          intro v2 x2 h2 h3 h4
          rw [Nat.zero_add, List.nil_append] at h2
          have HO2 := Lib.hid h2
          have HB_2 := Lib.hid (h4 _ HB_1.out)
          have HL2 := Lib.hid (HL1.out.grown h3 (.inr (fun x hx => by cases hx; intro hy; simp [Value.ownBlock] at hy)))
          clear h2 h3 h4
          refine hK.out _ _ (by exact ⟨HS0.out.below HB_2.out hBS, HE0.out.below HB_2.out hBE⟩) ?_
          clear hK K hHeld
          intro hHeld
          try simp only [Act.put, List.setIfInBounds_toArray, List.set_cons_zero, List.set_cons_succ]
          refine wpAnyN_one (i := 7) (o := ⟨some 30, _, _, _, _, _⟩) (by kernel_rfl) rfl (fun K hK => ?_)
          refine step_append_rowG (z := .agg #[.int .i64 0, .bool false]) (sz := 2) (bytes := 16) info_sort rfl (by decide) Try.underlying45 rfl _ _ (by rfl) _ w5.drew.heap.size _ no (ordCells oq) (some ⟨w5.heap.size, 0, none⟩) 1 1 [.int .i64 (n - 1), .bool d] (by rfl) (by rfl) HO2.out HL2.out (by intro u hu; simp at hu; rcases hu with rfl | rfl <;> rfl) (by omega) (by unfold maxLen; omega) HB_2.out.size ?_
          intro v3 x3 h2 h3 h4
          obtain ⟨ra, rc, rfl⟩ := own_form h2
          have HRF := Lib.hid h2
          have HB_3 := Lib.hid (h4 _ HB_2.out)
          clear h2 h3 h4
          refine hK.out _ _ (by exact ⟨HS0.out.below HB_3.out hBS, HE0.out.below HB_3.out hBE⟩) ?_
          clear hK K hHeld
          intro hHeld
          try simp only [Act.put, List.setIfInBounds_toArray, List.set_cons_zero, List.set_cons_succ]
          refine wpAnyN_take (i := 8) (oi := ⟨some 31, _, _, _, _, _⟩) (v := ?_) rfl (by kernel_rfl) (by kernel_rfl) (by kernel_rfl) (by kernel_rfl) (by kernel_rfl) (fun _ _ _ h => h) (Or.inl ⟨by rfl, ?_⟩) (by assumption) ?_
          rotate_left 1
          · (intro w hSw; obtain ⟨u0, u1, u2, u3, u4, u5, u6, u7, u8, u9, u10, u11⟩ := blk12 hSw.1; have v0 : w.cell? ⟨T, 0, none⟩ = some (.int .i64 (n - 1)) := hSw.2.cell 0; have v1 : w.cell? ⟨T, 1, none⟩ = some (.bool d) := hSw.2.cell 1; go_simp; try with_reducible rfl)
          try simp only [Act.put, List.setIfInBounds_toArray, List.set_cons_zero, List.set_cons_succ]
          refine wpAnyN_take (i := 9) (oi := ⟨some 32, _, _, _, _, _⟩) (v := ?_) rfl (by kernel_rfl) (by kernel_rfl) (by kernel_rfl) (by kernel_rfl) (by kernel_rfl) (fun _ _ _ h => h) (Or.inl ⟨by rfl, ?_⟩) (by assumption) ?_
          rotate_left 1
          · (intro w hSw; obtain ⟨u0, u1, u2, u3, u4, u5, u6, u7, u8, u9, u10, u11⟩ := blk12 hSw.1; have v0 : w.cell? ⟨T, 0, none⟩ = some (.int .i64 (n - 1)) := hSw.2.cell 0; have v1 : w.cell? ⟨T, 1, none⟩ = some (.bool d) := hSw.2.cell 1; go_simp; try with_reducible rfl)
          try simp only [Act.put, List.setIfInBounds_toArray, List.set_cons_zero, List.set_cons_succ]
          refine wpAnyN_late (i := 10) (o := ⟨none, _, _, _, _, _⟩) (by kernel_rfl) (by kernel_rfl) rfl (fun K hK => ?_)
          obtain ⟨u0, u1, u2, u3, u4, u5, u6, u7, u8, u9, u10, u11⟩ := blk12 hHeld.1
          have uf : ∀ o, x3.frozen? ⟨S, o, none⟩ = false := fun o => hHeld.1.frozen o
          go_simp
          refine hK.out _ _ ?_
          clear hK K u0 u1 u2 u3 u4 u5 u6 u7 u8 u9 u10 u11 uf
          try simp only [Act.put, List.setIfInBounds_toArray, List.set_cons_zero, List.set_cons_succ]
          refine wpAnyN_end (by kernel_rfl) ?_
          have HSF := Lib.hid (hHeld.1.set_ 9 (.slice ra (no + 1) rc))
          have HBE0 := Lib.hid (((Below.refl _ _).drew).trans HB_3.out)
          clear hHeld
          have HSB := Lib.hid ((HKB5.out.below HBE0.out HKB5.out.lt).far (p := ⟨S, 9, none⟩) (by show S + 1 ≠ S; omega) (.slice ra (no + 1) rc))
          have HBZ := Lib.hid (below_set (HB5.out.trans (HBE0.out.mono (show S ≤ w5.drew.heap.size by have := HKS.out.lt; show S ≤ w5.heap.size; omega))) (p := ⟨S, 9, none⟩) (Nat.le_refl S) (.slice ra (no + 1) rc))
          go_wp2_with fail
          go_meet
          exact ⟨ra, rc, HSF.out, HSB.out, own_base (own_set HRF.out hBS 9 _) (by have := HKB5.out.lt; show S + 2 ≤ w5.heap.size; omega), HBZ.out⟩
      case rest =>
        obtain ⟨ra, rc, hka, hkb, hrg, hb⟩ := hcut
        have HKA7 := Lib.hid hka
        have HKB7 := Lib.hid hkb
        have HRG := Lib.hid hrg
        have HB7 := Lib.hid hb
        obtain ⟨w7, rfl⟩ : ∃ x, x = wc := ⟨_, rfl⟩
        clear hka hkb hrg hb
        have c0 : w7.cell? ⟨S, 0, none⟩ = some (.slice ad nd cd) := HKA7.out.cell 0
        have c1 : w7.cell? ⟨S, 1, none⟩ = some (.slice ai ni ci) := HKA7.out.cell 1
        have c2 : w7.cell? ⟨S, 2, none⟩ = some (.slice an nn cn) := HKA7.out.cell 2
        have c3 : w7.cell? ⟨S, 3, none⟩ = some (.slice av nv cv) := HKA7.out.cell 3
        have c4 : w7.cell? ⟨S, 4, none⟩ = some (.slice ta L.length tc) := HKA7.out.cell 4
        have c5 : w7.cell? ⟨S, 5, none⟩ = some (.int .i64 (i2 : Int)) := HKA7.out.cell 5
        have c6 : w7.cell? ⟨S, 6, none⟩ = some (.int .u32 g) := HKA7.out.cell 6
        have c7 : w7.cell? ⟨S, 7, none⟩ = some (.slice af nf cf) := HKA7.out.cell 7
        have c8 : w7.cell? ⟨S, 8, none⟩ = some (.slice ac nc cc) := HKA7.out.cell 8
        have c9 : w7.cell? ⟨S, 9, none⟩ = some (.slice ra (no + 1) rc) := HKA7.out.cell 9
        have c10 : w7.cell? ⟨S, 10, none⟩ = some (.int .i64 lm) := HKA7.out.cell 10
        have c11 : w7.cell? ⟨S, 11, none⟩ = some (.int .i64 (e1 : Int)) := HKA7.out.cell 11
        have d0 : w7.cell? ⟨S + 1, 0, none⟩ = some (.slice none 0 0) := HKB7.out.cell 0
        have d1 : w7.cell? ⟨S + 1, 1, none⟩ = some (.slice none 0 0) := HKB7.out.cell 1
        have d2 : w7.cell? ⟨S + 1, 2, none⟩ = some (.slice none 0 0) := HKB7.out.cell 2
        have d3 : w7.cell? ⟨S + 1, 3, none⟩ = some (.slice none 0 0) := HKB7.out.cell 3
        have d4 : w7.cell? ⟨S + 1, 4, none⟩ = some (.slice none 0 0) := HKB7.out.cell 4
        have d5 : w7.cell? ⟨S + 1, 5, none⟩ = some (.int .i64 0) := HKB7.out.cell 5
        have d6 : w7.cell? ⟨S + 1, 6, none⟩ = some (.int .u32 0) := HKB7.out.cell 6
        have d7 : w7.cell? ⟨S + 1, 7, none⟩ = some (.slice none 0 0) := HKB7.out.cell 7
        have d8 : w7.cell? ⟨S + 1, 8, none⟩ = some (.slice none 0 0) := HKB7.out.cell 8
        have d9 : w7.cell? ⟨S + 1, 9, none⟩ = some (.slice none 0 0) := HKB7.out.cell 9
        have d10 : w7.cell? ⟨S + 1, 10, none⟩ = some (.int .i64 0) := HKB7.out.cell 10
        have d11 : w7.cell? ⟨S + 1, 11, none⟩ = some (.int .i64 0) := HKB7.out.cell 11
        have fzd : ∀ o, w7.frozen? ⟨S + 1, o, none⟩ = false := fun o => HKB7.out.frozen o
        go_wp2_with fail
        have HRGF := Lib.hid (own_set (own_set (own_set (own_set (own_set (own_set (own_set (own_set (own_set (own_set (own_set (own_set HRG.out (R := S + 1) (by omega) 0 (.slice ad nd cd)) (R := S + 1) (by omega) 1 (.slice ai ni ci)) (R := S + 1) (by omega) 2 (.slice an nn cn)) (R := S + 1) (by omega) 3 (.slice av nv cv)) (R := S + 1) (by omega) 4 (.slice ta L.length tc)) (R := S + 1) (by omega) 5 (.int .i64 (i2 : Int))) (R := S + 1) (by omega) 6 (.int .u32 g)) (R := S + 1) (by omega) 7 (.slice af nf cf)) (R := S + 1) (by omega) 8 (.slice ac nc cc)) (R := S + 1) (by omega) 9 (.slice ra (no + 1) rc)) (R := S + 1) (by omega) 10 (.int .i64 lm)) (R := S + 1) (by omega) 11 (.int .i64 (e1 : Int)))
        have HKF := Lib.hid (blk_st12 (HKB7.out) (.slice ad nd cd) (.slice ai ni ci) (.slice an nn cn) (.slice av nv cv) (.slice ta L.length tc) (.int .i64 (i2 : Int)) (.int .u32 g) (.slice af nf cf) (.slice ac nc cc) (.slice ra (no + 1) rc) (.int .i64 lm) (.int .i64 (e1 : Int)))
        have HBF := Lib.hid (below_st12 (HB7.out) (b := S + 1) (by have := HSW.out; omega) (.slice ad nd cd) (.slice ai ni ci) (.slice an nn cn) (.slice av nv cv) (.slice ta L.length tc) (.int .i64 (i2 : Int)) (.int .u32 g) (.slice af nf cf) (.slice ac nc cc) (.slice ra (no + 1) rc) (.int .i64 lm) (.int .i64 (e1 : Int)))
        generalize ((((((((((((w7.setCell ⟨S + 1, 0, none⟩ (.slice ad nd cd)).setCell ⟨S + 1, 1, none⟩ (.slice ai ni ci)).setCell ⟨S + 1, 2, none⟩ (.slice an nn cn)).setCell ⟨S + 1, 3, none⟩ (.slice av nv cv)).setCell ⟨S + 1, 4, none⟩ (.slice ta L.length tc)).setCell ⟨S + 1, 5, none⟩ (.int .i64 (i2 : Int))).setCell ⟨S + 1, 6, none⟩ (.int .u32 g)).setCell ⟨S + 1, 7, none⟩ (.slice af nf cf)).setCell ⟨S + 1, 8, none⟩ (.slice ac nc cc)).setCell ⟨S + 1, 9, none⟩ (.slice ra (no + 1) rc)).setCell ⟨S + 1, 10, none⟩ (.int .i64 lm)).setCell ⟨S + 1, 11, none⟩ (.int .i64 (e1 : Int))) = Wf at *
        have z0 : Wf.cell? ⟨S + 1, 0, none⟩ = some (.slice ad nd cd) := HKF.out.cell 0
        have z1 : Wf.cell? ⟨S + 1, 1, none⟩ = some (.slice ai ni ci) := HKF.out.cell 1
        have z2 : Wf.cell? ⟨S + 1, 2, none⟩ = some (.slice an nn cn) := HKF.out.cell 2
        have z3 : Wf.cell? ⟨S + 1, 3, none⟩ = some (.slice av nv cv) := HKF.out.cell 3
        have z4 : Wf.cell? ⟨S + 1, 4, none⟩ = some (.slice ta L.length tc) := HKF.out.cell 4
        have z5 : Wf.cell? ⟨S + 1, 5, none⟩ = some (.int .i64 (i2 : Int)) := HKF.out.cell 5
        have z6 : Wf.cell? ⟨S + 1, 6, none⟩ = some (.int .u32 g) := HKF.out.cell 6
        have z7 : Wf.cell? ⟨S + 1, 7, none⟩ = some (.slice af nf cf) := HKF.out.cell 7
        have z8 : Wf.cell? ⟨S + 1, 8, none⟩ = some (.slice ac nc cc) := HKF.out.cell 8
        have z9 : Wf.cell? ⟨S + 1, 9, none⟩ = some (.slice ra (no + 1) rc) := HKF.out.cell 9
        have z10 : Wf.cell? ⟨S + 1, 10, none⟩ = some (.int .i64 lm) := HKF.out.cell 10
        have z11 : Wf.cell? ⟨S + 1, 11, none⟩ = some (.int .i64 (e1 : Int)) := HKF.out.cell 11
        refine bodyPost_ret (v := .agg #[.slice ad nd cd, .slice ai ni ci, .slice an nn cn, .slice av nv cv, .slice ta L.length tc, .int .i64 (i2 : Int), .int .u32 g, .slice af nf cf, .slice ac nc cc, .slice ra (no + 1) rc, .int .i64 lm, .int .i64 (e1 : Int)]) (by simp [results, Try.results77, go_sem, z0, z1, z2, z3, z4, z5, z6, z7, z8, z9, z10, z11]) rfl ?_
        have HRR : Hid (r = ⟨i2, ⟨g, fq, cq, oq ++ [(n - 1, d)], lm⟩, e1⟩) := Lib.hid (by rw [HOR.out, HI2'.out]; cases v <;> rfl)
        rw [HRR.out]
        refine ⟨⟨af, nf, cf, ac, nc, cc, ra, no + 1, rc⟩, fl, rfl, fun wx hag => ?_, by rw [HSW.out]; exact HBF.out⟩
        have h := HSG.out wx (hag.old (by rw [HSW.out]; exact HBF.out))
        refine ⟨ord_qry h.q (x := (n - 1, d)) ⟨n2, n3⟩ (by rw [ordCells_push]; exact own_rowg (own_agr hag HRGF.out (by have := HSW.out; omega))), h.fs, h.grp, fun he => ?_, ?_⟩
        · obtain ⟨k1, k2⟩ := HNA.out.2.2.1 he
          obtain ⟨k3, k4, k5⟩ := h.len k1
          have k6 : i1 ≤ i2 := by rw [HI2'.out]; cases v <;> simp
          dsimp only at *
          rw [List.length_append]
          exact ⟨by omega, by show oq.length + 1 ≤ i2; omega, by omega⟩
        · show i2 < L.length
          rw [HI2'.out]
          rcases v with _ | _
          · exact HNA.out.1
          · exact (HW1.out (by have := HV.out; revert this; cases d <;> cases a <;> simp)).2
end Go.Proofs.Ytaofjnidniekjaa
