/- What the reader of package parse does with a condition. Conditions: those stated. -/
import Derived.Test.YtaofjnidniekjaaParU
namespace Go.Proofs.Ytaofjnidniekjaa
open Go.RowKit

/-- a condition -/
def condT (dims : List ByteArray) (L : List Tok) (i : Nat) : Except (Nat × Nat) (Nat × (Int × List Int)) :=
  nameS dims L i >>= fun d => if wordAt L d.1 [61] then numT L (d.1 + 1) >>= fun n => pure (n.1, ((d.2 : Int), [n.2]))
    else wantS L d.1 [105, 110] >>= fun a => wantS L a [40] >>= fun b => if wordAt L b [41] then pure (b + 1, ((d.2 : Int), []))
      else listS (numOne L) L [44] L.length b [] >>= fun l => wantS L l.1 [41] >>= fun c => pure (c, ((d.2 : Int), l.2))
theorem cond_one (dims : List ByteArray) (L : List Tok) (i : Nat) (q : QP) : condS dims L i q = (condT dims L i >>= fun x => pure (x.1, { q with flts := q.flts ++ [x.2] })) := by
  unfold condS condT
  rcases h : nameS dims L i with e | ⟨j, d⟩
  · rfl
  · show (if wordAt L j [61] = true then _ else _) = ((if wordAt L j [61] = true then _ else _) >>= _)
    split
    · rcases h2 : numT L (j + 1) with e | n
      · rfl
      · rfl
    · show (wantS L j [105, 110] >>= _) = ((wantS L j [105, 110] >>= _) >>= _)
      rcases h2 : wantS L j [105, 110] with e | a
      · rfl
      · show (wantS L a [40] >>= _) = ((wantS L a [40] >>= _) >>= _)
        rcases h3 : wantS L a [40] with e | b
        · rfl
        · show (if wordAt L b [41] = true then _ else _) = ((if wordAt L b [41] = true then _ else _) >>= _)
          split
          · rfl
          · show (numsS L L.length b [] >>= _) = ((listS (numOne L) L [44] L.length b [] >>= _) >>= _)
            rw [nums_list]
            rcases h4 : listS (numOne L) L [44] L.length b [] with e | l
            · rfl
            · show (wantS L l.1 [41] >>= _) = ((wantS L l.1 [41] >>= _) >>= _)
              rcases h5 : wantS L l.1 [41] with e | c
              · rfl
              · rfl
theorem Mv.grown {C : RC} {i j : Nat} {w0 w w' : World} {row : Option Nat} (h : Mv C i j w0 w) (hg : w.grownBy w' row) (hr : ∀ g, row = some g → w0.heap.size ≤ g) (hR : C.R < w0.heap.size) : Mv C i j w0 w' := by
  refine ⟨⟨hg.os.trans h.kp.os, hg.tape.trans h.kp.tape, hg.output.trans h.kp.output, Nat.le_trans h.kp.size hg.size, fun k hk hne => ?_⟩, fun g vf vc vo m hrd => ?_⟩
  · rw [hg.block k (Nat.lt_of_lt_of_le hk h.kp.size) (fun e => by have := hr k e.symm; omega)]
    exact h.kp.block k hk hne
  · exact (h.rd _ _ _ _ _ hrd).grown hg (fun e => by have := hr C.R e.symm; omega)
theorem own_base {w : World} {B B' s n : Nat} {e : TypeId} {v : Value} {cs : List Value} (h : w.ownsRow B e s v n cs) (hB : B' ≤ B) : w.ownsRow B' e s v n cs := by
  refine ⟨h.1, ?_⟩
  rcases h.2 with h | ⟨g, cap, cur, hv, hg, r⟩
  · exact .inl h
  · exact .inr ⟨g, cap, cur, hv, Nat.le_trans hB hg, r⟩
theorem own_kp {R : Nat} {w0 a b : World} (h : Kp R a b) {sz n : Nat} {e : TypeId} {v : Value} {cs : List Value} (ho : a.ownsRow w0.heap.size e sz v n cs) (hR : R < w0.heap.size) : b.ownsRow w0.heap.size e sz v n cs := h.own ho hR
theorem own_one (w : World) (B : Nat) (e : TypeId) (x : Value) (hB : B ≤ w.heap.size) : (w.alloc (.cells #[x] e)).ownsRow B e 1 (.slice (some ⟨w.heap.size, 0, none⟩) 1 1) 1 [x] :=
  ⟨rfl, .inr ⟨w.heap.size, 1, #[x], rfl, hB, heap_alloc_new w _, Nat.le_refl _, by unfold maxLen; omega, rfl, rfl⟩⟩
theorem own_setb {w : World} {B s n g : Nat} {e t : TypeId} {v : Value} {cs : List Value} {us : Array Value} (h : w.ownsRow B e s v n cs) (hk : Blk w g t us) (hne : t ≠ e) (k : Nat) (u : Value) : (w.setCell ⟨g, k, none⟩ u).ownsRow B e s v n cs := by
  refine ⟨h.1, ?_⟩
  rcases h.2 with h | ⟨g2, cap, cur, hv, hg, hh, r⟩
  · exact .inl h
  · refine .inr ⟨g2, cap, cur, hv, hg, ?_, r⟩
    rw [Below.heap_setCell _ _ _ _ (show g2 ≠ g from fun e2 => by
      subst e2
      unfold Blk at hk
      rw [hk] at hh
      injection hh with h3
      injection h3 with _ h4 _
      exact hne h4)]
    exact hh
/-- the codes so far: w0 the world that the condition began in, at place i0 -/
def CI (C : RC) (w0 : World) (i0 bx fb rb : Nat) (d : Int) (i : Nat) (l : List Int) (w : World) : Prop :=
  i0 ≤ i ∧ Mv C i0 i w0 w ∧ Blk w bx 76 #[.pointer (some ⟨C.R, 0, none⟩)] ∧ (∃ v, Blk w fb 69 #[.int .i64 d, v] ∧ w.ownsRow w0.heap.size 3 1 v l.length (l.map (Value.int .i64))) ∧ l.length ≤ i ∧ (∀ x ∈ l, I64 x) ∧ w0.heap.size ≤ fb ∧ Blk w rb 69 #[.int .i64 0, .slice none 0 0]
theorem CI.mv {C : RC} {w0 : World} {i0 bx fb rb : Nat} {d : Int} (hR : C.R < w0.heap.size) (hbx : C.R < bx) (hfb : C.R < fb) (hrb : C.R < rb) {i j : Nat} {l : List Int} {w w' : World} (hij : i ≤ j) (h : CI C w0 i0 bx fb rb d i l w) (hm : Mv C i j w w') : CI C w0 i0 bx fb rb d j l w' := by
  obtain ⟨h0, h1, h2, ⟨v, h3, h4⟩, h5, h6, h7, h8⟩ := h
  exact ⟨Nat.le_trans h0 hij, h1.trans hm, hm.kp.blk h2 (by omega), ⟨v, hm.kp.blk h3 (by omega), own_kp hm.kp h4 hR⟩, Nat.le_trans h5 hij, h6, h7, hm.kp.blk h8 (by omega)⟩
theorem info_codes : (Try.prog.info? 3).map (fun i => (i.zero, i.size, i.bytes)) = some (some (.int .i64 0), 1, 8) := by kernel_rfl
theorem numT_i64 {L : List Tok} (hg : TokOk L) {i j : Nat} {n : Int} (hi : i < L.length) (h : numT L i = .ok (j, n)) : j = i + 1 ∧ I64 n := by
  have h1 := (num_ok h).1
  unfold numT at h
  split at h
  · cases h
    obtain ⟨h2, h3⟩ := hg.num _ (tokAt_mem hi).2
    exact ⟨rfl, i64_small h2 (by omega)⟩
  · cases h

set_option maxRecDepth 100000 in
set_option maxHeartbeats 1000000 in
theorem ccode_any (C : RC) (hC : C.Ok) (w0 : World) (i0 bx fb rb : Nat) (d : Int) (hrf : rb ≠ fb) (hrR : C.R < rb) (hR0 : RAt C i0 w0) (i : Nat) (l : List Int) (w : World) (hi : i < C.L.length) (hQ : CI C w0 i0 bx fb rb d i l w) :
    Calls Try.prog 73 #[.pointer (some ⟨fb, 0, none⟩), .pointer (some ⟨bx, 0, none⟩)] w (RList C (CI C w0 i0 bx fb rb d) (numOne C.L i l)) := by
  obtain ⟨h0, hm, hbx, ⟨v, hfb, hown⟩, hlen, hall, hfg, hrb⟩ := hQ
  have HFG := Lib.hid hfg
  have HRB := Lib.hid hrb.drew
  have HRF := Lib.hid hrf
  have HRR9 := Lib.hid hrR
  clear hfg hrb hrf hrR
  have HC := Lib.hid hC
  have HM := Lib.hid hm.drew
  have HBX := Lib.hid hbx.drew
  have HFB := Lib.hid hfb.drew
  have HOW : Hid (w.drew.ownsRow w0.heap.size 3 1 v l.length (l.map (Value.int .i64))) := Lib.hid hown
  have HAL := Lib.hid hall
  have HI := Lib.hid hi
  have H0 := Lib.hid h0
  have HR0 := Lib.hid hR0
  have c0 : w.drew.cell? ⟨bx, 0, none⟩ = some (.pointer (some ⟨C.R, 0, none⟩)) := HBX.out.cell 0
  have c1 : w.drew.cell? ⟨fb, 1, none⟩ = some v := HFB.out.cell 1
  have f1 : w.drew.frozen? ⟨fb, 1, none⟩ = false := HFB.out.frozen 1
  have hmany := hC.good.many
  have hl : l.length ≤ 1001 := by omega
  have HLE := Lib.hid hlen
  have HRW : Hid (C.R < w.drew.heap.size) := Lib.hid (hR0.mv HM.out).lt
  have HBR : Hid (C.R ≠ bx ∧ C.R ≠ fb) := Lib.hid (by
    obtain ⟨_, g, vf, vc, vo, m, hrd⟩ := hR0.mv HM.out
    constructor
    · intro e
      have h1 := HBX.out
      rw [← e] at h1
      unfold Blk at h1
      unfold Rd Blk at hrd
      rw [hrd] at h1
      injection h1 with h1
      injection h1 with _ h2 _
      exact absurd h2 (by decide)
    · intro e
      have h1 := HFB.out
      rw [← e] at h1
      unfold Blk at h1
      unfold Rd Blk at hrd
      rw [hrd] at h1
      injection h1 with h1
      injection h1 with _ h2 _
      exact absurd h2 (by decide))
  have HNUM := Lib.hid (pnumber_any C hC i hi w.drew (hR0.mv HM.out))
  clear hC hbx hfb hown hall hi h0 hlen hmany hm hR0
  obtain ⟨R, hRR⟩ : ∃ r, C.R = r := ⟨_, rfl⟩
  have HRR := Lib.hid hRR
  rw [hRR] at c0 HNUM
  clear hRR
  obtain ⟨r, hrr⟩ : ∃ r, RList C (CI C w0 i0 bx fb rb d) (numOne C.L i l) = r := ⟨_, rfl⟩
  rw [hrr]
  have HRN := Lib.hid hrr
  clear hrr
  go_enter Try.func73, Try.ntmps73
  go_upto_region 0 with fail
  refine wp_regionN (fun w' => w'.cell? ⟨bx, 0, none⟩ = some (.pointer (some ⟨R, 0, none⟩)) ∧ w'.cell? ⟨fb, 1, none⟩ = some v ∧ w'.frozen? ⟨fb, 1, none⟩ = false) [7] (by kernel_rfl) (by exact ⟨c0, c1, f1⟩) (fun hHeld => ?_)
  refine wpAnyN_take (i := 0) (oi := ⟨some 2, _, _, _, _, _⟩) (v := ?_) rfl (by kernel_rfl) (by kernel_rfl) (by kernel_rfl) (by kernel_rfl) (by kernel_rfl) (fun _ _ _ h => h) (Or.inl ⟨by rfl, ?_⟩) (by assumption) ?_
  rotate_left 1
  · (intro w hSw; (try dsimp only at hSw); go_simp; try with_reducible rfl)
  try simp only [Act.put, List.setIfInBounds_toArray, List.set_cons_zero, List.set_cons_succ]
  refine wpAnyN_take (i := 1) (oi := ⟨some 3, _, _, _, _, _⟩) (v := ?_) rfl (by kernel_rfl) (by kernel_rfl) (by kernel_rfl) (by kernel_rfl) (by kernel_rfl) (fun _ _ _ h => h) (Or.inl ⟨by rfl, ?_⟩) (by assumption) ?_
  rotate_left 1
  · (intro w hSw; (try dsimp only at hSw); go_simp; try with_reducible rfl)
  try simp only [Act.put, List.setIfInBounds_toArray, List.set_cons_zero, List.set_cons_succ]
  refine wpAnyN_take (i := 2) (oi := ⟨some 4, _, _, _, _, _⟩) (v := ?_) rfl (by kernel_rfl) (by kernel_rfl) (by kernel_rfl) (by kernel_rfl) (by kernel_rfl) (fun _ _ _ h => h) (Or.inl ⟨by rfl, ?_⟩) (by assumption) ?_
  rotate_left 1
  · (intro w hSw; (try dsimp only at hSw); go_simp; try with_reducible rfl)
  try simp only [Act.put, List.setIfInBounds_toArray, List.set_cons_zero, List.set_cons_succ]
  refine wpAnyN_one (i := 3) (o := ⟨some 5, _, _, _, _, _⟩) (by kernel_rfl) rfl (fun K hK => ?_)
  go_simp
  rcases hx : numT C.L i with f | ⟨j, x⟩
  · rw [hx] at HNUM
    have hcx : numOne C.L i l = .error f := by unfold numOne; rw [hx]; rfl
    rw [hcx] at HRN
    clear hx hcx
    refine HNUM.out.mono ?_; rintro e w2 ⟨rfl, hb2⟩
    rw [← HRN.out]
    exact ⟨rfl, rfl, hb2⟩
  · rw [hx] at HNUM
    have hcx : numOne C.L i l = .ok (j, l ++ [x]) := by unfold numOne; rw [hx]; rfl
    rw [hcx] at HRN
    have HX := Lib.hid (numT_i64 HC.out.good HI.out hx)
    clear hx hcx
    refine HNUM.out.mono ?_; rintro e w2 ⟨rfl, hm2⟩
    have HM2 := Lib.hid (HM.out.trans hm2)
    have HBX2 := Lib.hid (hm2.kp.blk HBX.out (Ne.symm HBR.out.1))
    have HRB2 := Lib.hid (hm2.kp.blk HRB.out (by have := HRR9.out; omega))
    have HFB2 := Lib.hid (hm2.kp.blk HFB.out (Ne.symm HBR.out.2))
    have HOW2 := Lib.hid (own_kp hm2.kp HOW.out HR0.out.lt)
    have hbxlt : bx < w2.heap.size := HBX2.out.lt
    have hfblt : fb < w2.heap.size := HFB2.out.lt
    have hB : w0.heap.size ≤ w2.heap.size := HM2.out.kp.size
    have d0 : w2.cell? ⟨bx, 0, none⟩ = some (.pointer (some ⟨R, 0, none⟩)) := by rw [← HRR.out]; exact HBX2.out.cell 0
    have d1 : w2.cell? ⟨fb, 1, none⟩ = some v := HFB2.out.cell 1
    have g1 : w2.frozen? ⟨fb, 1, none⟩ = false := HFB2.out.frozen 1
    clear hm2 HNUM c0 c1 f1
    dsimp only
    refine hK.out _ _ (by exact ⟨d0, d1, g1⟩) ?_
    clear hK K hHeld
    intro hHeld
    try simp only [Act.put, List.setIfInBounds_toArray, List.set_cons_zero, List.set_cons_succ]
    refine wpAnyN_one (i := 4) (o := ⟨some 6, _, _, _, _, _⟩) (by kernel_rfl) rfl (fun K hK => ?_)
    go_simp
    have a0 := (World.cell?_alloc_lt w2 (.cells #[.int .i64 x] 3) ⟨bx, 0, none⟩ hbxlt).trans d0
    have a1 := (World.cell?_alloc_lt w2 (.cells #[.int .i64 x] 3) ⟨fb, 1, none⟩ hfblt).trans d1
    have b1 := (HFB2.out.alloc (.cells #[.int .i64 x] 3)).frozen 1
    refine hK.out _ _ (by exact ⟨a0, a1, b1⟩) ?_
    clear hK K hHeld
    intro hHeld
    try simp only [Act.put, List.setIfInBounds_toArray, List.set_cons_zero, List.set_cons_succ]
    refine wpAnyN_one (i := 5) (o := ⟨some 7, _, _, _, _, _⟩) (by kernel_rfl) rfl (fun K hK => ?_)
    refine step_append_oneG (z := .int .i64 0) (sz := 1) (bytes := 8) info_codes rfl (by decide) Try.underlying67 rfl _ _ (by rfl) w2 _ #[.int .i64 x] w0.heap.size v l.length (l.map (Value.int .i64)) w2.heap.size rfl rfl (by rfl) (by rfl) HOW2.out (fun u hu => by simp at hu; rcases hu with rfl; rfl) (by omega) (by unfold maxLen; omega) hB ?_
    intro v' w' h2 h3 h4
    obtain ⟨a3, c3, rfl⟩ := own_form h2
    have HF := Lib.hid (HM2.out.grown h3 (own_ge HOW2.out) HR0.out.lt)
    have HGR := Lib.hid h3
    have HX3 := Lib.hid (blk_other HBX2.out HOW2.out (by decide) h3)
    have HFB3 := Lib.hid (blk_other HFB2.out HOW2.out (by decide) h3)
    have HNE : Hid (bx ≠ fb) := Lib.hid (by
      intro e
      have h1 := HBX2.out
      rw [e] at h1
      have h5 := HFB2.out
      unfold Blk at h1 h5
      rw [h1] at h5
      injection h5 with h5
      injection h5 with _ h6 _
      exact absurd h6 (by decide))
    have HOW4 : Hid ((w'.setCell ⟨fb, 1, none⟩ (.slice a3 (l.length + 1) c3)).ownsRow w0.heap.size 3 1 (.slice a3 (l.length + 1) c3) (l.length + 1) (l.map (Value.int .i64) ++ [.int .i64 x])) := Lib.hid (own_setb h2 HFB3.out (by decide) 1 _)
    have HFW : Hid (w0.heap.size ≤ fb) := Lib.hid HFG.out
    have e0 : w'.cell? ⟨bx, 0, none⟩ = some (.pointer (some ⟨R, 0, none⟩)) := by rw [← HRR.out]; exact HX3.out.cell 0
    have e1 : w'.cell? ⟨fb, 1, none⟩ = some v := HFB3.out.cell 1
    have k1 : w'.frozen? ⟨fb, 1, none⟩ = false := HFB3.out.frozen 1
    clear h2 h3 h4 d0 d1 g1
    refine hK.out _ _ (by exact ⟨e0, e1, k1⟩) ?_
    clear hK K hHeld
    intro hHeld
    try simp only [Act.put, List.setIfInBounds_toArray, List.set_cons_zero, List.set_cons_succ]
    refine wpAnyN_take (i := 6) (oi := ⟨some 8, _, _, _, _, _⟩) (v := ?_) rfl (by kernel_rfl) (by kernel_rfl) (by kernel_rfl) (by kernel_rfl) (by kernel_rfl) (fun _ _ _ h => h) (Or.inl ⟨by rfl, ?_⟩) (by assumption) ?_
    rotate_left 1
    · (intro w hSw; (try dsimp only at hSw); go_simp; try with_reducible rfl)
    try simp only [Act.put, List.setIfInBounds_toArray, List.set_cons_zero, List.set_cons_succ]
    refine wpAnyN_late (i := 7) (o := ⟨none, _, _, _, _, _⟩) (by kernel_rfl) (by kernel_rfl) rfl (fun K hK => ?_)
    go_simp
    refine hK.out _ _ ?_
    clear hK K
    try simp only [Act.put, List.setIfInBounds_toArray, List.set_cons_zero, List.set_cons_succ]
    refine wpAnyN_end (by kernel_rfl) ?_
    go_wp2_with fail
    go_end0
    rw [← HRN.out]
    refine ⟨rfl, ?_, HF.out.far HFW.out HR0.out.lt _, HX3.out.far (by show bx ≠ fb; exact HNE.out) _, ⟨.slice a3 (l.length + 1) c3, ?_, ?_⟩, ?_, ?_, HFG.out, (blk_other HRB2.out HOW2.out (by decide) HGR.out).far HRF.out _⟩
    · have := H0.out; have := HX.out.1; show i0 ≤ j; omega
    · exact (HFB3.out.set_ 1 _).to rfl
    · have := HOW4.out
      show (w'.setCell ⟨fb, 1, none⟩ (.slice a3 (l.length + 1) c3)).ownsRow _ _ _ _ (l ++ [x]).length ((l ++ [x]).map (Value.int .i64))
      rw [List.map_append, List.length_append]
      exact this
    · have := HLE.out; have := HX.out.1; show (l ++ [x]).length ≤ j; rw [List.length_append]; show l.length + 1 ≤ j; omega
    · intro y hy
      rcases List.mem_append.1 hy with hy | hy
      · exact HAL.out y hy
      · rw [List.mem_singleton.1 hy]; exact HX.out.2
end Go.Proofs.Ytaofjnidniekjaa
