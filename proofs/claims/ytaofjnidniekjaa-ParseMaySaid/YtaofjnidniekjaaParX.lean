/- What the reader of package parse does with a condition of a query, and the whole reading. Conditions: those stated. -/
import Derived.Test.YtaofjnidniekjaaParW
namespace Go.Proofs.Ytaofjnidniekjaa
open Go.RowKit

theorem cond_goes' {dims : List ByteArray} {L : List Tok} {i : Nat} {x : Nat × (Int × List Int)} (h : condT dims L i = .ok x) : i < x.1 ∧ x.1 ≤ L.length := by
  have h1 : condS dims L i QP.nul = .ok (x.1, { QP.nul with flts := QP.nul.flts ++ [x.2] }) := by rw [cond_one, h]; rfl
  exact cond_goes dims L i QP.nul _ h1
set_option maxRecDepth 100000 in
set_option maxHeartbeats 1000000 in
theorem qcond_any (C : RC) (hC : C.Ok) (bx i : Nat) (q : QP) (w : World) (hi : i < C.L.length) (hQ : QB C bx i q w) :
    Calls Try.prog 56 #[.pointer (some ⟨bx, 0, none⟩)] w (RList C (QB C bx) (condS (dimN C.s) C.L i q)) := by
  rw [cond_one]
  obtain ⟨⟨vf, vc, vo, fl, hr⟩, hbx, hlt⟩ := hQ
  have HC := Lib.hid hC
  have HR := Lib.hid hr.drew
  have HBX := Lib.hid hbx.drew
  have HLT := Lib.hid hlt
  have HI := Lib.hid hi
  have c0 : w.drew.cell? ⟨bx, 0, none⟩ = some (.pointer (some ⟨C.R, 0, none⟩)) := HBX.out.cell 0
  have c8 : w.drew.cell? ⟨C.R, 7, none⟩ = some vf := by rw [Blk.cell HR.out.rd]; rfl
  have f8 : w.drew.frozen? ⟨C.R, 7, none⟩ = false := Blk.frozen HR.out.rd 7
  have hmany := hC.good.many
  have hl : fl.length ≤ 1001 := by have := hr.len.2.2; omega
  have HCOL := Lib.hid (pcond_any C hC i hi w.drew hr.drew.at')
  have HWS : Hid (C.R + 1 ≤ w.drew.heap.size) := Lib.hid hr.drew.rd.lt
  clear hC hr hbx hlt hi hmany
  obtain ⟨R, hRR⟩ : ∃ r, C.R = r := ⟨_, rfl⟩
  have HRR := Lib.hid hRR
  rw [hRR] at c0 c8 f8 HCOL
  clear hRR
  obtain ⟨r, hrr⟩ : ∃ r, RList C (QB C bx) (condT (dimN C.s) C.L i >>= fun x => pure (x.1, { q with flts := q.flts ++ [x.2] })) = r := ⟨_, rfl⟩
  rw [hrr]
  have HRN := Lib.hid hrr
  clear hrr
  go_enter Try.func56, Try.ntmps56
  go_upto_region 0 with fail
  refine wp_regionN (fun w' => w'.cell? ⟨bx, 0, none⟩ = some (.pointer (some ⟨R, 0, none⟩)) ∧ w'.cell? ⟨R, 7, none⟩ = some vf ∧ w'.frozen? ⟨R, 7, none⟩ = false) [13] (by kernel_rfl) (by exact ⟨c0, c8, f8⟩) (fun hHeld => ?_)
  refine wpAnyN_take (i := 0) (oi := ⟨some 1, _, _, _, _, _⟩) (v := ?_) rfl (by kernel_rfl) (by kernel_rfl) (by kernel_rfl) (by kernel_rfl) (by kernel_rfl) (fun _ _ _ h => h) (Or.inl ⟨by rfl, ?_⟩) (by assumption) ?_
  rotate_left 1
  · (intro w hSw; (try dsimp only at hSw); go_simp; try with_reducible rfl)
  try simp only [Act.put, List.setIfInBounds_toArray, List.set_cons_zero, List.set_cons_succ]
  refine wpAnyN_take (i := 1) (oi := ⟨some 2, _, _, _, _, _⟩) (v := ?_) rfl (by kernel_rfl) (by kernel_rfl) (by kernel_rfl) (by kernel_rfl) (by kernel_rfl) (fun _ _ _ h => h) (Or.inl ⟨by rfl, ?_⟩) (by assumption) ?_
  rotate_left 1
  · (intro w hSw; (try dsimp only at hSw); go_simp; try with_reducible rfl)
  try simp only [Act.put, List.setIfInBounds_toArray, List.set_cons_zero, List.set_cons_succ]
  refine wpAnyN_take (i := 2) (oi := ⟨some 3, _, _, _, _, _⟩) (v := ?_) rfl (by kernel_rfl) (by kernel_rfl) (by kernel_rfl) (by kernel_rfl) (by kernel_rfl) (fun _ _ _ h => h) (Or.inl ⟨by rfl, ?_⟩) (by assumption) ?_
  rotate_left 1
  · (intro w hSw; (try dsimp only at hSw); go_simp; try with_reducible rfl)
  try simp only [Act.put, List.setIfInBounds_toArray, List.set_cons_zero, List.set_cons_succ]
  refine wpAnyN_take (i := 3) (oi := ⟨some 4, _, _, _, _, _⟩) (v := ?_) rfl (by kernel_rfl) (by kernel_rfl) (by kernel_rfl) (by kernel_rfl) (by kernel_rfl) (fun _ _ _ h => h) (Or.inl ⟨by rfl, ?_⟩) (by assumption) ?_
  rotate_left 1
  · (intro w hSw; (try dsimp only at hSw); go_simp; try with_reducible rfl)
  try simp only [Act.put, List.setIfInBounds_toArray, List.set_cons_zero, List.set_cons_succ]
  refine wpAnyN_take (i := 4) (oi := ⟨some 5, _, _, _, _, _⟩) (v := ?_) rfl (by kernel_rfl) (by kernel_rfl) (by kernel_rfl) (by kernel_rfl) (by kernel_rfl) (fun _ _ _ h => h) (Or.inl ⟨by rfl, ?_⟩) (by assumption) ?_
  rotate_left 1
  · (intro w hSw; (try dsimp only at hSw); go_simp; try with_reducible rfl)
  try simp only [Act.put, List.setIfInBounds_toArray, List.set_cons_zero, List.set_cons_succ]
  refine wpAnyN_take (i := 5) (oi := ⟨some 6, _, _, _, _, _⟩) (v := ?_) rfl (by kernel_rfl) (by kernel_rfl) (by kernel_rfl) (by kernel_rfl) (by kernel_rfl) (fun _ _ _ h => h) (Or.inl ⟨by rfl, ?_⟩) (by assumption) ?_
  rotate_left 1
  · (intro w hSw; (try dsimp only at hSw); go_simp; try with_reducible rfl)
  try simp only [Act.put, List.setIfInBounds_toArray, List.set_cons_zero, List.set_cons_succ]
  refine wpAnyN_take (i := 6) (oi := ⟨some 7, _, _, _, _, _⟩) (v := ?_) rfl (by kernel_rfl) (by kernel_rfl) (by kernel_rfl) (by kernel_rfl) (by kernel_rfl) (fun _ _ _ h => h) (Or.inl ⟨by rfl, ?_⟩) (by assumption) ?_
  rotate_left 1
  · (intro w hSw; (try dsimp only at hSw); go_simp; try with_reducible rfl)
  try simp only [Act.put, List.setIfInBounds_toArray, List.set_cons_zero, List.set_cons_succ]
  refine wpAnyN_one (i := 7) (o := ⟨some 8, _, _, _, _, _⟩) (by kernel_rfl) rfl (fun K hK => ?_)
  go_simp
  rcases hx : condT (dimN C.s) C.L i with f | ⟨j, x⟩
  · rw [hx] at HCOL
    have hcx : RList C (QB C bx) (condT (dimN C.s) C.L i >>= fun x => pure (x.1, { q with flts := q.flts ++ [x.2] })) = RList C (QB C bx) (.error f) := by rw [hx]; rfl
    rw [hcx] at HRN
    clear hx hcx
    refine HCOL.out.mono ?_; rintro e w2 ⟨rfl, hb2⟩
    rw [← HRN.out]
    exact ⟨rfl, rfl, hb2⟩
  · rw [hx] at HCOL
    have hcx : RList C (QB C bx) (condT (dimN C.s) C.L i >>= fun x => pure (x.1, { q with flts := q.flts ++ [x.2] })) = RList C (QB C bx) (.ok (j, { q with flts := q.flts ++ [x] })) := by rw [hx]; rfl
    rw [hcx] at HRN
    have HX := Lib.hid (cond_goes' hx)
    clear hx hcx
    refine HCOL.out.mono ?_; rintro e w2 ⟨xa, xc, rfl, hox, hm2, hx1, hx2⟩
    have HR2 := Lib.hid (HR.out.mv hm2 (Nat.le_of_lt HX.out.1))
    have HBX3 := Lib.hid (hm2.kp.blk HBX.out (by have := HLT.out; omega))
    have HOX := Lib.hid (own_base hox HWS.out)
    have HXI := Lib.hid (And.intro hx1 hx2)
    have hRlt : R < w2.heap.size := by rw [← HRR.out]; exact HR2.out.rd.lt
    have hbxlt : bx < w2.heap.size := HBX3.out.lt
    have hB : C.R + 1 ≤ w2.heap.size := HR2.out.rd.lt
    have d0 : w2.cell? ⟨bx, 0, none⟩ = some (.pointer (some ⟨R, 0, none⟩)) := by rw [← HRR.out]; exact HBX3.out.cell 0
    have d8 : w2.cell? ⟨R, 7, none⟩ = some vf := by rw [← HRR.out, Blk.cell HR2.out.rd]; rfl
    have g8 : w2.frozen? ⟨R, 7, none⟩ = false := by rw [← HRR.out]; exact Blk.frozen HR2.out.rd 7
    clear hm2 HCOL c0 c8 f8 hox hx1 hx2
    obtain ⟨xk, xl⟩ := x
    dsimp only
    refine hK.out _ _ (by exact ⟨d0, d8, g8⟩) ?_
    clear hK K hHeld
    intro hHeld
    try simp only [Act.put, List.setIfInBounds_toArray, List.set_cons_zero, List.set_cons_succ]
    refine wpAnyN_one (i := 8) (o := ⟨some 9, _, _, _, _, _⟩) (by kernel_rfl) rfl (fun K hK => ?_)
    go_simp
    have a0 := (World.cell?_alloc_lt w2 (.cells #[.int .i64 xk, .slice xa xl.length xc] 69) ⟨bx, 0, none⟩ hbxlt).trans d0
    have a8 := (World.cell?_alloc_lt w2 (.cells #[.int .i64 xk, .slice xa xl.length xc] 69) ⟨R, 7, none⟩ hRlt).trans d8
    have b8 := ((HR2.out.rd.alloc (.cells #[.int .i64 xk, .slice xa xl.length xc] 69)).frozen 7)
    rw [HRR.out] at b8
    refine hK.out _ _ (by exact ⟨a0, a8, b8⟩) ?_
    clear hK K hHeld
    intro hHeld
    try simp only [Act.put, List.setIfInBounds_toArray, List.set_cons_zero, List.set_cons_succ]
    refine wpAnyN_one (i := 9) (o := ⟨some 10, _, _, _, _, _⟩) (by kernel_rfl) rfl (fun K hK => ?_)
    refine step_append_oneG (z := .agg #[.int .i64 0, .slice none 0 0]) (sz := 2) (bytes := 32) info_flt rfl (by decide) Try.underlying43 rfl _ _ (by rfl) w2 _ #[.int .i64 xk, .slice xa xl.length xc] (C.R + 1) vf fl.length (fltCells fl) w2.heap.size rfl rfl (by rfl) (by rfl) HR2.out.rf (fun u hu => by simp at hu; rcases hu with rfl | rfl <;> rfl) (by omega) (by unfold maxLen; omega) hB ?_
    intro v' w' h2 h3 h4
    obtain ⟨a3, c3, rfl⟩ := own_form h2
    have hb' := below_grown HR2.out.bl h3 (Nat.le_of_lt HR2.out.rd.lt) (fun g hg => Nat.le_of_succ_le (own_ge HR2.out.rf g hg))
    have HF := Lib.hid (HR2.out.pushF ⟨xk, xl, xa, xl.length, xc⟩ HXI.out rfl HOX.out (by have := HR.out.len.2.2; have h0 : i < j := HX.out.1; omega) h2 h3 hb')
    have HBX4 := Lib.hid (blk_other HBX3.out HR2.out.rf (by decide) h3)
    have HRD := Lib.hid (blk_other HR2.out.rd HR2.out.rf (by decide) h3)
    have e0 : w'.cell? ⟨bx, 0, none⟩ = some (.pointer (some ⟨R, 0, none⟩)) := by rw [← HRR.out]; exact HBX4.out.cell 0
    have e8 : w'.cell? ⟨R, 7, none⟩ = some vf := by rw [← HRR.out, Blk.cell HRD.out]; rfl
    have k8 : w'.frozen? ⟨R, 7, none⟩ = false := by rw [← HRR.out]; exact Blk.frozen HRD.out 7
    clear h2 h3 h4 hb' d0 d8 g8
    refine hK.out _ _ (by exact ⟨e0, e8, k8⟩) ?_
    clear hK K hHeld
    intro hHeld
    try simp only [Act.put, List.setIfInBounds_toArray, List.set_cons_zero, List.set_cons_succ]
    refine wpAnyN_take (i := 10) (oi := ⟨some 11, _, _, _, _, _⟩) (v := ?_) rfl (by kernel_rfl) (by kernel_rfl) (by kernel_rfl) (by kernel_rfl) (by kernel_rfl) (fun _ _ _ h => h) (Or.inl ⟨by rfl, ?_⟩) (by assumption) ?_
    rotate_left 1
    · (intro w hSw; (try dsimp only at hSw); go_simp; try with_reducible rfl)
    try simp only [Act.put, List.setIfInBounds_toArray, List.set_cons_zero, List.set_cons_succ]
    refine wpAnyN_take (i := 11) (oi := ⟨some 12, _, _, _, _, _⟩) (v := ?_) rfl (by kernel_rfl) (by kernel_rfl) (by kernel_rfl) (by kernel_rfl) (by kernel_rfl) (fun _ _ _ h => h) (Or.inl ⟨by rfl, ?_⟩) (by assumption) ?_
    rotate_left 1
    · (intro w hSw; (try dsimp only at hSw); go_simp; try with_reducible rfl)
    try simp only [Act.put, List.setIfInBounds_toArray, List.set_cons_zero, List.set_cons_succ]
    refine wpAnyN_take (i := 12) (oi := ⟨some 13, _, _, _, _, _⟩) (v := ?_) rfl (by kernel_rfl) (by kernel_rfl) (by kernel_rfl) (by kernel_rfl) (by kernel_rfl) (fun _ _ _ h => h) (Or.inl ⟨by rfl, ?_⟩) (by assumption) ?_
    rotate_left 1
    · (intro w hSw; (try dsimp only at hSw); go_simp; try with_reducible rfl)
    try simp only [Act.put, List.setIfInBounds_toArray, List.set_cons_zero, List.set_cons_succ]
    refine wpAnyN_late (i := 13) (o := ⟨none, _, _, _, _, _⟩) (by kernel_rfl) (by kernel_rfl) rfl (fun K hK => ?_)
    go_simp
    refine hK.out _ _ ?_
    clear hK K
    try simp only [Act.put, List.setIfInBounds_toArray, List.set_cons_zero, List.set_cons_succ]
    refine wpAnyN_end (by kernel_rfl) ?_
    go_wp2_with fail
    go_end0
    rw [← HRN.out]
    refine ⟨rfl, ⟨.slice a3 (fl.length + 1) c3, vc, vo, fl ++ [⟨xk, xl, xa, xl.length, xc⟩], ?_⟩, ?_, HLT.out⟩

    · rw [← HRR.out]; exact HF.out
    · rw [← HRR.out]; exact HBX4.out.far (by have := HLT.out; show bx ≠ C.R; omega) _
end Go.Proofs.Ytaofjnidniekjaa
