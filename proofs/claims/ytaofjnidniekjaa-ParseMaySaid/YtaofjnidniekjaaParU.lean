/- What the reader of package parse does with a column, with a name behind by, and with what rows are put in order by. Conditions: those stated. -/
import Derived.Test.YtaofjnidniekjaaParT
import Derived.Test.YtaofjnidniekjaaMRs1
namespace Go.Proofs.Ytaofjnidniekjaa
open Go.RowKit

theorem kind_lt {L : List Tok} {i : Nat} : ∀ (l : List (List UInt8)) (k m : Nat), kindAt L i l k = some m → m < k + l.length ∧ i < L.length
  | [], _, _, h => by cases h
  | w :: l, k, m, h => by
    unfold kindAt at h
    split at h
    · rename_i h1; cases h; exact ⟨by simp, word_lt h1⟩
    · have := kind_lt l (k + 1) m h
      rw [List.length_cons]; omega
theorem i64_small {x : Int} (h0 : 0 ≤ x) (h1 : x ≤ 2000000000000000000) : I64 x := ⟨by omega, by omega⟩
theorem colT_ok {names : List ByteArray} {L : List Tok} {i : Nat} {x : Nat × (Int × Int)} (hn : names.length ≤ 1000) (h : colT names L i = .ok x) : i < x.1 ∧ I64 x.2.1 ∧ I64 x.2.2 := by
  unfold colT at h
  split at h
  · cases h
  · rename_i h1; cases h
    exact ⟨Nat.lt_succ_self _, i64_small (x := 0) (by decide) (by decide), i64_small (x := 0) (by decide) (by decide)⟩
  · rename_i k h1
    have hk := kind_lt _ _ _ h1
    obtain ⟨a, h2, h3⟩ := bind_ok h
    obtain ⟨b, h4, h5⟩ := bind_ok h3
    obtain ⟨c, h6, h7⟩ := bind_ok h5
    have e1 := want_ok h2
    have e2 := name_ok h4
    have e3 := want_ok h6
    cases h7
    have hl : aggW.length = 7 := rfl
    have hb : b.2 < names.length := by
      unfold nameS at h4
      split at h4
      · split at h4
        · cases h4
        · rename_i hp; cases h4
          have := place_lt (place_mem.1 (Int.not_lt.1 hp))
          dsimp only; omega
      · cases h4
    refine ⟨by dsimp only at *; omega, i64_small (by dsimp only; omega) (by dsimp only; omega), i64_small (by dsimp only; omega) (by dsimp only; omega)⟩
theorem meas_few {s : Sch} (h : chkS s = 0) : (measN s).length ≤ 1000 := by
  have := chk_dims h
  unfold measN
  rw [List.length_append]; omega
/-- one element, laid into a block of its own, is appended: at a step of a region that draws -/
theorem step_append_oneG {t e : TypeId} {z : Value} {sz bytes : Nat} (hinfo : (Try.prog.info? e).map (fun i => (i.zero, i.size, i.bytes)) = some (some z, sz, bytes)) (hzs : z.cells.size = sz) (hsz : 0 < sz) (ht : Try.prog.underlying t = some (.slice e))
    {ops : Array Oper} {o : Oper} {a : Act} {K : Act → World → Prop} {Q : Exit → Act → World → Prop} {E : Prop} (hgd : o.guard = none) (s x : Operand)
    (ho : o.op = .call { callee := .builtin .append, args := #[s, x], argTypes := #[t, t] })
    (wr : World) (T : TypeId) (us : Array Value) (B : Nat) (v : Value) (n : Nat) (cs : List Value) (H : Nat) (hH : wr.heap.size = H) (hus : us.size = sz) (hs : a.eval s = v) (hx : a.eval x = .slice (some ⟨H, 0, none⟩) 1 1) (hown : wr.ownsRow B e sz v n cs) (h1 : ∀ u ∈ us, u.oneCell' = true) (hlen : (n + 1) * bytes ≤ 140737488355328) (hmx : n + 1 ≤ maxLen) (hB : B ≤ wr.heap.size)
    (h : ∀ v' w', w'.ownsRow B e sz v' (n + 1) (cs ++ us.toList) → wr.grownBy w' v.ownBlock → (∀ w0, Below B w0 wr → Below B w0 w') → K (a.put o.dst v') w') :
    if Region.wanted o (yielded ops a.tmps) = true then Oper.wp Try.prog o a (wr.alloc (.cells us T)) K Q else E := by
  subst hH
  refine step_append_rowG hinfo hzs hsz ht hgd s x ho (wr.alloc (.cells us T)) B v n cs _ 1 1 us.toList hs hx (World.ownsRow.alloc hown _) ⟨by rw [Array.length_toList, hus, Nat.one_mul], Nat.le_refl _, by unfold maxLen; omega, .inr ⟨wr.heap.size, 0, rfl, by simp, fun i hi => ?_⟩⟩ (fun u hu => h1 u (Array.mem_toList_iff.1 hu)) hlen hmx (by simp; omega) fun v' w' h2 h3 h4 => ?_
  · rw [Nat.one_mul, ← hus] at hi
    rw [cell_of_row _ wr.heap.size (0 + i) us T (0, 0) (heap_alloc_new wr _), Nat.zero_add, List.getD_eq_getElem?_getD, Array.getElem?_toList, Array.getElem?_eq_getElem hi]
    rfl
  · have h5 : wr.grownBy w' v.ownBlock := ⟨h3.os, h3.tape, h3.output, by have := h3.size; simp at this; omega, fun k hk hne => by
      rw [h3.block k (by simp; omega) hne]; exact Below.heap_alloc _ _ _ hk⟩
    exact h v' w' h2 h5 fun w0 hb => h4 w0 (hb.alloc hB _)
theorem below_grown {B : Nat} {w0 w w' : World} {row : Option Nat} (h : Below B w0 w) (hg : w.grownBy w' row) (hB : B ≤ w.heap.size) (hr : ∀ g, row = some g → B ≤ g) : Below B w0 w' :=
  ⟨hg.os.trans h.os, hg.tape.trans h.tape, hg.output.trans h.output, Nat.le_trans h.size hg.size, fun k hk => (hg.block k (by omega) (fun e => by have := hr k e.symm; omega)).trans (h.block k hk)⟩
theorem own_ge {w : World} {B s n : Nat} {e : TypeId} {v : Value} {cs : List Value} (h : w.ownsRow B e s v n cs) : ∀ g, v.ownBlock = some g → B ≤ g := fun g hg => (World.ownsRow.lt h g hg).1

set_option maxRecDepth 100000 in
set_option maxHeartbeats 1000000 in
theorem qcol_any (C : RC) (hC : C.Ok) (bx i : Nat) (q : QP) (w : World) (hi : i < C.L.length) (hQ : QB C bx i q w) :
    Calls Try.prog 52 #[.pointer (some ⟨bx, 0, none⟩)] w (RList C (QB C bx) (colS (measN C.s) C.L i q)) := by
  rw [col_one]
  obtain ⟨⟨vf, vc, vo, fl, hr⟩, hbx, hlt⟩ := hQ
  have HC := Lib.hid hC
  have HR := Lib.hid hr.drew
  have HBX := Lib.hid hbx.drew
  have HLT := Lib.hid hlt
  have HI := Lib.hid hi
  have c0 : w.drew.cell? ⟨bx, 0, none⟩ = some (.pointer (some ⟨C.R, 0, none⟩)) := HBX.out.cell 0
  have c8 : w.drew.cell? ⟨C.R, 8, none⟩ = some vc := by rw [Blk.cell HR.out.rd]; rfl
  have f8 : w.drew.frozen? ⟨C.R, 8, none⟩ = false := Blk.frozen HR.out.rd 8
  have hmany := hC.good.many
  have hl : q.cols.length ≤ 1001 := by have := hr.len.1; omega
  have HCOL := Lib.hid (pcol_any C hC i hi w.drew hr.drew.at')
  clear hC hr hbx hlt hi hmany
  obtain ⟨R, hRR⟩ : ∃ r, C.R = r := ⟨_, rfl⟩
  have HRR := Lib.hid hRR
  rw [hRR] at c0 c8 f8 HCOL
  clear hRR
  obtain ⟨r, hrr⟩ : ∃ r, RList C (QB C bx) (colT (measN C.s) C.L i >>= fun x => pure (x.1, { q with cols := q.cols ++ [x.2] })) = r := ⟨_, rfl⟩
  rw [hrr]
  have HRN := Lib.hid hrr
  clear hrr
  go_enter Try.func52, Try.ntmps52
  go_upto_region 0 with fail
  refine wp_regionN (fun w' => w'.cell? ⟨bx, 0, none⟩ = some (.pointer (some ⟨R, 0, none⟩)) ∧ w'.cell? ⟨R, 8, none⟩ = some vc ∧ w'.frozen? ⟨R, 8, none⟩ = false) [13] (by kernel_rfl) (by exact ⟨c0, c8, f8⟩) (fun hHeld => ?_)
  refine wpAnyN_take (i := 0) (oi := ⟨some 1, _, _, _, _, _⟩) (v := ?_) rfl (by kernel_rfl) (by kernel_rfl) (by kernel_rfl) (by kernel_rfl) (by kernel_rfl) (fun _ _ _ h => h) (Or.inl ⟨by rfl, ?_⟩) (by assumption) ?_
  rotate_left 1
  · (intro w hSw; (try dsimp only at hSw); go_simp; try with_reducible rfl)
  try simp only [Act.put, List.setIfInBounds_toArray, List.set_cons_zero, List.set_cons_succ]
  refine wpAnyN_take (i := 1) (oi := ⟨some 2, _, _, _, _, _⟩) (v := ?_) rfl (by kernel_rfl) (by kernel_rfl) (by kernel_rfl) (by kernel_rfl) (by kernel_rfl) (fun _ _ _ h => h) (Or.inl ⟨by rfl, ?_⟩) (by assumption) ?_
  rotate_left 1
  · (intro w hSw; (try dsimp only at hSw); go_simp; try with_reducible rfl)
  try simp only [Act.put, List.setIfInBounds_toArray, List.set_cons_zero, List.set_cons_succ]
  refine wpAnyN_take (i := 2) (oi := ⟨some 3, _, _, _, _, _⟩) (v := ?_) rfl (by kernel_rfl) (by kernel_rfl) (by kernel_rfl) (by kernel_rfl) (by kernel_rfl) (fun _ _ _ h => h) (Or.inl ⟨by rfl, ?_⟩) (by assumption) ?_
  rotate_left 1
  · (intro w hSw; (try dsimp only at hSw); go_simp; try with_reducible rfl)
  try simp only [Act.put, List.setIfInBounds_toArray, List.set_cons_zero, List.set_cons_succ]
  refine wpAnyN_take (i := 3) (oi := ⟨some 4, _, _, _, _, _⟩) (v := ?_) rfl (by kernel_rfl) (by kernel_rfl) (by kernel_rfl) (by kernel_rfl) (by kernel_rfl) (fun _ _ _ h => h) (Or.inl ⟨by rfl, ?_⟩) (by assumption) ?_
  rotate_left 1
  · (intro w hSw; (try dsimp only at hSw); go_simp; try with_reducible rfl)
  try simp only [Act.put, List.setIfInBounds_toArray, List.set_cons_zero, List.set_cons_succ]
  refine wpAnyN_take (i := 4) (oi := ⟨some 5, _, _, _, _, _⟩) (v := ?_) rfl (by kernel_rfl) (by kernel_rfl) (by kernel_rfl) (by kernel_rfl) (by kernel_rfl) (fun _ _ _ h => h) (Or.inl ⟨by rfl, ?_⟩) (by assumption) ?_
  rotate_left 1
  · (intro w hSw; (try dsimp only at hSw); go_simp; try with_reducible rfl)
  try simp only [Act.put, List.setIfInBounds_toArray, List.set_cons_zero, List.set_cons_succ]
  refine wpAnyN_take (i := 5) (oi := ⟨some 6, _, _, _, _, _⟩) (v := ?_) rfl (by kernel_rfl) (by kernel_rfl) (by kernel_rfl) (by kernel_rfl) (by kernel_rfl) (fun _ _ _ h => h) (Or.inl ⟨by rfl, ?_⟩) (by assumption) ?_
  rotate_left 1
  · (intro w hSw; (try dsimp only at hSw); go_simp; try with_reducible rfl)
  try simp only [Act.put, List.setIfInBounds_toArray, List.set_cons_zero, List.set_cons_succ]
  refine wpAnyN_take (i := 6) (oi := ⟨some 7, _, _, _, _, _⟩) (v := ?_) rfl (by kernel_rfl) (by kernel_rfl) (by kernel_rfl) (by kernel_rfl) (by kernel_rfl) (fun _ _ _ h => h) (Or.inl ⟨by rfl, ?_⟩) (by assumption) ?_
  rotate_left 1
  · (intro w hSw; (try dsimp only at hSw); go_simp; try with_reducible rfl)
  try simp only [Act.put, List.setIfInBounds_toArray, List.set_cons_zero, List.set_cons_succ]
  refine wpAnyN_one (i := 7) (o := ⟨some 8, _, _, _, _, _⟩) (by kernel_rfl) rfl (fun K hK => ?_)
  go_simp
  rcases hx : colT (measN C.s) C.L i with f | ⟨j, x⟩
  · rw [hx] at HCOL
    have hcx : RList C (QB C bx) (colT (measN C.s) C.L i >>= fun x => pure (x.1, { q with cols := q.cols ++ [x.2] })) = RList C (QB C bx) (.error f) := by rw [hx]; rfl
    rw [hcx] at HRN
    clear hx hcx
    refine HCOL.out.mono ?_; rintro e w2 ⟨rfl, hb2⟩
    rw [← HRN.out]
    exact ⟨rfl, rfl, hb2⟩
  · rw [hx] at HCOL
    have hcx : RList C (QB C bx) (colT (measN C.s) C.L i >>= fun x => pure (x.1, { q with cols := q.cols ++ [x.2] })) = RList C (QB C bx) (.ok (j, { q with cols := q.cols ++ [x] })) := by rw [hx]; rfl
    rw [hcx] at HRN
    have HX := Lib.hid (colT_ok (meas_few HC.out.chk) hx)
    clear hx hcx
    refine HCOL.out.mono ?_; rintro e w2 ⟨rfl, hm2⟩
    have HR2 := Lib.hid (HR.out.mv hm2 (Nat.le_of_lt HX.out.1))
    have HBX3 := Lib.hid (hm2.kp.blk HBX.out (by have := HLT.out; omega))
    have hRlt : R < w2.heap.size := by rw [← HRR.out]; exact HR2.out.rd.lt
    have hbxlt : bx < w2.heap.size := HBX3.out.lt
    have hB : C.R + 1 ≤ w2.heap.size := HR2.out.rd.lt
    have d0 : w2.cell? ⟨bx, 0, none⟩ = some (.pointer (some ⟨R, 0, none⟩)) := by rw [← HRR.out]; exact HBX3.out.cell 0
    have d8 : w2.cell? ⟨R, 8, none⟩ = some vc := by rw [← HRR.out, Blk.cell HR2.out.rd]; rfl
    have g8 : w2.frozen? ⟨R, 8, none⟩ = false := by rw [← HRR.out]; exact Blk.frozen HR2.out.rd 8
    clear hm2 HCOL c0 c8 f8
    obtain ⟨xk, xm⟩ := x
    unfold colV
    dsimp only
    refine hK.out _ _ (by exact ⟨d0, d8, g8⟩) ?_
    clear hK K hHeld
    intro hHeld
    try simp only [Act.put, List.setIfInBounds_toArray, List.set_cons_zero, List.set_cons_succ]
    refine wpAnyN_one (i := 8) (o := ⟨some 9, _, _, _, _, _⟩) (by kernel_rfl) rfl (fun K hK => ?_)
    go_simp
    have a0 := (World.cell?_alloc_lt w2 (.cells #[.int .i64 xk, .int .i64 xm] 66) ⟨bx, 0, none⟩ hbxlt).trans d0
    have a8 := (World.cell?_alloc_lt w2 (.cells #[.int .i64 xk, .int .i64 xm] 66) ⟨R, 8, none⟩ hRlt).trans d8
    have b8 := ((HR2.out.rd.alloc (.cells #[.int .i64 xk, .int .i64 xm] 66)).frozen 8)
    rw [HRR.out] at b8
    refine hK.out _ _ (by exact ⟨a0, a8, b8⟩) ?_
    clear hK K hHeld
    intro hHeld
    try simp only [Act.put, List.setIfInBounds_toArray, List.set_cons_zero, List.set_cons_succ]
    refine wpAnyN_one (i := 9) (o := ⟨some 10, _, _, _, _, _⟩) (by kernel_rfl) rfl (fun K hK => ?_)
    refine step_append_oneG (z := .agg #[.int .i64 0, .int .i64 0]) (sz := 2) (bytes := 16) info_col rfl (by decide) Try.underlying44 rfl _ _ (by rfl) w2 _ #[.int .i64 xk, .int .i64 xm] (C.R + 1) vc q.cols.length (colCells q.cols) w2.heap.size rfl rfl (by rfl) (by rfl) HR2.out.rc (fun u hu => by simp at hu; rcases hu with rfl | rfl <;> rfl) (by omega) (by unfold maxLen; omega) hB ?_
    intro v' w' h2 h3 h4
    obtain ⟨a3, c3, rfl⟩ := own_form h2
    have hb' := below_grown HR2.out.bl h3 (Nat.le_of_lt HR2.out.rd.lt) (fun g hg => Nat.le_of_succ_le (own_ge HR2.out.rc g hg))
    have HF := Lib.hid (HR2.out.pushC (xk, xm) HX.out.2 (by have := HR.out.len.1; have h0 : i < j := HX.out.1; omega) h2 h3 hb')
    have HBX4 := Lib.hid (blk_other HBX3.out HR2.out.rc (by decide) h3)
    have HRD := Lib.hid (blk_other HR2.out.rd HR2.out.rc (by decide) h3)
    have e0 : w'.cell? ⟨bx, 0, none⟩ = some (.pointer (some ⟨R, 0, none⟩)) := by rw [← HRR.out]; exact HBX4.out.cell 0
    have e8 : w'.cell? ⟨R, 8, none⟩ = some vc := by rw [← HRR.out, Blk.cell HRD.out]; rfl
    have k8 : w'.frozen? ⟨R, 8, none⟩ = false := by rw [← HRR.out]; exact Blk.frozen HRD.out 8
    clear h2 h3 h4 hb' d0 d8 g8
    refine hK.out _ _ (by exact ⟨e0, e8, k8⟩) ?_
    clear hK K hHeld
    intro hHeld
    try simp only [Act.put, List.setIfInBounds_toArray, List.set_cons_zero, List.set_cons_succ]
    refine wpAnyN_take (i := 10) (oi := ⟨some 11, _, _, _, _, _⟩) (v := ?_) rfl (by kernel_rfl) (by kernel_rfl) (by kernel_rfl) (by kernel_rfl) (by kernel_rfl) (fun _ _ _ h => h) (Or.inl ⟨by rfl, ?_⟩) (by assumption) ?_
    rotate_left 1
    · (intro w hSw; (try dsimp only at hSw); go_simp; try with_reducible rfl)
    try simp only [Act.put, List.setIfInBounds_toArray, List.set_cons_zero, List.set_cons_succ]
    refine wpAnyN_take (i := 11) (oi := ⟨some 12, _, _, _, _, _⟩) (v := ?_) rfl (by kernel_rfl) (by kernel_rfl) (by kernel_rfl) (by kernel_rfl) (by kernel_rfl) (fun _ _ _ h => h) (Or.inl ⟨by rfl, ?_⟩) (by assumption) ?_
    rotate_left 1
    · (intro w hSw; (try dsimp only at hSw); go_simp; try with_reducible rfl)
    try simp only [Act.put, List.setIfInBounds_toArray, List.set_cons_zero, List.set_cons_succ]
    refine wpAnyN_take (i := 12) (oi := ⟨some 13, _, _, _, _, _⟩) (v := ?_) rfl (by kernel_rfl) (by kernel_rfl) (by kernel_rfl) (by kernel_rfl) (by kernel_rfl) (fun _ _ _ h => h) (Or.inl ⟨by rfl, ?_⟩) (by assumption) ?_
    rotate_left 1
    · (intro w hSw; (try dsimp only at hSw); go_simp; try with_reducible rfl)
    try simp only [Act.put, List.setIfInBounds_toArray, List.set_cons_zero, List.set_cons_succ]
    refine wpAnyN_late (i := 13) (o := ⟨none, _, _, _, _, _⟩) (by kernel_rfl) (by kernel_rfl) rfl (fun K hK => ?_)
    go_simp
    refine hK.out _ _ ?_
    clear hK K
    try simp only [Act.put, List.setIfInBounds_toArray, List.set_cons_zero, List.set_cons_succ]
    refine wpAnyN_end (by kernel_rfl) ?_
    go_wp2_with fail
    go_end0
    rw [← HRN.out]
    refine ⟨rfl, ⟨vf, .slice a3 (q.cols.length + 1) c3, vo, fl, ?_⟩, ?_, HLT.out⟩
    · rw [← HRR.out]; exact HF.out
    · rw [← HRR.out]; exact HBX4.out.far (by have := HLT.out; show bx ≠ C.R; omega) _

theorem grp_test_fin : ∀ (g : Fin 64) (d : Fin 6), (bits .and .u32 ((g.val : Int) / 2 ^ min d.val 32) 1 == 1) = decide ((g.val : Int) / 2 ^ d.val % 2 = 1) := by decide +kernel
theorem grp_test {g : Int} {d n : Nat} (h0 : 0 ≤ g) (h1 : g < 2 ^ n) (hn : n ≤ 6) (hd : d < n) : (bits .and .u32 (g / 2 ^ min d 32) 1 == 1) = decide (g / 2 ^ d % 2 = 1) := by
  have h2 : g < 64 := by
    have : n = 0 ∨ n = 1 ∨ n = 2 ∨ n = 3 ∨ n = 4 ∨ n = 5 ∨ n = 6 := by omega
    rcases this with rfl | rfl | rfl | rfl | rfl | rfl | rfl <;> omega
  have := grp_test_fin ⟨g.toNat, by omega⟩ ⟨d, by omega⟩
  rw [show ((g.toNat : Nat) : Int) = g by omega] at this
  exact this
theorem grp_or_fin : ∀ (g : Fin 64) (d : Fin 6), ¬ ((g.val : Int) / 2 ^ d.val % 2 = 1) → bits .or .u32 (g.val : Int) (2 ^ min d.val 32 % 4294967296) = g.val + 2 ^ d.val := by decide +kernel
theorem grp_or_lt : ∀ (n : Fin 7) (g : Fin 64) (d : Fin 6), (g.val : Int) < 2 ^ n.val → d.val < n.val → ¬ ((g.val : Int) / 2 ^ d.val % 2 = 1) → (g.val : Int) + 2 ^ d.val < 2 ^ n.val := by decide +kernel
theorem grp_or {g : Int} {d n : Nat} (h0 : 0 ≤ g) (h1 : g < 2 ^ n) (hn : n ≤ 6) (hd : d < n) (hb : ¬ (g / 2 ^ d % 2 = 1)) : bits .or .u32 g (2 ^ min d 32 % 4294967296) = g + 2 ^ d ∧ 0 ≤ g + 2 ^ d ∧ g + 2 ^ d < 2 ^ n := by
  have h2 : g < 64 := by
    have : n = 0 ∨ n = 1 ∨ n = 2 ∨ n = 3 ∨ n = 4 ∨ n = 5 ∨ n = 6 := by omega
    rcases this with rfl | rfl | rfl | rfl | rfl | rfl | rfl <;> omega
  have e : ((g.toNat : Nat) : Int) = g := by omega
  have k1 := grp_or_fin ⟨g.toNat, by omega⟩ ⟨d, by omega⟩
  have k2 := grp_or_lt ⟨n, by omega⟩ ⟨g.toNat, by omega⟩ ⟨d, by omega⟩
  simp only [e] at k1 k2
  have h3 : (0 : Int) ≤ 2 ^ d := by
    have := Nat.two_pow_pos d
    have e : ((2 ^ d : Nat) : Int) = 2 ^ d := by rw [Int.natCast_pow]; rfl
    omega
  exact ⟨k1 hb, by omega, k2 h1 hd hb⟩
theorem QR.setG {C : RC} {j : Nat} {q : QP} {vf vc vo : Value} {fl : List Flt} {w : World} (h : QR C j q vf vc vo fl w) {g : Int} (hg : 0 ≤ g ∧ g < 2 ^ C.s.dims.length) :
    QR C j { q with group := g } vf vc vo fl (w.setCell ⟨C.R, 6, none⟩ (.int .u32 g)) := by
  have hlt := Nat.lt_succ_self C.R
  exact ⟨below_set h.bl (Nat.le_refl _) _, (h.rd.set_ 6 _).to rfl, own_set h.rf hlt _ _, own_set h.rc hlt _ _, own_set h.ro hlt _ _, fun f hf => ⟨(h.rk f hf).1, own_set (h.rk f hf).2 hlt _ _⟩, h.fs, h.len, hg, h.pc, h.po, h.lim, h.flt⟩
theorem QR.setL {C : RC} {j : Nat} {q : QP} {vf vc vo : Value} {fl : List Flt} {w : World} (h : QR C j q vf vc vo fl w) {m : Int} (hm : I64 m) :
    QR C j { q with limit := m } vf vc vo fl (w.setCell ⟨C.R, 10, none⟩ (.int .i64 m)) := by
  have hlt := Nat.lt_succ_self C.R
  exact ⟨below_set h.bl (Nat.le_refl _) _, (h.rd.set_ 10 _).to rfl, own_set h.rf hlt _ _, own_set h.rc hlt _ _, own_set h.ro hlt _ _, fun f hf => ⟨(h.rk f hf).1, own_set (h.rk f hf).2 hlt _ _⟩, h.fs, h.len, h.grp, h.pc, h.po, hm, h.flt⟩
set_option maxRecDepth 100000 in
set_option maxHeartbeats 1000000 in
theorem pgroup_any (C : RC) (hC : C.Ok) (bx i : Nat) (q : QP) (w : World) (hi : i < C.L.length) (hQ : QB C bx i q w) :
    Calls Try.prog 55 #[.pointer (some ⟨C.R, 0, none⟩)] w (RList C (QB C bx) (groupS (dimN C.s) C.L i q)) := by
  obtain ⟨⟨vf, vc, vo, fl, hr⟩, hbx, hlt⟩ := hQ
  have HC := Lib.hid hC
  have HR := Lib.hid hr
  have HBX := Lib.hid hbx
  have HLT := Lib.hid hlt
  have HI := Lib.hid hi
  have c5 : w.cell? ⟨C.R, 5, none⟩ = some (.int .i64 i) := by rw [Blk.cell hr.rd]; rfl
  have HDIM := Lib.hid (pdim_any C hC i hi w hr.at')
  have HFA : Hid (∀ w1, RAt C i w1 → Calls Try.prog 61 #[.pointer (some ⟨C.R, 0, none⟩), .int .i64 (9 : Int)] w1 (Fails C (i, 9))) := Lib.hid (fun w1 hm => fail_any C hC i hi 9 w1 hm)
  clear hC hr hbx hlt hi
  obtain ⟨R, hRR⟩ : ∃ r, C.R = r := ⟨_, rfl⟩
  have HRR := Lib.hid hRR
  rw [hRR] at c5 HDIM HFA ⊢
  clear hRR
  obtain ⟨r, hrr⟩ : ∃ r, RList C (QB C bx) (groupS (dimN C.s) C.L i q) = r := ⟨_, rfl⟩
  rw [hrr]
  have HRN := Lib.hid hrr
  clear hrr
  go_enter Try.func55, Try.ntmps55
  go_wp2_with fail
  rcases hx : nameS (dimN C.s) C.L i with f | ⟨j, d⟩
  · rw [hx] at HDIM
    have hcx : groupS (dimN C.s) C.L i q = .error f := by unfold groupS; rw [hx]; rfl
    rw [hcx] at HRN
    clear hx hcx
    refine HDIM.out.mono ?_; rintro e w2 ⟨rfl, hb2⟩
    have HB2 := Lib.hid hb2
    clear hb2
    go_wp2_with fail
    rw [← HRN.out]
    exact ⟨rfl, rfl, HB2.out⟩
  · rw [hx] at HDIM
    have hcx : groupS (dimN C.s) C.L i q = if q.group / 2 ^ d % 2 = 1 then .error (i, 9) else .ok (j, { q with group := q.group + 2 ^ d }) := by unfold groupS; rw [hx]; rfl
    rw [hcx] at HRN
    have hji := (name_ok hx).1
    have hd : d < C.s.dims.length := by
      have h4 := hx
      unfold nameS at h4
      split at h4
      · split at h4
        · cases h4
        · rename_i hp; cases h4
          have := place_lt (place_mem.1 (Int.not_lt.1 hp))
          have hl : (dimN C.s).length = C.s.dims.length := List.length_map _
          omega
      · cases h4
    clear hx hcx
    refine HDIM.out.mono ?_; rintro e w2 ⟨rfl, hm2⟩
    have HR2 := Lib.hid (HR.out.mv hm2 (by dsimp only at hji ⊢; omega))
    have HBX2 := Lib.hid (hm2.kp.blk HBX.out (by have := HLT.out; omega))
    have c6 : w2.cell? ⟨R, 6, none⟩ = some (.int .u32 q.group) := by rw [← HRR.out, Blk.cell HR2.out.rd]; rfl
    have c5' : w2.cell? ⟨R, 5, none⟩ = some (.int .i64 (j : Int)) := by rw [← HRR.out, Blk.cell HR2.out.rd]; rfl
    have f6 : ∀ o, w2.frozen? ⟨R, o, none⟩ = false := fun o => by rw [← HRR.out]; exact Blk.frozen HR2.out.rd o
    have HOR := Lib.hid (grp_or HR.out.grp.1 HR.out.grp.2 (chk_dims HC.out.chk).1 hd)
    have HTE := Lib.hid (grp_test HR.out.grp.1 HR.out.grp.2 (chk_dims HC.out.chk).1 hd)
    clear hm2 HDIM c5 hd
    by_cases hb : q.group / 2 ^ d % 2 = 1
    · have t1 : (bits BinOp.and IntKind.u32 (q.group / 2 ^ min d 32) 1 == 1) = true := by rw [HTE.out]; exact decide_eq_true hb
      rw [if_pos hb] at HRN
      have hra : RAt C i (w2.setCell ⟨C.R, 5, none⟩ (.int .i64 (i : Int))) := ⟨below_set HR2.out.bl (Nat.le_refl _) _, _, _, _, _, _, (HR2.out.rd.set_ 5 (.int .i64 (i : Int))).to rfl⟩
      rw [HRR.out] at hra
      have HFF := Lib.hid (HFA.out _ hra)
      clear hb hra
      go_wp2_with fail
      refine HFF.out.mono ?_; rintro e w3 ⟨rfl, hb3⟩
      have HB3 := Lib.hid hb3
      clear hb3
      go_wp2_with fail
      rw [← HRN.out]
      exact ⟨rfl, rfl, HB3.out⟩
    · have t1 : (bits BinOp.and IntKind.u32 (q.group / 2 ^ min d 32) 1 == 1) = false := by rw [HTE.out]; exact decide_eq_false hb
      rw [if_neg hb] at HRN
      have HB := Lib.hid hb
      clear hb
      go_wp2_with fail
      go_region
      go_wp2_with fail
      go_end0
      rw [← HRN.out, (HOR.out HB.out).1]
      have HQF := Lib.hid (HR2.out.setG (HOR.out HB.out).2)
      rw [HRR.out] at HQF
      refine ⟨rfl, ⟨vf, vc, vo, fl, HQF.out.drew⟩, ?_, HLT.out⟩
      exact (HBX2.out.far (by have := HLT.out; have := HRR.out; show bx ≠ R; omega) _).drew

set_option maxRecDepth 100000 in
set_option maxHeartbeats 1000000 in
theorem pord_any (C : RC) (hC : C.Ok) (bx i : Nat) (q : QP) (w : World) (hi : i < C.L.length) (hQ : QB C bx i q w) :
    Calls Try.prog 58 #[.pointer (some ⟨C.R, 0, none⟩)] w (RList C (QB C bx) (ordS C.L i q)) := by
  obtain ⟨⟨vf, vc, vo, fl, hr⟩, hbx, hlt⟩ := hQ
  have HC := Lib.hid hC
  have HR := Lib.hid hr
  have HBX := Lib.hid hbx
  have HLT := Lib.hid hlt
  have HI := Lib.hid hi
  have HNUM := Lib.hid (pnumber_any C hC i hi w hr.at')
  have HE : Hid (∀ (j : Nat) (u : ByteArray) (t : List UInt8) (v : Bool), u.data.toList = t → wordAt C.L j t = v → ∀ w1, j < C.L.length → RAt C j w1 → Calls Try.prog 54 #[.pointer (some ⟨C.R, 0, none⟩), .string u] w1 fun e w' => e = .returned (.bool v) ∧ Mv C j (if v then j + 1 else j) w1 w') := Lib.hid (fun j u t v ht hb w1 hj hm => eat_any C hC j hj u v (by rw [ht]; exact hb) w1 hm)
  have hmany := hC.good.many
  have hl : q.ord.length ≤ 1001 := by have := hr.len.2.1; omega
  clear hC hr hbx hlt hi hmany
  obtain ⟨R, hRR⟩ : ∃ r, C.R = r := ⟨_, rfl⟩
  have HRR := Lib.hid hRR
  rw [hRR] at HNUM HE ⊢
  clear hRR
  obtain ⟨r, hrr⟩ : ∃ r, RList C (QB C bx) (ordS C.L i q) = r := ⟨_, rfl⟩
  rw [hrr]
  have HRN := Lib.hid hrr
  clear hrr
  go_enter Try.func58, Try.ntmps58
  go_wp2_with fail
  rcases hx : numT C.L i with f | ⟨j, n⟩
  · rw [hx] at HNUM
    have hcx : ordS C.L i q = .error f := by unfold ordS; rw [hx]; rfl
    rw [hcx] at HRN
    clear hx hcx
    refine HNUM.out.mono ?_; rintro e w2 ⟨rfl, hb2⟩
    have HB2 := Lib.hid hb2
    clear hb2
    go_wp2_with fail
    rw [← HRN.out]
    exact ⟨rfl, rfl, HB2.out⟩
  · rw [hx] at HNUM
    have hcx : ordS C.L i q = if wordAt C.L j [100, 101, 115, 99] = true then .ok (j + 1, { q with ord := q.ord ++ [(n - 1, true)] }) else if wordAt C.L j [97, 115, 99] = true then .ok (j + 1, { q with ord := q.ord ++ [(n - 1, false)] }) else .ok (j, { q with ord := q.ord ++ [(n - 1, false)] }) := by unfold ordS; rw [hx]; rfl
    rw [hcx] at HRN
    have HJI := Lib.hid (num_ok hx).1
    have hn : 0 ≤ n ∧ n ≤ 1000000000000000000 := by
      unfold numT at hx
      split at hx
      · cases hx; exact HC.out.good.num _ (tokAt_mem HI.out).2
      · cases hx
    have HJL := Lib.hid (num_next HC.out.good hx)
    clear hx hcx
    obtain ⟨n0, n1⟩ := hn
    have n2 : -9223372036854775808 ≤ n - 1 := by omega
    have n3 : n - 1 ≤ 9223372036854775807 := by omega
    refine HNUM.out.mono ?_; rintro e w2 ⟨rfl, hm2⟩
    have HM2 := Lib.hid (hm2.alloc (.cells #[.int .i64 (n - 1), .bool false] 71))
    have HBO := Lib.hid (Blk.new w2 71 #[.int .i64 (n - 1), .bool false])
    have HT2 : Hid (C.R < w2.heap.size) := Lib.hid (hm2.rd _ _ _ _ _ HR.out.rd).lt
    have HTW : Hid (w.heap.size ≤ w2.heap.size) := Lib.hid hm2.kp.size
    have HLW : Hid (C.R < w.heap.size) := Lib.hid HR.out.rd.lt
    dsimp only at HJI HJL ⊢
    clear hm2 HNUM
    go_wp2_with fail
    generalize w2.alloc (.cells #[.int .i64 (n - 1), .bool false] 71) = w3 at *
    generalize w2.heap.size = T at *
    obtain ⟨v, hv⟩ : ∃ v, wordAt C.L j [100, 101, 115, 99] = v := ⟨_, rfl⟩
    have HV := Lib.hid hv
    rw [hv] at HRN
    have HEE := Lib.hid (HE.out j ⟨#[100, 101, 115, 99]⟩ _ v rfl hv w3 HJL.out (HR.out.at'.mv HM2.out))
    clear hv
    refine HEE.out.mono ?_; rintro e w4 ⟨rfl, hm4⟩
    have HM4 := Lib.hid (HM2.out.trans hm4)
    have HB4 := Lib.hid (hm4.kp.blk HBO.out (by have := HT2.out; omega))
    clear hm4 HEE HM2 HBO
    rcases v with _ | _
    · rw [if_neg (by decide)] at HRN
      obtain ⟨v, hv⟩ : ∃ v, wordAt C.L j [97, 115, 99] = v := ⟨_, rfl⟩
      have HV2 := Lib.hid hv
      rw [hv] at HRN
      have HEE := Lib.hid (HE.out j ⟨#[97, 115, 99]⟩ _ v rfl hv w4 HJL.out (HR.out.at'.mv HM4.out))
      clear hv
      go_wp2_with fail
      refine HEE.out.mono ?_; rintro e w5 ⟨rfl, hm5⟩
      have HM5 := Lib.hid (HM4.out.trans hm5)
      have HB5 := Lib.hid (hm5.kp.blk HB4.out (by have := HT2.out; omega))
      clear hm5 HEE
      rcases v with _ | _
      · rw [if_neg (by decide)] at HRN
        have HM5 : Hid (Mv C i j w w5) := HM5
        have HJ5 : Hid (i < j) := Lib.hid (by rw [HJI.out]; exact Nat.lt_succ_self _)
        have HR5 := Lib.hid (HR.out.mv HM5.out (Nat.le_of_lt HJ5.out)).drew
        have HB6 := Lib.hid HB5.out.drew
        have HX5 := Lib.hid (HM5.out.kp.blk HBX.out (by have := HLT.out; omega)).drew
        have d0 : w5.drew.cell? ⟨T, 0, none⟩ = some (.int .i64 (n - 1)) := HB6.out.cell 0
        have d1 : w5.drew.cell? ⟨T, 1, none⟩ = some (.bool false) := HB6.out.cell 1
        have d9 : w5.drew.cell? ⟨R, 9, none⟩ = some vo := by rw [← HRR.out, Blk.cell HR5.out.rd]; rfl
        have g9 : w5.drew.frozen? ⟨R, 9, none⟩ = false := by rw [← HRR.out]; exact Blk.frozen HR5.out.rd 9
        have hRlt : R < w5.drew.heap.size := by rw [← HRR.out]; exact HR5.out.rd.lt
        have hTlt : T < w5.drew.heap.size := HB6.out.lt
        have hB : C.R + 1 ≤ w5.drew.heap.size := HR5.out.rd.lt
        go_upto_region 4 with fail
        refine wp_regionN (fun w' => w'.cell? ⟨T, 0, none⟩ = some (.int .i64 (n - 1)) ∧ w'.cell? ⟨T, 1, none⟩ = some (.bool false) ∧ w'.cell? ⟨R, 9, none⟩ = some vo ∧ w'.frozen? ⟨R, 9, none⟩ = false) [12] (by kernel_rfl) (by exact ⟨d0, d1, d9, g9⟩) (fun hHeld => ?_)
        refine wpAnyN_take (i := 0) (oi := ⟨some 12, _, _, _, _, _⟩) (v := ?_) rfl (by kernel_rfl) (by kernel_rfl) (by kernel_rfl) (by kernel_rfl) (by kernel_rfl) (fun _ _ _ h => h) (Or.inl ⟨by rfl, ?_⟩) (by assumption) ?_
        rotate_left 1
        · (intro w hSw; (try dsimp only at hSw); go_simp; try with_reducible rfl)
        try simp only [Act.put, List.setIfInBounds_toArray, List.set_cons_zero, List.set_cons_succ]
        refine wpAnyN_take (i := 1) (oi := ⟨some 13, _, _, _, _, _⟩) (v := ?_) rfl (by kernel_rfl) (by kernel_rfl) (by kernel_rfl) (by kernel_rfl) (by kernel_rfl) (fun _ _ _ h => h) (Or.inl ⟨by rfl, ?_⟩) (by assumption) ?_
        rotate_left 1
        · (intro w hSw; (try dsimp only at hSw); go_simp; try with_reducible rfl)
        try simp only [Act.put, List.setIfInBounds_toArray, List.set_cons_zero, List.set_cons_succ]
        refine wpAnyN_take (i := 2) (oi := ⟨some 14, _, _, _, _, _⟩) (v := ?_) rfl (by kernel_rfl) (by kernel_rfl) (by kernel_rfl) (by kernel_rfl) (by kernel_rfl) (fun _ _ _ h => h) (Or.inl ⟨by rfl, ?_⟩) (by assumption) ?_
        rotate_left 1
        · (intro w hSw; (try dsimp only at hSw); go_simp; try with_reducible rfl)
        try simp only [Act.put, List.setIfInBounds_toArray, List.set_cons_zero, List.set_cons_succ]
        refine wpAnyN_take (i := 3) (oi := ⟨some 15, _, _, _, _, _⟩) (v := ?_) rfl (by kernel_rfl) (by kernel_rfl) (by kernel_rfl) (by kernel_rfl) (by kernel_rfl) (fun _ _ _ h => h) (Or.inl ⟨by rfl, ?_⟩) (by assumption) ?_
        rotate_left 1
        · (intro w hSw; (try dsimp only at hSw); go_simp; try with_reducible rfl)
        try simp only [Act.put, List.setIfInBounds_toArray, List.set_cons_zero, List.set_cons_succ]
        refine wpAnyN_take (i := 4) (oi := ⟨some 16, _, _, _, _, _⟩) (v := ?_) rfl (by kernel_rfl) (by kernel_rfl) (by kernel_rfl) (by kernel_rfl) (by kernel_rfl) (fun _ _ _ h => h) (Or.inl ⟨by rfl, ?_⟩) (by assumption) ?_
        rotate_left 1
        · (intro w hSw; (try dsimp only at hSw); go_simp; try with_reducible rfl)
        try simp only [Act.put, List.setIfInBounds_toArray, List.set_cons_zero, List.set_cons_succ]
        refine wpAnyN_take (i := 5) (oi := ⟨some 17, _, _, _, _, _⟩) (v := ?_) rfl (by kernel_rfl) (by kernel_rfl) (by kernel_rfl) (by kernel_rfl) (by kernel_rfl) (fun _ _ _ h => h) (Or.inl ⟨by rfl, ?_⟩) (by assumption) ?_
        rotate_left 1
        · (intro w hSw; (try dsimp only at hSw); go_simp; try with_reducible rfl)
        try simp only [Act.put, List.setIfInBounds_toArray, List.set_cons_zero, List.set_cons_succ]
        refine wpAnyN_take (i := 6) (oi := ⟨some 18, _, _, _, _, _⟩) (v := ?_) rfl (by kernel_rfl) (by kernel_rfl) (by kernel_rfl) (by kernel_rfl) (by kernel_rfl) (fun _ _ _ h => h) (Or.inl ⟨by rfl, ?_⟩) (by assumption) ?_
        rotate_left 1
        · (intro w hSw; (try dsimp only at hSw); go_simp; try with_reducible rfl)
        try simp only [Act.put, List.setIfInBounds_toArray, List.set_cons_zero, List.set_cons_succ]
        refine wpAnyN_one (i := 7) (o := ⟨some 19, _, _, _, _, _⟩) (by kernel_rfl) rfl (fun K hK => ?_)
        go_simp
        have a0 := (World.cell?_alloc_lt w5.drew (.cells #[.int .i64 (n - 1), .bool false] 71) ⟨T, 0, none⟩ hTlt).trans d0
        have a1 := (World.cell?_alloc_lt w5.drew (.cells #[.int .i64 (n - 1), .bool false] 71) ⟨T, 1, none⟩ hTlt).trans d1
        have a9 := (World.cell?_alloc_lt w5.drew (.cells #[.int .i64 (n - 1), .bool false] 71) ⟨R, 9, none⟩ hRlt).trans d9
        have b9 := ((HR5.out.rd.alloc (.cells #[.int .i64 (n - 1), .bool false] 71)).frozen 9)
        rw [HRR.out] at b9
        refine hK.out _ _ (by exact ⟨a0, a1, a9, b9⟩) ?_
        clear hK K hHeld
        intro hHeld
        try simp only [Act.put, List.setIfInBounds_toArray, List.set_cons_zero, List.set_cons_succ]
        refine wpAnyN_one (i := 8) (o := ⟨some 20, _, _, _, _, _⟩) (by kernel_rfl) rfl (fun K hK => ?_)
        refine step_append_oneG (z := .agg #[.int .i64 0, .bool false]) (sz := 2) (bytes := 16) info_sort rfl (by decide) Try.underlying45 rfl _ _ (by rfl) w5.drew _ #[.int .i64 (n - 1), .bool false] (C.R + 1) vo q.ord.length (ordCells q.ord) w5.drew.heap.size rfl rfl (by rfl) (by rfl) HR5.out.ro (fun u hu => by simp at hu; rcases hu with rfl | rfl <;> rfl) (by omega) (by unfold maxLen; omega) hB ?_
        intro v' w' h2 h3 h4
        obtain ⟨a3, c3, rfl⟩ := own_form h2
        have hb' := below_grown HR5.out.bl h3 (Nat.le_of_lt HR5.out.rd.lt) (fun g hg => Nat.le_of_succ_le (own_ge HR5.out.ro g hg))
        have HF := Lib.hid (HR5.out.pushO (n - 1, false) ⟨n2, n3⟩ (by have := HR.out.len.2.1; have := HJ5.out; omega) h2 h3 hb')
        have HX6 := Lib.hid (blk_other HX5.out HR5.out.ro (by decide) h3)
        have HRD := Lib.hid (blk_other HR5.out.rd HR5.out.ro (by decide) h3)
        have HTB : Hid (Blk w' T 71 #[.int .i64 (n - 1), .bool false]) := Lib.hid ((h3.block T hTlt (fun e => by have := (World.ownsRow.lt HR.out.ro T e.symm).2; have := HTW.out; omega)).trans HB6.out)
        have e0 : w'.cell? ⟨T, 0, none⟩ = some (.int .i64 (n - 1)) := HTB.out.cell 0
        have e1 : w'.cell? ⟨T, 1, none⟩ = some (.bool false) := HTB.out.cell 1
        have e9 : w'.cell? ⟨R, 9, none⟩ = some vo := by rw [← HRR.out, Blk.cell HRD.out]; rfl
        have k9 : w'.frozen? ⟨R, 9, none⟩ = false := by rw [← HRR.out]; exact Blk.frozen HRD.out 9
        clear h2 h3 h4 hb' d0 d1 d9 g9
        refine hK.out _ _ (by exact ⟨e0, e1, e9, k9⟩) ?_
        clear hK K hHeld
        intro hHeld
        try simp only [Act.put, List.setIfInBounds_toArray, List.set_cons_zero, List.set_cons_succ]
        refine wpAnyN_take (i := 9) (oi := ⟨some 21, _, _, _, _, _⟩) (v := ?_) rfl (by kernel_rfl) (by kernel_rfl) (by kernel_rfl) (by kernel_rfl) (by kernel_rfl) (fun _ _ _ h => h) (Or.inl ⟨by rfl, ?_⟩) (by assumption) ?_
        rotate_left 1
        · (intro w hSw; (try dsimp only at hSw); go_simp; try with_reducible rfl)
        try simp only [Act.put, List.setIfInBounds_toArray, List.set_cons_zero, List.set_cons_succ]
        refine wpAnyN_take (i := 10) (oi := ⟨some 22, _, _, _, _, _⟩) (v := ?_) rfl (by kernel_rfl) (by kernel_rfl) (by kernel_rfl) (by kernel_rfl) (by kernel_rfl) (fun _ _ _ h => h) (Or.inl ⟨by rfl, ?_⟩) (by assumption) ?_
        rotate_left 1
        · (intro w hSw; (try dsimp only at hSw); go_simp; try with_reducible rfl)
        try simp only [Act.put, List.setIfInBounds_toArray, List.set_cons_zero, List.set_cons_succ]
        refine wpAnyN_take (i := 11) (oi := ⟨some 23, _, _, _, _, _⟩) (v := ?_) rfl (by kernel_rfl) (by kernel_rfl) (by kernel_rfl) (by kernel_rfl) (by kernel_rfl) (fun _ _ _ h => h) (Or.inl ⟨by rfl, ?_⟩) (by assumption) ?_
        rotate_left 1
        · (intro w hSw; (try dsimp only at hSw); go_simp; try with_reducible rfl)
        try simp only [Act.put, List.setIfInBounds_toArray, List.set_cons_zero, List.set_cons_succ]
        refine wpAnyN_late (i := 12) (o := ⟨none, _, _, _, _, _⟩) (by kernel_rfl) (by kernel_rfl) rfl (fun K hK => ?_)
        go_simp
        refine hK.out _ _ ?_
        clear hK K
        try simp only [Act.put, List.setIfInBounds_toArray, List.set_cons_zero, List.set_cons_succ]
        refine wpAnyN_end (by kernel_rfl) ?_
        go_wp2_with fail
        go_end0
        rw [← HRN.out]
        refine ⟨rfl, ⟨vf, vc, .slice a3 (q.ord.length + 1) c3, fl, ?_⟩, ?_, HLT.out⟩
        · rw [← HRR.out]; exact HF.out
        · rw [← HRR.out]; exact HX6.out.far (by have := HLT.out; show bx ≠ C.R; omega) _
      · rw [if_pos rfl] at HRN
        have HM5 : Hid (Mv C i (j + 1) w w5) := HM5
        have HJ5 : Hid (i < j + 1) := Lib.hid (by rw [HJI.out]; omega)
        have HR5 := Lib.hid (HR.out.mv HM5.out (Nat.le_of_lt HJ5.out)).drew
        have HB6 := Lib.hid HB5.out.drew
        have HX5 := Lib.hid (HM5.out.kp.blk HBX.out (by have := HLT.out; omega)).drew
        have d0 : w5.drew.cell? ⟨T, 0, none⟩ = some (.int .i64 (n - 1)) := HB6.out.cell 0
        have d1 : w5.drew.cell? ⟨T, 1, none⟩ = some (.bool false) := HB6.out.cell 1
        have d9 : w5.drew.cell? ⟨R, 9, none⟩ = some vo := by rw [← HRR.out, Blk.cell HR5.out.rd]; rfl
        have g9 : w5.drew.frozen? ⟨R, 9, none⟩ = false := by rw [← HRR.out]; exact Blk.frozen HR5.out.rd 9
        have hRlt : R < w5.drew.heap.size := by rw [← HRR.out]; exact HR5.out.rd.lt
        have hTlt : T < w5.drew.heap.size := HB6.out.lt
        have hB : C.R + 1 ≤ w5.drew.heap.size := HR5.out.rd.lt
        go_upto_region 4 with fail
        refine wp_regionN (fun w' => w'.cell? ⟨T, 0, none⟩ = some (.int .i64 (n - 1)) ∧ w'.cell? ⟨T, 1, none⟩ = some (.bool false) ∧ w'.cell? ⟨R, 9, none⟩ = some vo ∧ w'.frozen? ⟨R, 9, none⟩ = false) [12] (by kernel_rfl) (by exact ⟨d0, d1, d9, g9⟩) (fun hHeld => ?_)
        refine wpAnyN_take (i := 0) (oi := ⟨some 12, _, _, _, _, _⟩) (v := ?_) rfl (by kernel_rfl) (by kernel_rfl) (by kernel_rfl) (by kernel_rfl) (by kernel_rfl) (fun _ _ _ h => h) (Or.inl ⟨by rfl, ?_⟩) (by assumption) ?_
        rotate_left 1
        · (intro w hSw; (try dsimp only at hSw); go_simp; try with_reducible rfl)
        try simp only [Act.put, List.setIfInBounds_toArray, List.set_cons_zero, List.set_cons_succ]
        refine wpAnyN_take (i := 1) (oi := ⟨some 13, _, _, _, _, _⟩) (v := ?_) rfl (by kernel_rfl) (by kernel_rfl) (by kernel_rfl) (by kernel_rfl) (by kernel_rfl) (fun _ _ _ h => h) (Or.inl ⟨by rfl, ?_⟩) (by assumption) ?_
        rotate_left 1
        · (intro w hSw; (try dsimp only at hSw); go_simp; try with_reducible rfl)
        try simp only [Act.put, List.setIfInBounds_toArray, List.set_cons_zero, List.set_cons_succ]
        refine wpAnyN_take (i := 2) (oi := ⟨some 14, _, _, _, _, _⟩) (v := ?_) rfl (by kernel_rfl) (by kernel_rfl) (by kernel_rfl) (by kernel_rfl) (by kernel_rfl) (fun _ _ _ h => h) (Or.inl ⟨by rfl, ?_⟩) (by assumption) ?_
        rotate_left 1
        · (intro w hSw; (try dsimp only at hSw); go_simp; try with_reducible rfl)
        try simp only [Act.put, List.setIfInBounds_toArray, List.set_cons_zero, List.set_cons_succ]
        refine wpAnyN_take (i := 3) (oi := ⟨some 15, _, _, _, _, _⟩) (v := ?_) rfl (by kernel_rfl) (by kernel_rfl) (by kernel_rfl) (by kernel_rfl) (by kernel_rfl) (fun _ _ _ h => h) (Or.inl ⟨by rfl, ?_⟩) (by assumption) ?_
        rotate_left 1
        · (intro w hSw; (try dsimp only at hSw); go_simp; try with_reducible rfl)
        try simp only [Act.put, List.setIfInBounds_toArray, List.set_cons_zero, List.set_cons_succ]
        refine wpAnyN_take (i := 4) (oi := ⟨some 16, _, _, _, _, _⟩) (v := ?_) rfl (by kernel_rfl) (by kernel_rfl) (by kernel_rfl) (by kernel_rfl) (by kernel_rfl) (fun _ _ _ h => h) (Or.inl ⟨by rfl, ?_⟩) (by assumption) ?_
        rotate_left 1
        · (intro w hSw; (try dsimp only at hSw); go_simp; try with_reducible rfl)
        try simp only [Act.put, List.setIfInBounds_toArray, List.set_cons_zero, List.set_cons_succ]
        refine wpAnyN_take (i := 5) (oi := ⟨some 17, _, _, _, _, _⟩) (v := ?_) rfl (by kernel_rfl) (by kernel_rfl) (by kernel_rfl) (by kernel_rfl) (by kernel_rfl) (fun _ _ _ h => h) (Or.inl ⟨by rfl, ?_⟩) (by assumption) ?_
        rotate_left 1
        · (intro w hSw; (try dsimp only at hSw); go_simp; try with_reducible rfl)
        try simp only [Act.put, List.setIfInBounds_toArray, List.set_cons_zero, List.set_cons_succ]
        refine wpAnyN_take (i := 6) (oi := ⟨some 18, _, _, _, _, _⟩) (v := ?_) rfl (by kernel_rfl) (by kernel_rfl) (by kernel_rfl) (by kernel_rfl) (by kernel_rfl) (fun _ _ _ h => h) (Or.inl ⟨by rfl, ?_⟩) (by assumption) ?_
        rotate_left 1
        · (intro w hSw; (try dsimp only at hSw); go_simp; try with_reducible rfl)
        try simp only [Act.put, List.setIfInBounds_toArray, List.set_cons_zero, List.set_cons_succ]
        refine wpAnyN_one (i := 7) (o := ⟨some 19, _, _, _, _, _⟩) (by kernel_rfl) rfl (fun K hK => ?_)
        go_simp
        have a0 := (World.cell?_alloc_lt w5.drew (.cells #[.int .i64 (n - 1), .bool false] 71) ⟨T, 0, none⟩ hTlt).trans d0
        have a1 := (World.cell?_alloc_lt w5.drew (.cells #[.int .i64 (n - 1), .bool false] 71) ⟨T, 1, none⟩ hTlt).trans d1
        have a9 := (World.cell?_alloc_lt w5.drew (.cells #[.int .i64 (n - 1), .bool false] 71) ⟨R, 9, none⟩ hRlt).trans d9
        have b9 := ((HR5.out.rd.alloc (.cells #[.int .i64 (n - 1), .bool false] 71)).frozen 9)
        rw [HRR.out] at b9
        refine hK.out _ _ (by exact ⟨a0, a1, a9, b9⟩) ?_
        clear hK K hHeld
        intro hHeld
        try simp only [Act.put, List.setIfInBounds_toArray, List.set_cons_zero, List.set_cons_succ]
        refine wpAnyN_one (i := 8) (o := ⟨some 20, _, _, _, _, _⟩) (by kernel_rfl) rfl (fun K hK => ?_)
        refine step_append_oneG (z := .agg #[.int .i64 0, .bool false]) (sz := 2) (bytes := 16) info_sort rfl (by decide) Try.underlying45 rfl _ _ (by rfl) w5.drew _ #[.int .i64 (n - 1), .bool false] (C.R + 1) vo q.ord.length (ordCells q.ord) w5.drew.heap.size rfl rfl (by rfl) (by rfl) HR5.out.ro (fun u hu => by simp at hu; rcases hu with rfl | rfl <;> rfl) (by omega) (by unfold maxLen; omega) hB ?_
        intro v' w' h2 h3 h4
        obtain ⟨a3, c3, rfl⟩ := own_form h2
        have hb' := below_grown HR5.out.bl h3 (Nat.le_of_lt HR5.out.rd.lt) (fun g hg => Nat.le_of_succ_le (own_ge HR5.out.ro g hg))
        have HF := Lib.hid (HR5.out.pushO (n - 1, false) ⟨n2, n3⟩ (by have := HR.out.len.2.1; have := HJ5.out; omega) h2 h3 hb')
        have HX6 := Lib.hid (blk_other HX5.out HR5.out.ro (by decide) h3)
        have HRD := Lib.hid (blk_other HR5.out.rd HR5.out.ro (by decide) h3)
        have HTB : Hid (Blk w' T 71 #[.int .i64 (n - 1), .bool false]) := Lib.hid ((h3.block T hTlt (fun e => by have := (World.ownsRow.lt HR.out.ro T e.symm).2; have := HTW.out; omega)).trans HB6.out)
        have e0 : w'.cell? ⟨T, 0, none⟩ = some (.int .i64 (n - 1)) := HTB.out.cell 0
        have e1 : w'.cell? ⟨T, 1, none⟩ = some (.bool false) := HTB.out.cell 1
        have e9 : w'.cell? ⟨R, 9, none⟩ = some vo := by rw [← HRR.out, Blk.cell HRD.out]; rfl
        have k9 : w'.frozen? ⟨R, 9, none⟩ = false := by rw [← HRR.out]; exact Blk.frozen HRD.out 9
        clear h2 h3 h4 hb' d0 d1 d9 g9
        refine hK.out _ _ (by exact ⟨e0, e1, e9, k9⟩) ?_
        clear hK K hHeld
        intro hHeld
        try simp only [Act.put, List.setIfInBounds_toArray, List.set_cons_zero, List.set_cons_succ]
        refine wpAnyN_take (i := 9) (oi := ⟨some 21, _, _, _, _, _⟩) (v := ?_) rfl (by kernel_rfl) (by kernel_rfl) (by kernel_rfl) (by kernel_rfl) (by kernel_rfl) (fun _ _ _ h => h) (Or.inl ⟨by rfl, ?_⟩) (by assumption) ?_
        rotate_left 1
        · (intro w hSw; (try dsimp only at hSw); go_simp; try with_reducible rfl)
        try simp only [Act.put, List.setIfInBounds_toArray, List.set_cons_zero, List.set_cons_succ]
        refine wpAnyN_take (i := 10) (oi := ⟨some 22, _, _, _, _, _⟩) (v := ?_) rfl (by kernel_rfl) (by kernel_rfl) (by kernel_rfl) (by kernel_rfl) (by kernel_rfl) (fun _ _ _ h => h) (Or.inl ⟨by rfl, ?_⟩) (by assumption) ?_
        rotate_left 1
        · (intro w hSw; (try dsimp only at hSw); go_simp; try with_reducible rfl)
        try simp only [Act.put, List.setIfInBounds_toArray, List.set_cons_zero, List.set_cons_succ]
        refine wpAnyN_take (i := 11) (oi := ⟨some 23, _, _, _, _, _⟩) (v := ?_) rfl (by kernel_rfl) (by kernel_rfl) (by kernel_rfl) (by kernel_rfl) (by kernel_rfl) (fun _ _ _ h => h) (Or.inl ⟨by rfl, ?_⟩) (by assumption) ?_
        rotate_left 1
        · (intro w hSw; (try dsimp only at hSw); go_simp; try with_reducible rfl)
        try simp only [Act.put, List.setIfInBounds_toArray, List.set_cons_zero, List.set_cons_succ]
        refine wpAnyN_late (i := 12) (o := ⟨none, _, _, _, _, _⟩) (by kernel_rfl) (by kernel_rfl) rfl (fun K hK => ?_)
        go_simp
        refine hK.out _ _ ?_
        clear hK K
        try simp only [Act.put, List.setIfInBounds_toArray, List.set_cons_zero, List.set_cons_succ]
        refine wpAnyN_end (by kernel_rfl) ?_
        go_wp2_with fail
        go_end0
        rw [← HRN.out]
        refine ⟨rfl, ⟨vf, vc, .slice a3 (q.ord.length + 1) c3, fl, ?_⟩, ?_, HLT.out⟩
        · rw [← HRR.out]; exact HF.out
        · rw [← HRR.out]; exact HX6.out.far (by have := HLT.out; show bx ≠ C.R; omega) _
    · rw [if_pos rfl] at HRN
      have c1 : w4.cell? ⟨T, 1, none⟩ = some (.bool false) := HB4.out.cell 1
      have f1 : w4.frozen? ⟨T, 1, none⟩ = false := HB4.out.frozen 1
      go_wp2_with fail
      have HB5 : Hid (Blk (w4.setCell ⟨T, 1, none⟩ (.bool true)) T 71 #[.int .i64 (n - 1), .bool true]) := Lib.hid (HB4.out.set_ 1 _)
      have HM5 : Hid (Mv C i (j + 1) w (w4.setCell ⟨T, 1, none⟩ (.bool true))) := Lib.hid (HM4.out.far (by have := HTW.out; exact this) HLW.out _)
      have HJ5 : Hid (i < j + 1) := Lib.hid (by rw [HJI.out]; omega)
      generalize w4.setCell ⟨T, 1, none⟩ (.bool true) = w5 at *
      clear c1 f1
      have HR5 := Lib.hid (HR.out.mv HM5.out (Nat.le_of_lt HJ5.out)).drew
      have HB6 := Lib.hid HB5.out.drew
      have HX5 := Lib.hid (HM5.out.kp.blk HBX.out (by have := HLT.out; omega)).drew
      have d0 : w5.drew.cell? ⟨T, 0, none⟩ = some (.int .i64 (n - 1)) := HB6.out.cell 0
      have d1 : w5.drew.cell? ⟨T, 1, none⟩ = some (.bool true) := HB6.out.cell 1
      have d9 : w5.drew.cell? ⟨R, 9, none⟩ = some vo := by rw [← HRR.out, Blk.cell HR5.out.rd]; rfl
      have g9 : w5.drew.frozen? ⟨R, 9, none⟩ = false := by rw [← HRR.out]; exact Blk.frozen HR5.out.rd 9
      have hRlt : R < w5.drew.heap.size := by rw [← HRR.out]; exact HR5.out.rd.lt
      have hTlt : T < w5.drew.heap.size := HB6.out.lt
      have hB : C.R + 1 ≤ w5.drew.heap.size := HR5.out.rd.lt
      go_upto_region 4 with fail
      refine wp_regionN (fun w' => w'.cell? ⟨T, 0, none⟩ = some (.int .i64 (n - 1)) ∧ w'.cell? ⟨T, 1, none⟩ = some (.bool true) ∧ w'.cell? ⟨R, 9, none⟩ = some vo ∧ w'.frozen? ⟨R, 9, none⟩ = false) [12] (by kernel_rfl) (by exact ⟨d0, d1, d9, g9⟩) (fun hHeld => ?_)
      refine wpAnyN_take (i := 0) (oi := ⟨some 12, _, _, _, _, _⟩) (v := ?_) rfl (by kernel_rfl) (by kernel_rfl) (by kernel_rfl) (by kernel_rfl) (by kernel_rfl) (fun _ _ _ h => h) (Or.inl ⟨by rfl, ?_⟩) (by assumption) ?_
      rotate_left 1
      · (intro w hSw; (try dsimp only at hSw); go_simp; try with_reducible rfl)
      try simp only [Act.put, List.setIfInBounds_toArray, List.set_cons_zero, List.set_cons_succ]
      refine wpAnyN_take (i := 1) (oi := ⟨some 13, _, _, _, _, _⟩) (v := ?_) rfl (by kernel_rfl) (by kernel_rfl) (by kernel_rfl) (by kernel_rfl) (by kernel_rfl) (fun _ _ _ h => h) (Or.inl ⟨by rfl, ?_⟩) (by assumption) ?_
      rotate_left 1
      · (intro w hSw; (try dsimp only at hSw); go_simp; try with_reducible rfl)
      try simp only [Act.put, List.setIfInBounds_toArray, List.set_cons_zero, List.set_cons_succ]
      refine wpAnyN_take (i := 2) (oi := ⟨some 14, _, _, _, _, _⟩) (v := ?_) rfl (by kernel_rfl) (by kernel_rfl) (by kernel_rfl) (by kernel_rfl) (by kernel_rfl) (fun _ _ _ h => h) (Or.inl ⟨by rfl, ?_⟩) (by assumption) ?_
      rotate_left 1
      · (intro w hSw; (try dsimp only at hSw); go_simp; try with_reducible rfl)
      try simp only [Act.put, List.setIfInBounds_toArray, List.set_cons_zero, List.set_cons_succ]
      refine wpAnyN_take (i := 3) (oi := ⟨some 15, _, _, _, _, _⟩) (v := ?_) rfl (by kernel_rfl) (by kernel_rfl) (by kernel_rfl) (by kernel_rfl) (by kernel_rfl) (fun _ _ _ h => h) (Or.inl ⟨by rfl, ?_⟩) (by assumption) ?_
      rotate_left 1
      · (intro w hSw; (try dsimp only at hSw); go_simp; try with_reducible rfl)
      try simp only [Act.put, List.setIfInBounds_toArray, List.set_cons_zero, List.set_cons_succ]
      refine wpAnyN_take (i := 4) (oi := ⟨some 16, _, _, _, _, _⟩) (v := ?_) rfl (by kernel_rfl) (by kernel_rfl) (by kernel_rfl) (by kernel_rfl) (by kernel_rfl) (fun _ _ _ h => h) (Or.inl ⟨by rfl, ?_⟩) (by assumption) ?_
      rotate_left 1
      · (intro w hSw; (try dsimp only at hSw); go_simp; try with_reducible rfl)
      try simp only [Act.put, List.setIfInBounds_toArray, List.set_cons_zero, List.set_cons_succ]
      refine wpAnyN_take (i := 5) (oi := ⟨some 17, _, _, _, _, _⟩) (v := ?_) rfl (by kernel_rfl) (by kernel_rfl) (by kernel_rfl) (by kernel_rfl) (by kernel_rfl) (fun _ _ _ h => h) (Or.inl ⟨by rfl, ?_⟩) (by assumption) ?_
      rotate_left 1
      · (intro w hSw; (try dsimp only at hSw); go_simp; try with_reducible rfl)
      try simp only [Act.put, List.setIfInBounds_toArray, List.set_cons_zero, List.set_cons_succ]
      refine wpAnyN_take (i := 6) (oi := ⟨some 18, _, _, _, _, _⟩) (v := ?_) rfl (by kernel_rfl) (by kernel_rfl) (by kernel_rfl) (by kernel_rfl) (by kernel_rfl) (fun _ _ _ h => h) (Or.inl ⟨by rfl, ?_⟩) (by assumption) ?_
      rotate_left 1
      · (intro w hSw; (try dsimp only at hSw); go_simp; try with_reducible rfl)
      try simp only [Act.put, List.setIfInBounds_toArray, List.set_cons_zero, List.set_cons_succ]
      refine wpAnyN_one (i := 7) (o := ⟨some 19, _, _, _, _, _⟩) (by kernel_rfl) rfl (fun K hK => ?_)
      go_simp
      have a0 := (World.cell?_alloc_lt w5.drew (.cells #[.int .i64 (n - 1), .bool true] 71) ⟨T, 0, none⟩ hTlt).trans d0
      have a1 := (World.cell?_alloc_lt w5.drew (.cells #[.int .i64 (n - 1), .bool true] 71) ⟨T, 1, none⟩ hTlt).trans d1
      have a9 := (World.cell?_alloc_lt w5.drew (.cells #[.int .i64 (n - 1), .bool true] 71) ⟨R, 9, none⟩ hRlt).trans d9
      have b9 := ((HR5.out.rd.alloc (.cells #[.int .i64 (n - 1), .bool true] 71)).frozen 9)
      rw [HRR.out] at b9
      refine hK.out _ _ (by exact ⟨a0, a1, a9, b9⟩) ?_
      clear hK K hHeld
      intro hHeld
      try simp only [Act.put, List.setIfInBounds_toArray, List.set_cons_zero, List.set_cons_succ]
      refine wpAnyN_one (i := 8) (o := ⟨some 20, _, _, _, _, _⟩) (by kernel_rfl) rfl (fun K hK => ?_)
      refine step_append_oneG (z := .agg #[.int .i64 0, .bool false]) (sz := 2) (bytes := 16) info_sort rfl (by decide) Try.underlying45 rfl _ _ (by rfl) w5.drew _ #[.int .i64 (n - 1), .bool true] (C.R + 1) vo q.ord.length (ordCells q.ord) w5.drew.heap.size rfl rfl (by rfl) (by rfl) HR5.out.ro (fun u hu => by simp at hu; rcases hu with rfl | rfl <;> rfl) (by omega) (by unfold maxLen; omega) hB ?_
      intro v' w' h2 h3 h4
      obtain ⟨a3, c3, rfl⟩ := own_form h2
      have hb' := below_grown HR5.out.bl h3 (Nat.le_of_lt HR5.out.rd.lt) (fun g hg => Nat.le_of_succ_le (own_ge HR5.out.ro g hg))
      have HF := Lib.hid (HR5.out.pushO (n - 1, true) ⟨n2, n3⟩ (by have := HR.out.len.2.1; have := HJ5.out; omega) h2 h3 hb')
      have HX6 := Lib.hid (blk_other HX5.out HR5.out.ro (by decide) h3)
      have HRD := Lib.hid (blk_other HR5.out.rd HR5.out.ro (by decide) h3)
      have HTB : Hid (Blk w' T 71 #[.int .i64 (n - 1), .bool true]) := Lib.hid ((h3.block T hTlt (fun e => by have := (World.ownsRow.lt HR.out.ro T e.symm).2; have := HTW.out; omega)).trans HB6.out)
      have e0 : w'.cell? ⟨T, 0, none⟩ = some (.int .i64 (n - 1)) := HTB.out.cell 0
      have e1 : w'.cell? ⟨T, 1, none⟩ = some (.bool true) := HTB.out.cell 1
      have e9 : w'.cell? ⟨R, 9, none⟩ = some vo := by rw [← HRR.out, Blk.cell HRD.out]; rfl
      have k9 : w'.frozen? ⟨R, 9, none⟩ = false := by rw [← HRR.out]; exact Blk.frozen HRD.out 9
      clear h2 h3 h4 hb' d0 d1 d9 g9
      refine hK.out _ _ (by exact ⟨e0, e1, e9, k9⟩) ?_
      clear hK K hHeld
      intro hHeld
      try simp only [Act.put, List.setIfInBounds_toArray, List.set_cons_zero, List.set_cons_succ]
      refine wpAnyN_take (i := 9) (oi := ⟨some 21, _, _, _, _, _⟩) (v := ?_) rfl (by kernel_rfl) (by kernel_rfl) (by kernel_rfl) (by kernel_rfl) (by kernel_rfl) (fun _ _ _ h => h) (Or.inl ⟨by rfl, ?_⟩) (by assumption) ?_
      rotate_left 1
      · (intro w hSw; (try dsimp only at hSw); go_simp; try with_reducible rfl)
      try simp only [Act.put, List.setIfInBounds_toArray, List.set_cons_zero, List.set_cons_succ]
      refine wpAnyN_take (i := 10) (oi := ⟨some 22, _, _, _, _, _⟩) (v := ?_) rfl (by kernel_rfl) (by kernel_rfl) (by kernel_rfl) (by kernel_rfl) (by kernel_rfl) (fun _ _ _ h => h) (Or.inl ⟨by rfl, ?_⟩) (by assumption) ?_
      rotate_left 1
      · (intro w hSw; (try dsimp only at hSw); go_simp; try with_reducible rfl)
      try simp only [Act.put, List.setIfInBounds_toArray, List.set_cons_zero, List.set_cons_succ]
      refine wpAnyN_take (i := 11) (oi := ⟨some 23, _, _, _, _, _⟩) (v := ?_) rfl (by kernel_rfl) (by kernel_rfl) (by kernel_rfl) (by kernel_rfl) (by kernel_rfl) (fun _ _ _ h => h) (Or.inl ⟨by rfl, ?_⟩) (by assumption) ?_
      rotate_left 1
      · (intro w hSw; (try dsimp only at hSw); go_simp; try with_reducible rfl)
      try simp only [Act.put, List.setIfInBounds_toArray, List.set_cons_zero, List.set_cons_succ]
      refine wpAnyN_late (i := 12) (o := ⟨none, _, _, _, _, _⟩) (by kernel_rfl) (by kernel_rfl) rfl (fun K hK => ?_)
      go_simp
      refine hK.out _ _ ?_
      clear hK K
      try simp only [Act.put, List.setIfInBounds_toArray, List.set_cons_zero, List.set_cons_succ]
      refine wpAnyN_end (by kernel_rfl) ?_
      go_wp2_with fail
      go_end0
      rw [← HRN.out]
      refine ⟨rfl, ⟨vf, vc, .slice a3 (q.ord.length + 1) c3, fl, ?_⟩, ?_, HLT.out⟩
      · rw [← HRR.out]; exact HF.out
      · rw [← HRR.out]; exact HX6.out.far (by have := HLT.out; show bx ≠ C.R; omega) _
end Go.Proofs.Ytaofjnidniekjaa
