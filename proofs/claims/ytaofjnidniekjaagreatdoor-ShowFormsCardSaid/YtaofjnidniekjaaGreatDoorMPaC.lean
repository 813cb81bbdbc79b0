/- What the reader of package parse does with a column, with a name behind by, and with what rows are put in order by. Conditions: those stated. -/
import Derived.Test.YtaofjnidniekjaaGreatDoorMPaB
import Derived.Test.YtaofjnidniekjaaGreatDoorMRs1
import Derived.Deep.DeepCutAuto
import Derived.Defers
import Derived.Recover
namespace Go.Proofs.YtaofjnidniekjaaGreatDoor
open Go.RowKit

theorem kind_lt {L : List Tok} {i : Nat} : ∀ (l : List (List UInt8)) (k m : Nat), kindAt L i l k = some m → m < k + l.length ∧ i < L.length
 | [], _, _, h => by cases h
 | w :: l, k, m, h => by
  unfold kindAt at h
  split at h
  ·rename_i h1; cases h; exact ⟨by simp, word_lt h1⟩
  ·have := kind_lt l (k + 1) m h
   rw [List.length_cons]; omega
theorem i64_small {x : Int} (h0 : 0 ≤ x) (h1 : x ≤ 2000000000000000000) : I64 x := ⟨by omega, by omega⟩
theorem colT_ok {names : List ByteArray} {L : List Tok} {i : Nat} {x : Nat × (Int × Int)} (hn : names.length ≤ 1000) (h : colT names L i = .ok x) : i < x.1 ∧ I64 x.2.1 ∧ I64 x.2.2 := by
 unfold colT at h
 split at h
 ·cases h
 ·rename_i h1; cases h
  exact ⟨Nat.lt_succ_self _, i64_small (x := 0) (by decide) (by decide), i64_small (x := 0) (by decide) (by decide)⟩
 ·rename_i k h1
  have hk := kind_lt _ _ _ h1
  obtain ⟨a, h2, h3⟩ := bind_ok h
  obtain ⟨b, h4, h5⟩ := bind_ok h3
  obtain ⟨c, h6, h7⟩ := bind_ok h5
  have e1 := want_ok h2
  have e2 := name_ok h4
  have e3 := want_ok h6
  cases h7
  have hl : aggW.length = 7 := rfl
  have hb : b.2 < names.length := by
   unfold nameS at h4
   split at h4
   ·split at h4
    ·cases h4
    ·rename_i hp; cases h4
     have := place_lt (place_mem.1 (Int.not_lt.1 hp))
     dsimp only; omega
   ·cases h4
  refine ⟨by dsimp only at *; omega, i64_small (by dsimp only; omega) (by dsimp only; omega), i64_small (by dsimp only; omega) (by dsimp only; omega)⟩
theorem meas_few {s : Sch} (h : chkS s = 0) : (measN s).length ≤ 1000 := by
 have := chk_dims h
 unfold measN
 rw [List.length_append]; omega
/-- one element, laid into a block of its own, is appended: at a step of a region that draws -/
theorem step_append_oneG {t e : TypeId} {z : Value} {sz bytes : Nat} (hinfo : (Tryz.prog.info? e).map (fun i => (i.zero, i.size, i.bytes)) = some (some z, sz, bytes)) (hzs : z.cells.size = sz) (hsz : 0 < sz) (ht : Tryz.prog.underlying t = some (.slice e))
  {ops : Array Oper} {o : Oper} {a : Act} {K : Act → World → Prop} {Q : Exit → Act → World → Prop} {E : Prop} (hgd : o.guard = none) (s x : Operand)
  (ho : o.op = .call { callee := .builtin .append, args := #[s, x], argTypes := #[t, t] })
  (wr : World) (T : TypeId) (us : Array Value) (B : Nat) (v : Value) (n : Nat) (cs : List Value) (H : Nat) (hH : wr.heap.size = H) (hus : us.size = sz) (hs : a.eval s = v) (hx : a.eval x = .slice (some ⟨H, 0, none⟩) 1 1) (hown : wr.ownsRow B e sz v n cs) (h1 : ∀ u ∈ us, u.oneCell' = true) (hlen : (n + 1) * bytes ≤ 140737488355328) (hmx : n + 1 ≤ maxLen) (hB : B ≤ wr.heap.size)
  (h : ∀ v' w', w'.ownsRow B e sz v' (n + 1) (cs ++ us.toList) → wr.grownBy w' v.ownBlock → (∀ w0, Below B w0 wr → Below B w0 w') → K (a.put o.dst v') w') :
  if Region.wanted o (yielded ops a.tmps) = true then Oper.wp Tryz.prog o a (wr.alloc (.cells us T)) K Q else E := by
 subst hH
 refine step_append_rowG hinfo hzs hsz ht hgd s x ho (wr.alloc (.cells us T)) B v n cs _ 1 1 us.toList hs hx (World.ownsRow.alloc hown _) ⟨by rw [Array.length_toList, hus, Nat.one_mul], Nat.le_refl _, by unfold maxLen; omega, .inr ⟨wr.heap.size, 0, rfl, by simp, fun i hi => ?_⟩⟩ (fun u hu => h1 u (Array.mem_toList_iff.1 hu)) hlen hmx (by simp; omega) fun v' w' h2 h3 h4 => ?_
 ·rw [Nat.one_mul, ← hus] at hi
  rw [cell_of_row _ wr.heap.size (0 + i) us T (0, 0) (heap_alloc_new wr _), Nat.zero_add, List.getD_eq_getElem?_getD, Array.getElem?_toList, Array.getElem?_eq_getElem hi]
  rfl
 ·have h5 : wr.grownBy w' v.ownBlock := ⟨h3.os, h3.tape, h3.output, by have := h3.size; simp at this; omega, fun k hk hne => by
   rw [h3.block k (by simp; omega) hne]; exact Below.heap_alloc _ _ _ hk⟩
  exact h v' w' h2 h5 fun w0 hb => h4 w0 (hb.alloc hB _)
theorem below_grown {B : Nat} {w0 w w' : World} {row : Option Nat} (h : Below B w0 w) (hg : w.grownBy w' row) (hB : B ≤ w.heap.size) (hr : ∀ g, row = some g → B ≤ g) : Below B w0 w' :=
 ⟨hg.os.trans h.os, hg.tape.trans h.tape, hg.output.trans h.output, Nat.le_trans h.size hg.size, fun k hk => (hg.block k (by omega) (fun e => by have := hr k e.symm; omega)).trans (h.block k hk)⟩
theorem own_ge {w : World} {B s n : Nat} {e : TypeId} {v : Value} {cs : List Value} (h : w.ownsRow B e s v n cs) : ∀ g, v.ownBlock = some g → B ≤ g := fun g hg => (World.ownsRow.lt h g hg).1

set_option maxRecDepth 100000 in
set_option maxHeartbeats 1000000 in
theorem qcol_any (C : RC) (hC : C.Ok) (bx i : Nat) (q : QP) (w : World) (hi : i < C.L.length) (hQ : QB C bx i q w) :
  Calls Tryz.prog 57 #[.pointer (some ⟨bx, 0, none⟩)] w (RList C (QB C bx) (colS (measN C.s) C.L i q)) := by
 rw [col_one]
 obtain ⟨⟨vf, vc, vo, fl, hr⟩, hbx, hlt⟩ := hQ
 have HC := Lib.hid hC
 have HR := Lib.hid hr.drew
 have HBX := Lib.hid hbx.drew
 have HLT := Lib.hid hlt
 have HI := Lib.hid hi
 have c0 : w.drew.cell? ⟨bx, 0, none⟩ = some (.pointer (some ⟨C.R, 0, none⟩)) := HBX.out.cell 0
 have c8 : w.drew.cell? ⟨C.R, 8, none⟩ = some vc := by rw [Blk.cell HR.out.rd]; rfl
 have f8 : w.drew.frozen? ⟨C.R, 8, none⟩ = false := Blk.frozen HR.out.rd 8
 have hmany := hC.good.many
 have hl : q.cols.length ≤ 1001 := by have := hr.len.1; omega
 have HCOL := Lib.hid (pcol_any C hC i hi w.drew hr.drew.at')
 clear hC hr hbx hlt hi hmany
 obtain ⟨R, hRR⟩ : ∃ r, C.R = r := ⟨_, rfl⟩
 have HRR := Lib.hid hRR
 rw [hRR] at c0 c8 f8 HCOL
 clear hRR
 obtain ⟨r, hrr⟩ : ∃ r, RList C (QB C bx) (colT (measN C.s) C.L i >>= fun x => pure (x.1, { q with cols := q.cols ++ [x.2] })) = r := ⟨_, rfl⟩
 rw [hrr]
 have HRN := Lib.hid hrr
 clear hrr
 go_enter Tryz.func57, Tryz.ntmps57
 go_upto_region 0 with fail
 refine wp_regionN (fun w' => w'.cell? ⟨bx, 0, none⟩ = some (.pointer (some ⟨R, 0, none⟩)) ∧ w'.cell? ⟨R, 8, none⟩ = some vc ∧ w'.frozen? ⟨R, 8, none⟩ = false) [13] (by kernel_rfl) (by exact ⟨c0, c8, f8⟩) (fun hHeld => ?_)
 refine wpAnyN_t 0 ⟨some 1, _, _, _, _, _⟩ ?_ rfl ?_ ?_
 rotate_left 1
 ·(intro w hSw; (try dsimp only at hSw); go_simp; try with_reducible rfl)
 try simp only [Act.put, putA, putB, putC]
 refine wpAnyN_t 1 ⟨some 2, _, _, _, _, _⟩ ?_ rfl ?_ ?_
 rotate_left 1
 ·(intro w hSw; (try dsimp only at hSw); go_simp; try with_reducible rfl)
 try simp only [Act.put, putA, putB, putC]
 refine wpAnyN_t 2 ⟨some 3, _, _, _, _, _⟩ ?_ rfl ?_ ?_
 rotate_left 1
 ·(intro w hSw; (try dsimp only at hSw); go_simp; try with_reducible rfl)
 try simp only [Act.put, putA, putB, putC]
 refine wpAnyN_t 3 ⟨some 4, _, _, _, _, _⟩ ?_ rfl ?_ ?_
 rotate_left 1
 ·(intro w hSw; (try dsimp only at hSw); go_simp; try with_reducible rfl)
 try simp only [Act.put, putA, putB, putC]
 refine wpAnyN_t 4 ⟨some 5, _, _, _, _, _⟩ ?_ rfl ?_ ?_
 rotate_left 1
 ·(intro w hSw; (try dsimp only at hSw); go_simp; try with_reducible rfl)
 try simp only [Act.put, putA, putB, putC]
 refine wpAnyN_t 5 ⟨some 6, _, _, _, _, _⟩ ?_ rfl ?_ ?_
 rotate_left 1
 ·(intro w hSw; (try dsimp only at hSw); go_simp; try with_reducible rfl)
 try simp only [Act.put, putA, putB, putC]
 refine wpAnyN_t 6 ⟨some 7, _, _, _, _, _⟩ ?_ rfl ?_ ?_
 rotate_left 1
 ·(intro w hSw; (try dsimp only at hSw); go_simp; try with_reducible rfl)
 try simp only [Act.put, putA, putB, putC]
 refine wpAnyN_one (i := 7) (o := ⟨some 8, _, _, _, _, _⟩) (by kernel_rfl) rfl (fun K hK => ?_)
 go_simp
 rcases hx : colT (measN C.s) C.L i with f | ⟨j, x⟩
 ·rw [hx] at HCOL
  have hcx : RList C (QB C bx) (colT (measN C.s) C.L i >>= fun x => pure (x.1, { q with cols := q.cols ++ [x.2] })) = RList C (QB C bx) (.error f) := by rw [hx]; rfl
  rw [hcx] at HRN
  clear hx hcx
  refine HCOL.out.mono ?_; rintro e w2 ⟨rfl, hb2⟩
  rw [← HRN.out]
  exact ⟨rfl, rfl, hb2⟩
 ·rw [hx] at HCOL
  have hcx : RList C (QB C bx) (colT (measN C.s) C.L i >>= fun x => pure (x.1, { q with cols := q.cols ++ [x.2] })) = RList C (QB C bx) (.ok (j, { q with cols := q.cols ++ [x] })) := by rw [hx]; rfl
  rw [hcx] at HRN
  have HX := Lib.hid (colT_ok (meas_few HC.out.chk) hx)
  clear hx hcx
  refine HCOL.out.mono ?_; rintro e w2 ⟨rfl, hm2⟩
  have HR2 := Lib.hid (HR.out.mv hm2 (Nat.le_of_lt HX.out.1))
  have HBX3 := Lib.hid (hm2.kp.blk HBX.out (by have := HLT.out; omega))
  have hRlt : R < w2.heap.size := by rw [← HRR.out]; exact HR2.out.rd.lt
  have hbxlt : bx < w2.heap.size := HBX3.out.lt
  have hB : C.R + 1 ≤ w2.heap.size := HR2.out.rd.lt
  have d0 : w2.cell? ⟨bx, 0, none⟩ = some (.pointer (some ⟨R, 0, none⟩)) := by rw [← HRR.out]; exact HBX3.out.cell 0
  have d8 : w2.cell? ⟨R, 8, none⟩ = some vc := by rw [← HRR.out, Blk.cell HR2.out.rd]; rfl
  have g8 : w2.frozen? ⟨R, 8, none⟩ = false := by rw [← HRR.out]; exact Blk.frozen HR2.out.rd 8
  clear hm2 HCOL c0 c8 f8
  obtain ⟨xk, xm⟩ := x
  unfold colV
  dsimp only
  refine hK.out _ _ (by exact ⟨d0, d8, g8⟩) ?_
  clear hK K hHeld
  intro hHeld
  try simp only [Act.put, putA, putB, putC]
  refine wpAnyN_one (i := 8) (o := ⟨some 9, _, _, _, _, _⟩) (by kernel_rfl) rfl (fun K hK => ?_)
  go_simp
  have a0 := (World.cell?_alloc_lt w2 (.cells #[.int .i64 xk, .int .i64 xm] 56) ⟨bx, 0, none⟩ hbxlt).trans d0
  have a8 := (World.cell?_alloc_lt w2 (.cells #[.int .i64 xk, .int .i64 xm] 56) ⟨R, 8, none⟩ hRlt).trans d8
  have b8 := ((HR2.out.rd.alloc (.cells #[.int .i64 xk, .int .i64 xm] 56)).frozen 8)
  rw [HRR.out] at b8
  refine hK.out _ _ (by exact ⟨a0, a8, b8⟩) ?_
  clear hK K hHeld
  intro hHeld
  try simp only [Act.put, putA, putB, putC]
  refine wpAnyN_one (i := 9) (o := ⟨some 10, _, _, _, _, _⟩) (by kernel_rfl) rfl (fun K hK => ?_)
  refine step_append_oneG (z := .agg #[.int .i64 0, .int .i64 0]) (sz := 2) (bytes := 16) info_col rfl (by decide) Tryz.underlying29 rfl _ _ (by rfl) w2 _ #[.int .i64 xk, .int .i64 xm] (C.R + 1) vc q.cols.length (colCells q.cols) w2.heap.size rfl rfl (by rfl) (by rfl) HR2.out.rc (fun u hu => by simp at hu; rcases hu with rfl | rfl <;> rfl) (by omega) (by unfold maxLen; omega) hB ?_
  intro v' w' h2 h3 h4
  obtain ⟨a3, c3, rfl⟩ := own_form h2
  have hb' := below_grown HR2.out.bl h3 (Nat.le_of_lt HR2.out.rd.lt) (fun g hg => Nat.le_of_succ_le (own_ge HR2.out.rc g hg))
  have HF := Lib.hid (HR2.out.pushC (xk, xm) HX.out.2 (by have := HR.out.len.1; have h0 : i < j := HX.out.1; omega) h2 h3 hb')
  have HBX4 := Lib.hid (blk_other HBX3.out HR2.out.rc (by decide) h3)
  have HRD := Lib.hid (blk_other HR2.out.rd HR2.out.rc (by decide) h3)
  have e0 : w'.cell? ⟨bx, 0, none⟩ = some (.pointer (some ⟨R, 0, none⟩)) := by rw [← HRR.out]; exact HBX4.out.cell 0
  have e8 : w'.cell? ⟨R, 8, none⟩ = some vc := by rw [← HRR.out, Blk.cell HRD.out]; rfl
  have k8 : w'.frozen? ⟨R, 8, none⟩ = false := by rw [← HRR.out]; exact Blk.frozen HRD.out 8
  clear h2 h3 h4 hb' d0 d8 g8
  refine hK.out _ _ (by exact ⟨e0, e8, k8⟩) ?_
  clear hK K hHeld
  intro hHeld
  try simp only [Act.put, putA, putB, putC]
  refine wpAnyN_t 10 ⟨some 11, _, _, _, _, _⟩ ?_ rfl ?_ ?_
  rotate_left 1
  ·(intro w hSw; (try dsimp only at hSw); go_simp; try with_reducible rfl)
  try simp only [Act.put, putA, putB, putC]
  refine wpAnyN_t 11 ⟨some 12, _, _, _, _, _⟩ ?_ rfl ?_ ?_
  rotate_left 1
  ·(intro w hSw; (try dsimp only at hSw); go_simp; try with_reducible rfl)
  try simp only [Act.put, putA, putB, putC]
  refine wpAnyN_t 12 ⟨some 13, _, _, _, _, _⟩ ?_ rfl ?_ ?_
  rotate_left 1
  ·(intro w hSw; (try dsimp only at hSw); go_simp; try with_reducible rfl)
  try simp only [Act.put, putA, putB, putC]
  refine wpAnyN_late (i := 13) (o := ⟨none, _, _, _, _, _⟩) (by kernel_rfl) (by kernel_rfl) rfl (fun K hK => ?_)
  go_simp
  refine hK.out _ _ ?_
  clear hK K
  try simp only [Act.put, putA, putB, putC]
  refine wpAnyN_end (by kernel_rfl) ?_
  go_wp2_with fail
  go_end0
  rw [← HRN.out]
  refine ⟨rfl, ⟨vf, .slice a3 (q.cols.length + 1) c3, vo, fl, ?_⟩, ?_, HLT.out⟩
  ·rw [← HRR.out]; exact HF.out
  ·rw [← HRR.out]; exact HBX4.out.far (by have := HLT.out; show bx ≠ C.R; omega) _

theorem grp_test_fin : ∀ (g : Fin 64) (d : Fin 6), (bits .and .u32 ((g.val : Int) / 2 ^ min d.val 32) 1 == 1) = decide ((g.val : Int) / 2 ^ d.val % 2 = 1) := by decide +kernel
theorem grp_test {g : Int} {d n : Nat} (h0 : 0 ≤ g) (h1 : g < 2 ^ n) (hn : n ≤ 6) (hd : d < n) : (bits .and .u32 (g / 2 ^ min d 32) 1 == 1) = decide (g / 2 ^ d % 2 = 1) := by
 have h2 : g < 64 := by
  have : n = 0 ∨ n = 1 ∨ n = 2 ∨ n = 3 ∨ n = 4 ∨ n = 5 ∨ n = 6 := by omega
  rcases this with rfl | rfl | rfl | rfl | rfl | rfl | rfl <;> omega
 have := grp_test_fin ⟨g.toNat, by omega⟩ ⟨d, by omega⟩
 rw [show ((g.toNat : Nat) : Int) = g by omega] at this
 exact this
theorem grp_or_fin : ∀ (g : Fin 64) (d : Fin 6), ¬ ((g.val : Int) / 2 ^ d.val % 2 = 1) → bits .or .u32 (g.val : Int) (2 ^ min d.val 32 % 4294967296) = g.val + 2 ^ d.val := by decide +kernel
theorem grp_or_lt : ∀ (n : Fin 7) (g : Fin 64) (d : Fin 6), (g.val : Int) < 2 ^ n.val → d.val < n.val → ¬ ((g.val : Int) / 2 ^ d.val % 2 = 1) → (g.val : Int) + 2 ^ d.val < 2 ^ n.val := by decide +kernel
theorem grp_or {g : Int} {d n : Nat} (h0 : 0 ≤ g) (h1 : g < 2 ^ n) (hn : n ≤ 6) (hd : d < n) (hb : ¬ (g / 2 ^ d % 2 = 1)) : bits .or .u32 g (2 ^ min d 32 % 4294967296) = g + 2 ^ d ∧ 0 ≤ g + 2 ^ d ∧ g + 2 ^ d < 2 ^ n := by
 have h2 : g < 64 := by
  have : n = 0 ∨ n = 1 ∨ n = 2 ∨ n = 3 ∨ n = 4 ∨ n = 5 ∨ n = 6 := by omega
  rcases this with rfl | rfl | rfl | rfl | rfl | rfl | rfl <;> omega
 have e : ((g.toNat : Nat) : Int) = g := by omega
 have k1 := grp_or_fin ⟨g.toNat, by omega⟩ ⟨d, by omega⟩
 have k2 := grp_or_lt ⟨n, by omega⟩ ⟨g.toNat, by omega⟩ ⟨d, by omega⟩
 simp only [e] at k1 k2
 have h3 : (0 : Int) ≤ 2 ^ d := by
  have := Nat.two_pow_pos d
  have e : ((2 ^ d : Nat) : Int) = 2 ^ d := by rw [Int.natCast_pow]; rfl
  omega
 exact ⟨k1 hb, by omega, k2 h1 hd hb⟩
theorem QR.setG {C : RC} {j : Nat} {q : QP} {vf vc vo : Value} {fl : List Flt} {w : World} (h : QR C j q vf vc vo fl w) {g : Int} (hg : 0 ≤ g ∧ g < 2 ^ C.s.dims.length) :
  QR C j { q with group := g } vf vc vo fl (w.setCell ⟨C.R, 6, none⟩ (.int .u32 g)) := by
 have hlt := Nat.lt_succ_self C.R
 exact ⟨below_set h.bl (Nat.le_refl _) _, (h.rd.set_ 6 _).to rfl, own_set h.rf hlt _ _, own_set h.rc hlt _ _, own_set h.ro hlt _ _, fun f hf => ⟨(h.rk f hf).1, own_set (h.rk f hf).2 hlt _ _⟩, h.fs, h.len, hg, h.pc, h.po, h.lim, h.flt⟩
theorem QR.setL {C : RC} {j : Nat} {q : QP} {vf vc vo : Value} {fl : List Flt} {w : World} (h : QR C j q vf vc vo fl w) {m : Int} (hm : I64 m) :
  QR C j { q with limit := m } vf vc vo fl (w.setCell ⟨C.R, 10, none⟩ (.int .i64 m)) := by
 have hlt := Nat.lt_succ_self C.R
 exact ⟨below_set h.bl (Nat.le_refl _) _, (h.rd.set_ 10 _).to rfl, own_set h.rf hlt _ _, own_set h.rc hlt _ _, own_set h.ro hlt _ _, fun f hf => ⟨(h.rk f hf).1, own_set (h.rk f hf).2 hlt _ _⟩, h.fs, h.len, h.grp, h.pc, h.po, hm, h.flt⟩
set_option maxRecDepth 100000 in
set_option maxHeartbeats 1000000 in
theorem pgroup_any (C : RC) (hC : C.Ok) (bx i : Nat) (q : QP) (w : World) (hi : i < C.L.length) (hQ : QB C bx i q w) :
  Calls Tryz.prog 60 #[.pointer (some ⟨C.R, 0, none⟩)] w (RList C (QB C bx) (groupS (dimN C.s) C.L i q)) := by
 obtain ⟨⟨vf, vc, vo, fl, hr⟩, hbx, hlt⟩ := hQ
 have HC := Lib.hid hC
 have HR := Lib.hid hr
 have HBX := Lib.hid hbx
 have HLT := Lib.hid hlt
 have HI := Lib.hid hi
 have c5 : w.cell? ⟨C.R, 5, none⟩ = some (.int .i64 i) := by rw [Blk.cell hr.rd]; rfl
 have HDIM := Lib.hid (pdim_any C hC i hi w hr.at')
 have HFA : Hid (∀ w1, RAt C i w1 → Calls Tryz.prog 66 #[.pointer (some ⟨C.R, 0, none⟩), .int .i64 (9 : Int)] w1 (Fails C (i, 9))) := Lib.hid (fun w1 hm => fail_any C hC i hi 9 w1 hm)
 clear hC hr hbx hlt hi
 obtain ⟨R, hRR⟩ : ∃ r, C.R = r := ⟨_, rfl⟩
 have HRR := Lib.hid hRR
 rw [hRR] at c5 HDIM HFA ⊢
 clear hRR
 obtain ⟨r, hrr⟩ : ∃ r, RList C (QB C bx) (groupS (dimN C.s) C.L i q) = r := ⟨_, rfl⟩
 rw [hrr]
 have HRN := Lib.hid hrr
 clear hrr
 go_enter Tryz.func60, Tryz.ntmps60
 go_wp2_with fail
 rcases hx : nameS (dimN C.s) C.L i with f | ⟨j, d⟩
 ·rw [hx] at HDIM
  have hcx : groupS (dimN C.s) C.L i q = .error f := by unfold groupS; rw [hx]; rfl
  rw [hcx] at HRN
  clear hx hcx
  refine HDIM.out.mono ?_; rintro e w2 ⟨rfl, hb2⟩
  have HB2 := Lib.hid hb2
  clear hb2
  go_wp2_with fail
  rw [← HRN.out]
  exact ⟨rfl, rfl, HB2.out⟩
 ·rw [hx] at HDIM
  have hcx : groupS (dimN C.s) C.L i q = if q.group / 2 ^ d % 2 = 1 then .error (i, 9) else .ok (j, { q with group := q.group + 2 ^ d }) := by unfold groupS; rw [hx]; rfl
  rw [hcx] at HRN
  have hji := (name_ok hx).1
  have hd : d < C.s.dims.length := by
   have h4 := hx
   unfold nameS at h4
   split at h4
   ·split at h4
    ·cases h4
    ·rename_i hp; cases h4
     have := place_lt (place_mem.1 (Int.not_lt.1 hp))
     have hl : (dimN C.s).length = C.s.dims.length := List.length_map _
     omega
   ·cases h4
  clear hx hcx
  refine HDIM.out.mono ?_; rintro e w2 ⟨rfl, hm2⟩
  have HR2 := Lib.hid (HR.out.mv hm2 (by dsimp only at hji ⊢; omega))
  have HBX2 := Lib.hid (hm2.kp.blk HBX.out (by have := HLT.out; omega))
  have c6 : w2.cell? ⟨R, 6, none⟩ = some (.int .u32 q.group) := by rw [← HRR.out, Blk.cell HR2.out.rd]; rfl
  have c5' : w2.cell? ⟨R, 5, none⟩ = some (.int .i64 (j : Int)) := by rw [← HRR.out, Blk.cell HR2.out.rd]; rfl
  have f6 : ∀ o, w2.frozen? ⟨R, o, none⟩ = false := fun o => by rw [← HRR.out]; exact Blk.frozen HR2.out.rd o
  have HOR := Lib.hid (grp_or HR.out.grp.1 HR.out.grp.2 (chk_dims HC.out.chk).1 hd)
  have HTE := Lib.hid (grp_test HR.out.grp.1 HR.out.grp.2 (chk_dims HC.out.chk).1 hd)
  clear hm2 HDIM c5 hd
  by_cases hb : q.group / 2 ^ d % 2 = 1
  ·have t1 : (bits BinOp.and IntKind.u32 (q.group / 2 ^ min d 32) 1 == 1) = true := by rw [HTE.out]; exact decide_eq_true hb
   rw [if_pos hb] at HRN
   have hra : RAt C i (w2.setCell ⟨C.R, 5, none⟩ (.int .i64 (i : Int))) := ⟨below_set HR2.out.bl (Nat.le_refl _) _, _, _, _, _, _, (HR2.out.rd.set_ 5 (.int .i64 (i : Int))).to rfl⟩
   rw [HRR.out] at hra
   have HFF := Lib.hid (HFA.out _ hra)
   clear hb hra
   go_wp2_with fail
   refine HFF.out.mono ?_; rintro e w3 ⟨rfl, hb3⟩
   have HB3 := Lib.hid hb3
   clear hb3
   go_wp2_with fail
   rw [← HRN.out]
   exact ⟨rfl, rfl, HB3.out⟩
  ·have t1 : (bits BinOp.and IntKind.u32 (q.group / 2 ^ min d 32) 1 == 1) = false := by rw [HTE.out]; exact decide_eq_false hb
   rw [if_neg hb] at HRN
   have HB := Lib.hid hb
   clear hb
   go_wp2_with fail
   go_region
   go_wp2_with fail
   go_end0
   rw [← HRN.out, (HOR.out HB.out).1]
   have HQF := Lib.hid (HR2.out.setG (HOR.out HB.out).2)
   rw [HRR.out] at HQF
   refine ⟨rfl, ⟨vf, vc, vo, fl, HQF.out.drew⟩, ?_, HLT.out⟩
   exact (HBX2.out.far (by have := HLT.out; have := HRR.out; show bx ≠ R; omega) _).drew

set_option maxRecDepth 100000 in
set_option maxHeartbeats 1000000 in
theorem pord_any (C : RC) (hC : C.Ok) (bx i : Nat) (q : QP) (w : World) (hi : i < C.L.length) (hQ : QB C bx i q w) :
  Calls Tryz.prog 63 #[.pointer (some ⟨C.R, 0, none⟩)] w (RList C (QB C bx) (ordS C.L i q)) := by
 obtain ⟨⟨vf, vc, vo, fl, hr⟩, hbx, hlt⟩ := hQ
 have HC := Lib.hid hC
 have HR := Lib.hid hr
 have HBX := Lib.hid hbx
 have HLT := Lib.hid hlt
 have HI := Lib.hid hi
 have HNUM := Lib.hid (pnumber_any C hC i hi w hr.at')
 have HE : Hid (∀ (j : Nat) (u : ByteArray) (t : List UInt8) (v : Bool), u.data.toList = t → wordAt C.L j t = v → ∀ w1, j < C.L.length → RAt C j w1 → Calls Tryz.prog 59 #[.pointer (some ⟨C.R, 0, none⟩), .string u] w1 fun e w' => e = .returned (.bool v) ∧ Mv C j (if v then j + 1 else j) w1 w') := Lib.hid (fun j u t v ht hb w1 hj hm => eat_any C hC j hj u v (by rw [ht]; exact hb) w1 hm)
 have hmany := hC.good.many
 have hl : q.ord.length ≤ 1001 := by have := hr.len.2.1; omega
 clear hC hr hbx hlt hi hmany
 obtain ⟨R, hRR⟩ : ∃ r, C.R = r := ⟨_, rfl⟩
 have HRR := Lib.hid hRR
 rw [hRR] at HNUM HE ⊢
 clear hRR
 obtain ⟨r, hrr⟩ : ∃ r, RList C (QB C bx) (ordS C.L i q) = r := ⟨_, rfl⟩
 rw [hrr]
 have HRN := Lib.hid hrr
 clear hrr
 go_enter Tryz.func63, Tryz.ntmps63
 go_wp2_with fail
 rcases hx : numT C.L i with f | ⟨j, n⟩
 ·rw [hx] at HNUM
  have hcx : ordS C.L i q = .error f := by unfold ordS; rw [hx]; rfl
  rw [hcx] at HRN
  clear hx hcx
  refine HNUM.out.mono ?_; rintro e w2 ⟨rfl, hb2⟩
  have HB2 := Lib.hid hb2
  clear hb2
  go_wp2_with fail
  rw [← HRN.out]
  exact ⟨rfl, rfl, HB2.out⟩
 ·rw [hx] at HNUM
  have hcx : ordS C.L i q = if wordAt C.L j [100, 101, 115, 99] = true then .ok (j + 1, { q with ord := q.ord ++ [(n - 1, true)] }) else if wordAt C.L j [97, 115, 99] = true then .ok (j + 1, { q with ord := q.ord ++ [(n - 1, false)] }) else .ok (j, { q with ord := q.ord ++ [(n - 1, false)] }) := by unfold ordS; rw [hx]; rfl
  rw [hcx] at HRN
  have HJI := Lib.hid (num_ok hx).1
  have hn : 0 ≤ n ∧ n ≤ 1000000000000000000 := by
   unfold numT at hx
   split at hx
   ·cases hx; exact HC.out.good.num _ (tokAt_mem HI.out).2
   ·cases hx
  have HJL := Lib.hid (num_next HC.out.good hx)
  clear hx hcx
  obtain ⟨n0, n1⟩ := hn
  have n2 : -9223372036854775808 ≤ n - 1 := by omega
  have n3 : n - 1 ≤ 9223372036854775807 := by omega
  refine HNUM.out.mono ?_; rintro e w2 ⟨rfl, hm2⟩
  have HM2 := Lib.hid (hm2.alloc (.cells #[.int .i64 (n - 1), .bool false] 64))
  have HBO := Lib.hid (Blk.new w2 64 #[.int .i64 (n - 1), .bool false])
  have HT2 : Hid (C.R < w2.heap.size) := Lib.hid (hm2.rd _ _ _ _ _ HR.out.rd).lt
  have HTW : Hid (w.heap.size ≤ w2.heap.size) := Lib.hid hm2.kp.size
  have HLW : Hid (C.R < w.heap.size) := Lib.hid HR.out.rd.lt
  dsimp only at HJI HJL ⊢
  clear hm2 HNUM
  go_wp2_with fail
  generalize w2.alloc (.cells #[.int .i64 (n - 1), .bool false] 64) = w3 at *
  generalize w2.heap.size = T at *
  obtain ⟨v, hv⟩ : ∃ v, wordAt C.L j [100, 101, 115, 99] = v := ⟨_, rfl⟩
  have HV := Lib.hid hv
  rw [hv] at HRN
  have HEE := Lib.hid (HE.out j ⟨#[100, 101, 115, 99]⟩ _ v rfl hv w3 HJL.out (HR.out.at'.mv HM2.out))
  clear hv
  refine HEE.out.mono ?_; rintro e w4 ⟨rfl, hm4⟩
  have HM4 := Lib.hid (HM2.out.trans hm4)
  have HB4 := Lib.hid (hm4.kp.blk HBO.out (by have := HT2.out; omega))
  clear hm4 HEE HM2 HBO
  rcases v with _ | _
  ·rw [if_neg (by decide)] at HRN
   obtain ⟨v, hv⟩ : ∃ v, wordAt C.L j [97, 115, 99] = v := ⟨_, rfl⟩
   have HV2 := Lib.hid hv
   rw [hv] at HRN
   have HEE := Lib.hid (HE.out j ⟨#[97, 115, 99]⟩ _ v rfl hv w4 HJL.out (HR.out.at'.mv HM4.out))
   clear hv
   go_wp2_with fail
   refine HEE.out.mono ?_; rintro e w5 ⟨rfl, hm5⟩
   have HM5 := Lib.hid (HM4.out.trans hm5)
   have HB5 := Lib.hid (hm5.kp.blk HB4.out (by have := HT2.out; omega))
   clear hm5 HEE
   rcases v with _ | _
   ·rw [if_neg (by decide)] at HRN
    have HM5 : Hid (Mv C i j w w5) := HM5
    have HJ5 : Hid (i < j) := Lib.hid (by rw [HJI.out]; exact Nat.lt_succ_self _)
    have HR5 := Lib.hid (HR.out.mv HM5.out (Nat.le_of_lt HJ5.out)).drew
    have HB6 := Lib.hid HB5.out.drew
    have HX5 := Lib.hid (HM5.out.kp.blk HBX.out (by have := HLT.out; omega)).drew
    have d0 : w5.drew.cell? ⟨T, 0, none⟩ = some (.int .i64 (n - 1)) := HB6.out.cell 0
    have d1 : w5.drew.cell? ⟨T, 1, none⟩ = some (.bool false) := HB6.out.cell 1
    have d9 : w5.drew.cell? ⟨R, 9, none⟩ = some vo := by rw [← HRR.out, Blk.cell HR5.out.rd]; rfl
    have g9 : w5.drew.frozen? ⟨R, 9, none⟩ = false := by rw [← HRR.out]; exact Blk.frozen HR5.out.rd 9
    have hRlt : R < w5.drew.heap.size := by rw [← HRR.out]; exact HR5.out.rd.lt
    have hTlt : T < w5.drew.heap.size := HB6.out.lt
    have hB : C.R + 1 ≤ w5.drew.heap.size := HR5.out.rd.lt
    go_upto_region 4 with fail
    refine wp_regionN (fun w' => w'.cell? ⟨T, 0, none⟩ = some (.int .i64 (n - 1)) ∧ w'.cell? ⟨T, 1, none⟩ = some (.bool false) ∧ w'.cell? ⟨R, 9, none⟩ = some vo ∧ w'.frozen? ⟨R, 9, none⟩ = false) [12] (by kernel_rfl) (by exact ⟨d0, d1, d9, g9⟩) (fun hHeld => ?_)
    refine wpAnyN_t 0 ⟨some 12, _, _, _, _, _⟩ ?_ rfl ?_ ?_
    rotate_left 1
    ·(intro w hSw; (try dsimp only at hSw); go_simp; try with_reducible rfl)
    try simp only [Act.put, putA, putB, putC]
    refine wpAnyN_t 1 ⟨some 13, _, _, _, _, _⟩ ?_ rfl ?_ ?_
    rotate_left 1
    ·(intro w hSw; (try dsimp only at hSw); go_simp; try with_reducible rfl)
    try simp only [Act.put, putA, putB, putC]
    refine wpAnyN_t 2 ⟨some 14, _, _, _, _, _⟩ ?_ rfl ?_ ?_
    rotate_left 1
    ·(intro w hSw; (try dsimp only at hSw); go_simp; try with_reducible rfl)
    try simp only [Act.put, putA, putB, putC]
    refine wpAnyN_t 3 ⟨some 15, _, _, _, _, _⟩ ?_ rfl ?_ ?_
    rotate_left 1
    ·(intro w hSw; (try dsimp only at hSw); go_simp; try with_reducible rfl)
    try simp only [Act.put, putA, putB, putC]
    refine wpAnyN_t 4 ⟨some 16, _, _, _, _, _⟩ ?_ rfl ?_ ?_
    rotate_left 1
    ·(intro w hSw; (try dsimp only at hSw); go_simp; try with_reducible rfl)
    try simp only [Act.put, putA, putB, putC]
    refine wpAnyN_t 5 ⟨some 17, _, _, _, _, _⟩ ?_ rfl ?_ ?_
    rotate_left 1
    ·(intro w hSw; (try dsimp only at hSw); go_simp; try with_reducible rfl)
    try simp only [Act.put, putA, putB, putC]
    refine wpAnyN_t 6 ⟨some 18, _, _, _, _, _⟩ ?_ rfl ?_ ?_
    rotate_left 1
    ·(intro w hSw; (try dsimp only at hSw); go_simp; try with_reducible rfl)
    try simp only [Act.put, putA, putB, putC]
    refine wpAnyN_one (i := 7) (o := ⟨some 19, _, _, _, _, _⟩) (by kernel_rfl) rfl (fun K hK => ?_)
    go_simp
    have a0 := (World.cell?_alloc_lt w5.drew (.cells #[.int .i64 (n - 1), .bool false] 64) ⟨T, 0, none⟩ hTlt).trans d0
    have a1 := (World.cell?_alloc_lt w5.drew (.cells #[.int .i64 (n - 1), .bool false] 64) ⟨T, 1, none⟩ hTlt).trans d1
    have a9 := (World.cell?_alloc_lt w5.drew (.cells #[.int .i64 (n - 1), .bool false] 64) ⟨R, 9, none⟩ hRlt).trans d9
    have b9 := ((HR5.out.rd.alloc (.cells #[.int .i64 (n - 1), .bool false] 64)).frozen 9)
    rw [HRR.out] at b9
    refine hK.out _ _ (by exact ⟨a0, a1, a9, b9⟩) ?_
    clear hK K hHeld
    intro hHeld
    try simp only [Act.put, putA, putB, putC]
    refine wpAnyN_one (i := 8) (o := ⟨some 20, _, _, _, _, _⟩) (by kernel_rfl) rfl (fun K hK => ?_)
    refine step_append_oneG (z := .agg #[.int .i64 0, .bool false]) (sz := 2) (bytes := 16) info_sort rfl (by decide) Tryz.underlying30 rfl _ _ (by rfl) w5.drew _ #[.int .i64 (n - 1), .bool false] (C.R + 1) vo q.ord.length (ordCells q.ord) w5.drew.heap.size rfl rfl (by rfl) (by rfl) HR5.out.ro (fun u hu => by simp at hu; rcases hu with rfl | rfl <;> rfl) (by omega) (by unfold maxLen; omega) hB ?_
    intro v' w' h2 h3 h4
    obtain ⟨a3, c3, rfl⟩ := own_form h2
    have hb' := below_grown HR5.out.bl h3 (Nat.le_of_lt HR5.out.rd.lt) (fun g hg => Nat.le_of_succ_le (own_ge HR5.out.ro g hg))
    have HF := Lib.hid (HR5.out.pushO (n - 1, false) ⟨n2, n3⟩ (by have := HR.out.len.2.1; have := HJ5.out; omega) h2 h3 hb')
    have HX6 := Lib.hid (blk_other HX5.out HR5.out.ro (by decide) h3)
    have HRD := Lib.hid (blk_other HR5.out.rd HR5.out.ro (by decide) h3)
    have HTB : Hid (Blk w' T 64 #[.int .i64 (n - 1), .bool false]) := Lib.hid ((h3.block T hTlt (fun e => by have := (World.ownsRow.lt HR.out.ro T e.symm).2; have := HTW.out; omega)).trans HB6.out)
    have e0 : w'.cell? ⟨T, 0, none⟩ = some (.int .i64 (n - 1)) := HTB.out.cell 0
    have e1 : w'.cell? ⟨T, 1, none⟩ = some (.bool false) := HTB.out.cell 1
    have e9 : w'.cell? ⟨R, 9, none⟩ = some vo := by rw [← HRR.out, Blk.cell HRD.out]; rfl
    have k9 : w'.frozen? ⟨R, 9, none⟩ = false := by rw [← HRR.out]; exact Blk.frozen HRD.out 9
    clear h2 h3 h4 hb' d0 d1 d9 g9
    refine hK.out _ _ (by exact ⟨e0, e1, e9, k9⟩) ?_
    clear hK K hHeld
    intro hHeld
    try simp only [Act.put, putA, putB, putC]
    refine wpAnyN_t 9 ⟨some 21, _, _, _, _, _⟩ ?_ rfl ?_ ?_
    rotate_left 1
    ·(intro w hSw; (try dsimp only at hSw); go_simp; try with_reducible rfl)
    try simp only [Act.put, putA, putB, putC]
    refine wpAnyN_t 10 ⟨some 22, _, _, _, _, _⟩ ?_ rfl ?_ ?_
    rotate_left 1
    ·(intro w hSw; (try dsimp only at hSw); go_simp; try with_reducible rfl)
    try simp only [Act.put, putA, putB, putC]
    refine wpAnyN_t 11 ⟨some 23, _, _, _, _, _⟩ ?_ rfl ?_ ?_
    rotate_left 1
    ·(intro w hSw; (try dsimp only at hSw); go_simp; try with_reducible rfl)
    try simp only [Act.put, putA, putB, putC]
    refine wpAnyN_late (i := 12) (o := ⟨none, _, _, _, _, _⟩) (by kernel_rfl) (by kernel_rfl) rfl (fun K hK => ?_)
    go_simp
    refine hK.out _ _ ?_
    clear hK K
    try simp only [Act.put, putA, putB, putC]
    refine wpAnyN_end (by kernel_rfl) ?_
    go_wp2_with fail
    go_end0
    rw [← HRN.out]
    refine ⟨rfl, ⟨vf, vc, .slice a3 (q.ord.length + 1) c3, fl, ?_⟩, ?_, HLT.out⟩
    ·rw [← HRR.out]; exact HF.out
    ·rw [← HRR.out]; exact HX6.out.far (by have := HLT.out; show bx ≠ C.R; omega) _
   ·rw [if_pos rfl] at HRN
    have HM5 : Hid (Mv C i (j + 1) w w5) := HM5
    have HJ5 : Hid (i < j + 1) := Lib.hid (by rw [HJI.out]; omega)
    have HR5 := Lib.hid (HR.out.mv HM5.out (Nat.le_of_lt HJ5.out)).drew
    have HB6 := Lib.hid HB5.out.drew
    have HX5 := Lib.hid (HM5.out.kp.blk HBX.out (by have := HLT.out; omega)).drew
    have d0 : w5.drew.cell? ⟨T, 0, none⟩ = some (.int .i64 (n - 1)) := HB6.out.cell 0
    have d1 : w5.drew.cell? ⟨T, 1, none⟩ = some (.bool false) := HB6.out.cell 1
    have d9 : w5.drew.cell? ⟨R, 9, none⟩ = some vo := by rw [← HRR.out, Blk.cell HR5.out.rd]; rfl
    have g9 : w5.drew.frozen? ⟨R, 9, none⟩ = false := by rw [← HRR.out]; exact Blk.frozen HR5.out.rd 9
    have hRlt : R < w5.drew.heap.size := by rw [← HRR.out]; exact HR5.out.rd.lt
    have hTlt : T < w5.drew.heap.size := HB6.out.lt
    have hB : C.R + 1 ≤ w5.drew.heap.size := HR5.out.rd.lt
    go_upto_region 4 with fail
    refine wp_regionN (fun w' => w'.cell? ⟨T, 0, none⟩ = some (.int .i64 (n - 1)) ∧ w'.cell? ⟨T, 1, none⟩ = some (.bool false) ∧ w'.cell? ⟨R, 9, none⟩ = some vo ∧ w'.frozen? ⟨R, 9, none⟩ = false) [12] (by kernel_rfl) (by exact ⟨d0, d1, d9, g9⟩) (fun hHeld => ?_)
    refine wpAnyN_t 0 ⟨some 12, _, _, _, _, _⟩ ?_ rfl ?_ ?_
    rotate_left 1
    ·(intro w hSw; (try dsimp only at hSw); go_simp; try with_reducible rfl)
    try simp only [Act.put, putA, putB, putC]
    refine wpAnyN_t 1 ⟨some 13, _, _, _, _, _⟩ ?_ rfl ?_ ?_
    rotate_left 1
    ·(intro w hSw; (try dsimp only at hSw); go_simp; try with_reducible rfl)
    try simp only [Act.put, putA, putB, putC]
    refine wpAnyN_t 2 ⟨some 14, _, _, _, _, _⟩ ?_ rfl ?_ ?_
    rotate_left 1
    ·(intro w hSw; (try dsimp only at hSw); go_simp; try with_reducible rfl)
    try simp only [Act.put, putA, putB, putC]
    refine wpAnyN_t 3 ⟨some 15, _, _, _, _, _⟩ ?_ rfl ?_ ?_
    rotate_left 1
    ·(intro w hSw; (try dsimp only at hSw); go_simp; try with_reducible rfl)
    try simp only [Act.put, putA, putB, putC]
    refine wpAnyN_t 4 ⟨some 16, _, _, _, _, _⟩ ?_ rfl ?_ ?_
    rotate_left 1
    ·(intro w hSw; (try dsimp only at hSw); go_simp; try with_reducible rfl)
    try simp only [Act.put, putA, putB, putC]
    refine wpAnyN_t 5 ⟨some 17, _, _, _, _, _⟩ ?_ rfl ?_ ?_
    rotate_left 1
    ·(intro w hSw; (try dsimp only at hSw); go_simp; try with_reducible rfl)
    try simp only [Act.put, putA, putB, putC]
    refine wpAnyN_t 6 ⟨some 18, _, _, _, _, _⟩ ?_ rfl ?_ ?_
    rotate_left 1
    ·(intro w hSw; (try dsimp only at hSw); go_simp; try with_reducible rfl)
    try simp only [Act.put, putA, putB, putC]
    refine wpAnyN_one (i := 7) (o := ⟨some 19, _, _, _, _, _⟩) (by kernel_rfl) rfl (fun K hK => ?_)
    go_simp
    have a0 := (World.cell?_alloc_lt w5.drew (.cells #[.int .i64 (n - 1), .bool false] 64) ⟨T, 0, none⟩ hTlt).trans d0
    have a1 := (World.cell?_alloc_lt w5.drew (.cells #[.int .i64 (n - 1), .bool false] 64) ⟨T, 1, none⟩ hTlt).trans d1
    have a9 := (World.cell?_alloc_lt w5.drew (.cells #[.int .i64 (n - 1), .bool false] 64) ⟨R, 9, none⟩ hRlt).trans d9
    have b9 := ((HR5.out.rd.alloc (.cells #[.int .i64 (n - 1), .bool false] 64)).frozen 9)
    rw [HRR.out] at b9
    refine hK.out _ _ (by exact ⟨a0, a1, a9, b9⟩) ?_
    clear hK K hHeld
    intro hHeld
    try simp only [Act.put, putA, putB, putC]
    refine wpAnyN_one (i := 8) (o := ⟨some 20, _, _, _, _, _⟩) (by kernel_rfl) rfl (fun K hK => ?_)
    refine step_append_oneG (z := .agg #[.int .i64 0, .bool false]) (sz := 2) (bytes := 16) info_sort rfl (by decide) Tryz.underlying30 rfl _ _ (by rfl) w5.drew _ #[.int .i64 (n - 1), .bool false] (C.R + 1) vo q.ord.length (ordCells q.ord) w5.drew.heap.size rfl rfl (by rfl) (by rfl) HR5.out.ro (fun u hu => by simp at hu; rcases hu with rfl | rfl <;> rfl) (by omega) (by unfold maxLen; omega) hB ?_
    intro v' w' h2 h3 h4
    obtain ⟨a3, c3, rfl⟩ := own_form h2
    have hb' := below_grown HR5.out.bl h3 (Nat.le_of_lt HR5.out.rd.lt) (fun g hg => Nat.le_of_succ_le (own_ge HR5.out.ro g hg))
    have HF := Lib.hid (HR5.out.pushO (n - 1, false) ⟨n2, n3⟩ (by have := HR.out.len.2.1; have := HJ5.out; omega) h2 h3 hb')
    have HX6 := Lib.hid (blk_other HX5.out HR5.out.ro (by decide) h3)
    have HRD := Lib.hid (blk_other HR5.out.rd HR5.out.ro (by decide) h3)
    have HTB : Hid (Blk w' T 64 #[.int .i64 (n - 1), .bool false]) := Lib.hid ((h3.block T hTlt (fun e => by have := (World.ownsRow.lt HR.out.ro T e.symm).2; have := HTW.out; omega)).trans HB6.out)
    have e0 : w'.cell? ⟨T, 0, none⟩ = some (.int .i64 (n - 1)) := HTB.out.cell 0
    have e1 : w'.cell? ⟨T, 1, none⟩ = some (.bool false) := HTB.out.cell 1
    have e9 : w'.cell? ⟨R, 9, none⟩ = some vo := by rw [← HRR.out, Blk.cell HRD.out]; rfl
    have k9 : w'.frozen? ⟨R, 9, none⟩ = false := by rw [← HRR.out]; exact Blk.frozen HRD.out 9
    clear h2 h3 h4 hb' d0 d1 d9 g9
    refine hK.out _ _ (by exact ⟨e0, e1, e9, k9⟩) ?_
    clear hK K hHeld
    intro hHeld
    try simp only [Act.put, putA, putB, putC]
    refine wpAnyN_t 9 ⟨some 21, _, _, _, _, _⟩ ?_ rfl ?_ ?_
    rotate_left 1
    ·(intro w hSw; (try dsimp only at hSw); go_simp; try with_reducible rfl)
    try simp only [Act.put, putA, putB, putC]
    refine wpAnyN_t 10 ⟨some 22, _, _, _, _, _⟩ ?_ rfl ?_ ?_
    rotate_left 1
    ·(intro w hSw; (try dsimp only at hSw); go_simp; try with_reducible rfl)
    try simp only [Act.put, putA, putB, putC]
    refine wpAnyN_t 11 ⟨some 23, _, _, _, _, _⟩ ?_ rfl ?_ ?_
    rotate_left 1
    ·(intro w hSw; (try dsimp only at hSw); go_simp; try with_reducible rfl)
    try simp only [Act.put, putA, putB, putC]
    refine wpAnyN_late (i := 12) (o := ⟨none, _, _, _, _, _⟩) (by kernel_rfl) (by kernel_rfl) rfl (fun K hK => ?_)
    go_simp
    refine hK.out _ _ ?_
    clear hK K
    try simp only [Act.put, putA, putB, putC]
    refine wpAnyN_end (by kernel_rfl) ?_
    go_wp2_with fail
    go_end0
    rw [← HRN.out]
    refine ⟨rfl, ⟨vf, vc, .slice a3 (q.ord.length + 1) c3, fl, ?_⟩, ?_, HLT.out⟩
    ·rw [← HRR.out]; exact HF.out
    ·rw [← HRR.out]; exact HX6.out.far (by have := HLT.out; show bx ≠ C.R; omega) _
  ·rw [if_pos rfl] at HRN
   have c1 := HB4.out.c 1
   have f1 : w4.frozen? ⟨T, 1, none⟩ = false := HB4.out.frozen 1
   go_wp2_with fail
   have HB5 : Hid (Blk (w4.setCell ⟨T, 1, none⟩ (.bool true)) T 64 #[.int .i64 (n - 1), .bool true]) := Lib.hid (HB4.out.set_ 1 _)
   have HM5 : Hid (Mv C i (j + 1) w (w4.setCell ⟨T, 1, none⟩ (.bool true))) := Lib.hid (HM4.out.far (by have := HTW.out; exact this) HLW.out _)
   have HJ5 : Hid (i < j + 1) := Lib.hid (by rw [HJI.out]; omega)
   generalize w4.setCell ⟨T, 1, none⟩ (.bool true) = w5 at *
   clear c1 f1
   have HR5 := Lib.hid (HR.out.mv HM5.out (Nat.le_of_lt HJ5.out)).drew
   have HB6 := Lib.hid HB5.out.drew
   have HX5 := Lib.hid (HM5.out.kp.blk HBX.out (by have := HLT.out; omega)).drew
   have d0 : w5.drew.cell? ⟨T, 0, none⟩ = some (.int .i64 (n - 1)) := HB6.out.cell 0
   have d1 : w5.drew.cell? ⟨T, 1, none⟩ = some (.bool true) := HB6.out.cell 1
   have d9 : w5.drew.cell? ⟨R, 9, none⟩ = some vo := by rw [← HRR.out, Blk.cell HR5.out.rd]; rfl
   have g9 : w5.drew.frozen? ⟨R, 9, none⟩ = false := by rw [← HRR.out]; exact Blk.frozen HR5.out.rd 9
   have hRlt : R < w5.drew.heap.size := by rw [← HRR.out]; exact HR5.out.rd.lt
   have hTlt : T < w5.drew.heap.size := HB6.out.lt
   have hB : C.R + 1 ≤ w5.drew.heap.size := HR5.out.rd.lt
   go_upto_region 4 with fail
   refine wp_regionN (fun w' => w'.cell? ⟨T, 0, none⟩ = some (.int .i64 (n - 1)) ∧ w'.cell? ⟨T, 1, none⟩ = some (.bool true) ∧ w'.cell? ⟨R, 9, none⟩ = some vo ∧ w'.frozen? ⟨R, 9, none⟩ = false) [12] (by kernel_rfl) (by exact ⟨d0, d1, d9, g9⟩) (fun hHeld => ?_)
   refine wpAnyN_t 0 ⟨some 12, _, _, _, _, _⟩ ?_ rfl ?_ ?_
   rotate_left 1
   ·(intro w hSw; (try dsimp only at hSw); go_simp; try with_reducible rfl)
   try simp only [Act.put, putA, putB, putC]
   refine wpAnyN_t 1 ⟨some 13, _, _, _, _, _⟩ ?_ rfl ?_ ?_
   rotate_left 1
   ·(intro w hSw; (try dsimp only at hSw); go_simp; try with_reducible rfl)
   try simp only [Act.put, putA, putB, putC]
   refine wpAnyN_t 2 ⟨some 14, _, _, _, _, _⟩ ?_ rfl ?_ ?_
   rotate_left 1
   ·(intro w hSw; (try dsimp only at hSw); go_simp; try with_reducible rfl)
   try simp only [Act.put, putA, putB, putC]
   refine wpAnyN_t 3 ⟨some 15, _, _, _, _, _⟩ ?_ rfl ?_ ?_
   rotate_left 1
   ·(intro w hSw; (try dsimp only at hSw); go_simp; try with_reducible rfl)
   try simp only [Act.put, putA, putB, putC]
   refine wpAnyN_t 4 ⟨some 16, _, _, _, _, _⟩ ?_ rfl ?_ ?_
   rotate_left 1
   ·(intro w hSw; (try dsimp only at hSw); go_simp; try with_reducible rfl)
   try simp only [Act.put, putA, putB, putC]
   refine wpAnyN_t 5 ⟨some 17, _, _, _, _, _⟩ ?_ rfl ?_ ?_
   rotate_left 1
   ·(intro w hSw; (try dsimp only at hSw); go_simp; try with_reducible rfl)
   try simp only [Act.put, putA, putB, putC]
   refine wpAnyN_t 6 ⟨some 18, _, _, _, _, _⟩ ?_ rfl ?_ ?_
   rotate_left 1
   ·(intro w hSw; (try dsimp only at hSw); go_simp; try with_reducible rfl)
   try simp only [Act.put, putA, putB, putC]
   refine wpAnyN_one (i := 7) (o := ⟨some 19, _, _, _, _, _⟩) (by kernel_rfl) rfl (fun K hK => ?_)
   go_simp
   have a0 := (World.cell?_alloc_lt w5.drew (.cells #[.int .i64 (n - 1), .bool true] 64) ⟨T, 0, none⟩ hTlt).trans d0
   have a1 := (World.cell?_alloc_lt w5.drew (.cells #[.int .i64 (n - 1), .bool true] 64) ⟨T, 1, none⟩ hTlt).trans d1
   have a9 := (World.cell?_alloc_lt w5.drew (.cells #[.int .i64 (n - 1), .bool true] 64) ⟨R, 9, none⟩ hRlt).trans d9
   have b9 := ((HR5.out.rd.alloc (.cells #[.int .i64 (n - 1), .bool true] 64)).frozen 9)
   rw [HRR.out] at b9
   refine hK.out _ _ (by exact ⟨a0, a1, a9, b9⟩) ?_
   clear hK K hHeld
   intro hHeld
   try simp only [Act.put, putA, putB, putC]
   refine wpAnyN_one (i := 8) (o := ⟨some 20, _, _, _, _, _⟩) (by kernel_rfl) rfl (fun K hK => ?_)
   refine step_append_oneG (z := .agg #[.int .i64 0, .bool false]) (sz := 2) (bytes := 16) info_sort rfl (by decide) Tryz.underlying30 rfl _ _ (by rfl) w5.drew _ #[.int .i64 (n - 1), .bool true] (C.R + 1) vo q.ord.length (ordCells q.ord) w5.drew.heap.size rfl rfl (by rfl) (by rfl) HR5.out.ro (fun u hu => by simp at hu; rcases hu with rfl | rfl <;> rfl) (by omega) (by unfold maxLen; omega) hB ?_
   intro v' w' h2 h3 h4
   obtain ⟨a3, c3, rfl⟩ := own_form h2
   have hb' := below_grown HR5.out.bl h3 (Nat.le_of_lt HR5.out.rd.lt) (fun g hg => Nat.le_of_succ_le (own_ge HR5.out.ro g hg))
   have HF := Lib.hid (HR5.out.pushO (n - 1, true) ⟨n2, n3⟩ (by have := HR.out.len.2.1; have := HJ5.out; omega) h2 h3 hb')
   have HX6 := Lib.hid (blk_other HX5.out HR5.out.ro (by decide) h3)
   have HRD := Lib.hid (blk_other HR5.out.rd HR5.out.ro (by decide) h3)
   have HTB : Hid (Blk w' T 64 #[.int .i64 (n - 1), .bool true]) := Lib.hid ((h3.block T hTlt (fun e => by have := (World.ownsRow.lt HR.out.ro T e.symm).2; have := HTW.out; omega)).trans HB6.out)
   have e0 : w'.cell? ⟨T, 0, none⟩ = some (.int .i64 (n - 1)) := HTB.out.cell 0
   have e1 : w'.cell? ⟨T, 1, none⟩ = some (.bool true) := HTB.out.cell 1
   have e9 : w'.cell? ⟨R, 9, none⟩ = some vo := by rw [← HRR.out, Blk.cell HRD.out]; rfl
   have k9 : w'.frozen? ⟨R, 9, none⟩ = false := by rw [← HRR.out]; exact Blk.frozen HRD.out 9
   clear h2 h3 h4 hb' d0 d1 d9 g9
   refine hK.out _ _ (by exact ⟨e0, e1, e9, k9⟩) ?_
   clear hK K hHeld
   intro hHeld
   try simp only [Act.put, putA, putB, putC]
   refine wpAnyN_t 9 ⟨some 21, _, _, _, _, _⟩ ?_ rfl ?_ ?_
   rotate_left 1
   ·(intro w hSw; (try dsimp only at hSw); go_simp; try with_reducible rfl)
   try simp only [Act.put, putA, putB, putC]
   refine wpAnyN_t 10 ⟨some 22, _, _, _, _, _⟩ ?_ rfl ?_ ?_
   rotate_left 1
   ·(intro w hSw; (try dsimp only at hSw); go_simp; try with_reducible rfl)
   try simp only [Act.put, putA, putB, putC]
   refine wpAnyN_t 11 ⟨some 23, _, _, _, _, _⟩ ?_ rfl ?_ ?_
   rotate_left 1
   ·(intro w hSw; (try dsimp only at hSw); go_simp; try with_reducible rfl)
   try simp only [Act.put, putA, putB, putC]
   refine wpAnyN_late (i := 12) (o := ⟨none, _, _, _, _, _⟩) (by kernel_rfl) (by kernel_rfl) rfl (fun K hK => ?_)
   go_simp
   refine hK.out _ _ ?_
   clear hK K
   try simp only [Act.put, putA, putB, putC]
   refine wpAnyN_end (by kernel_rfl) ?_
   go_wp2_with fail
   go_end0
   rw [← HRN.out]
   refine ⟨rfl, ⟨vf, vc, .slice a3 (q.ord.length + 1) c3, fl, ?_⟩, ?_, HLT.out⟩
   ·rw [← HRR.out]; exact HF.out
   ·rw [← HRR.out]; exact HX6.out.far (by have := HLT.out; show bx ≠ C.R; omega) _
end Go.Proofs.YtaofjnidniekjaaGreatDoor
/- What the reader of package parse does with a condition. Conditions: those stated. -/
namespace Go.Proofs.YtaofjnidniekjaaGreatDoor
open Go.RowKit

/-- a condition -/
def condT (dims : List ByteArray) (L : List Tok) (i : Nat) : Except (Nat × Nat) (Nat × (Int × List Int)) :=
 nameS dims L i >>= fun d => if wordAt L d.1 [61] then numT L (d.1 + 1) >>= fun n => pure (n.1, ((d.2 : Int), [n.2]))
  else wantS L d.1 [105, 110] >>= fun a => wantS L a [40] >>= fun b => if wordAt L b [41] then pure (b + 1, ((d.2 : Int), []))
   else listS (numOne L) L [44] L.length b [] >>= fun l => wantS L l.1 [41] >>= fun c => pure (c, ((d.2 : Int), l.2))
theorem cond_one (dims : List ByteArray) (L : List Tok) (i : Nat) (q : QP) : condS dims L i q = (condT dims L i >>= fun x => pure (x.1, { q with flts := q.flts ++ [x.2] })) := by
 unfold condS condT
 rcases h : nameS dims L i with e | ⟨j, d⟩
 ·rfl
 ·show (if wordAt L j [61] = true then _ else _) = ((if wordAt L j [61] = true then _ else _) >>= _)
  split
  ·rcases h2 : numT L (j + 1) with e | n
   ·rfl
   ·rfl
  ·show (wantS L j [105, 110] >>= _) = ((wantS L j [105, 110] >>= _) >>= _)
   rcases h2 : wantS L j [105, 110] with e | a
   ·rfl
   ·show (wantS L a [40] >>= _) = ((wantS L a [40] >>= _) >>= _)
    rcases h3 : wantS L a [40] with e | b
    ·rfl
    ·show (if wordAt L b [41] = true then _ else _) = ((if wordAt L b [41] = true then _ else _) >>= _)
     split
     ·rfl
     ·show (numsS L L.length b [] >>= _) = ((listS (numOne L) L [44] L.length b [] >>= _) >>= _)
      rw [nums_list]
      rcases h4 : listS (numOne L) L [44] L.length b [] with e | l
      ·rfl
      ·show (wantS L l.1 [41] >>= _) = ((wantS L l.1 [41] >>= _) >>= _)
       rcases h5 : wantS L l.1 [41] with e | c
       ·rfl
       ·rfl
theorem Mv.grown {C : RC} {i j : Nat} {w0 w w' : World} {row : Option Nat} (h : Mv C i j w0 w) (hg : w.grownBy w' row) (hr : ∀ g, row = some g → w0.heap.size ≤ g) (hR : C.R < w0.heap.size) : Mv C i j w0 w' := by
 refine ⟨⟨hg.os.trans h.kp.os, hg.tape.trans h.kp.tape, hg.output.trans h.kp.output, Nat.le_trans h.kp.size hg.size, fun k hk hne => ?_⟩, fun g vf vc vo m hrd => ?_⟩
 ·rw [hg.block k (Nat.lt_of_lt_of_le hk h.kp.size) (fun e => by have := hr k e.symm; omega)]
  exact h.kp.block k hk hne
 ·exact (h.rd _ _ _ _ _ hrd).grown hg (fun e => by have := hr C.R e.symm; omega)
theorem own_base {w : World} {B B' s n : Nat} {e : TypeId} {v : Value} {cs : List Value} (h : w.ownsRow B e s v n cs) (hB : B' ≤ B) : w.ownsRow B' e s v n cs := by
 refine ⟨h.1, ?_⟩
 rcases h.2 with h | ⟨g, cap, cur, hv, hg, r⟩
 ·exact .inl h
 ·exact .inr ⟨g, cap, cur, hv, Nat.le_trans hB hg, r⟩
theorem own_kp {R : Nat} {w0 a b : World} (h : Kp R a b) {sz n : Nat} {e : TypeId} {v : Value} {cs : List Value} (ho : a.ownsRow w0.heap.size e sz v n cs) (hR : R < w0.heap.size) : b.ownsRow w0.heap.size e sz v n cs := h.own ho hR
theorem own_one (w : World) (B : Nat) (e : TypeId) (x : Value) (hB : B ≤ w.heap.size) : (w.alloc (.cells #[x] e)).ownsRow B e 1 (.slice (some ⟨w.heap.size, 0, none⟩) 1 1) 1 [x] :=
 ⟨rfl, .inr ⟨w.heap.size, 1, #[x], rfl, hB, heap_alloc_new w _, Nat.le_refl _, by unfold maxLen; omega, rfl, rfl⟩⟩
theorem own_setb {w : World} {B s n g : Nat} {e t : TypeId} {v : Value} {cs : List Value} {us : Array Value} (h : w.ownsRow B e s v n cs) (hk : Blk w g t us) (hne : t ≠ e) (k : Nat) (u : Value) : (w.setCell ⟨g, k, none⟩ u).ownsRow B e s v n cs := by
 refine ⟨h.1, ?_⟩
 rcases h.2 with h | ⟨g2, cap, cur, hv, hg, hh, r⟩
 ·exact .inl h
 ·refine .inr ⟨g2, cap, cur, hv, hg, ?_, r⟩
  rw [Below.heap_setCell _ _ _ _ (show g2 ≠ g from fun e2 => by
   subst e2
   unfold Blk at hk
   rw [hk] at hh
   injection hh with h3
   injection h3 with _ h4 _
   exact hne h4)]
  exact hh
/-- the codes so far: w0 the world that the condition began in, at place i0 -/
def CI (C : RC) (w0 : World) (i0 bx fb rb : Nat) (d : Int) (i : Nat) (l : List Int) (w : World) : Prop :=
 i0 ≤ i ∧ Mv C i0 i w0 w ∧ Blk w bx 78 #[.pointer (some ⟨C.R, 0, none⟩)] ∧ (∃ v, Blk w fb 61 #[.int .i64 d, v] ∧ w.ownsRow w0.heap.size 3 1 v l.length (l.map (Value.int .i64))) ∧ l.length ≤ i ∧ (∀ x ∈ l, I64 x) ∧ w0.heap.size ≤ fb ∧ Blk w rb 61 #[.int .i64 0, .slice none 0 0]
theorem CI.mv {C : RC} {w0 : World} {i0 bx fb rb : Nat} {d : Int} (hR : C.R < w0.heap.size) (hbx : C.R < bx) (hfb : C.R < fb) (hrb : C.R < rb) {i j : Nat} {l : List Int} {w w' : World} (hij : i ≤ j) (h : CI C w0 i0 bx fb rb d i l w) (hm : Mv C i j w w') : CI C w0 i0 bx fb rb d j l w' := by
 obtain ⟨h0, h1, h2, ⟨v, h3, h4⟩, h5, h6, h7, h8⟩ := h
 exact ⟨Nat.le_trans h0 hij, h1.trans hm, hm.kp.blk h2 (by omega), ⟨v, hm.kp.blk h3 (by omega), own_kp hm.kp h4 hR⟩, Nat.le_trans h5 hij, h6, h7, hm.kp.blk h8 (by omega)⟩
theorem info_codes : (Tryz.prog.info? 3).map (fun i => (i.zero, i.size, i.bytes)) = some (some (.int .i64 0), 1, 8) := by kernel_rfl
theorem numT_i64 {L : List Tok} (hg : TokOk L) {i j : Nat} {n : Int} (hi : i < L.length) (h : numT L i = .ok (j, n)) : j = i + 1 ∧ I64 n := by
 have h1 := (num_ok h).1
 unfold numT at h
 split at h
 ·cases h
  obtain ⟨h2, h3⟩ := hg.num _ (tokAt_mem hi).2
  exact ⟨rfl, i64_small h2 (by omega)⟩
 ·cases h

set_option maxRecDepth 100000 in
set_option maxHeartbeats 1000000 in
theorem ccode_any (C : RC) (hC : C.Ok) (w0 : World) (i0 bx fb rb : Nat) (d : Int) (hrf : rb ≠ fb) (hrR : C.R < rb) (hR0 : RAt C i0 w0) (i : Nat) (l : List Int) (w : World) (hi : i < C.L.length) (hQ : CI C w0 i0 bx fb rb d i l w) :
  Calls Tryz.prog 89 #[.pointer (some ⟨fb, 0, none⟩), .pointer (some ⟨bx, 0, none⟩)] w (RList C (CI C w0 i0 bx fb rb d) (numOne C.L i l)) := by
 obtain ⟨h0, hm, hbx, ⟨v, hfb, hown⟩, hlen, hall, hfg, hrb⟩ := hQ
 have HFG := Lib.hid hfg
 have HRB := Lib.hid hrb.drew
 have HRF := Lib.hid hrf
 have HRR9 := Lib.hid hrR
 clear hfg hrb hrf hrR
 have HC := Lib.hid hC
 have HM := Lib.hid hm.drew
 have HBX := Lib.hid hbx.drew
 have HFB := Lib.hid hfb.drew
 have HOW : Hid (w.drew.ownsRow w0.heap.size 3 1 v l.length (l.map (Value.int .i64))) := Lib.hid hown
 have HAL := Lib.hid hall
 have HI := Lib.hid hi
 have H0 := Lib.hid h0
 have HR0 := Lib.hid hR0
 have c0 : w.drew.cell? ⟨bx, 0, none⟩ = some (.pointer (some ⟨C.R, 0, none⟩)) := HBX.out.cell 0
 have c1 : w.drew.cell? ⟨fb, 1, none⟩ = some v := HFB.out.cell 1
 have f1 : w.drew.frozen? ⟨fb, 1, none⟩ = false := HFB.out.frozen 1
 have hmany := hC.good.many
 have hl : l.length ≤ 1001 := by omega
 have HLE := Lib.hid hlen
 have HRW : Hid (C.R < w.drew.heap.size) := Lib.hid (hR0.mv HM.out).lt
 have HBR : Hid (C.R ≠ bx ∧ C.R ≠ fb) := Lib.hid (by
  obtain ⟨_, g, vf, vc, vo, m, hrd⟩ := hR0.mv HM.out
  constructor
  ·intro e
   have h1 := HBX.out
   rw [← e] at h1
   unfold Blk at h1
   unfold Rd Blk at hrd
   rw [hrd] at h1
   injection h1 with h1
   injection h1 with _ h2 _
   exact absurd h2 (by decide)
  ·intro e
   have h1 := HFB.out
   rw [← e] at h1
   unfold Blk at h1
   unfold Rd Blk at hrd
   rw [hrd] at h1
   injection h1 with h1
   injection h1 with _ h2 _
   exact absurd h2 (by decide))
 have HNUM := Lib.hid (pnumber_any C hC i hi w.drew (hR0.mv HM.out))
 clear hC hbx hfb hown hall hi h0 hlen hmany hm hR0
 obtain ⟨R, hRR⟩ : ∃ r, C.R = r := ⟨_, rfl⟩
 have HRR := Lib.hid hRR
 rw [hRR] at c0 HNUM
 clear hRR
 obtain ⟨r, hrr⟩ : ∃ r, RList C (CI C w0 i0 bx fb rb d) (numOne C.L i l) = r := ⟨_, rfl⟩
 rw [hrr]
 have HRN := Lib.hid hrr
 clear hrr
 go_enter Tryz.func89, Tryz.ntmps89
 go_upto_region 0 with fail
 refine wp_regionN (fun w' => w'.cell? ⟨bx, 0, none⟩ = some (.pointer (some ⟨R, 0, none⟩)) ∧ w'.cell? ⟨fb, 1, none⟩ = some v ∧ w'.frozen? ⟨fb, 1, none⟩ = false) [7] (by kernel_rfl) (by exact ⟨c0, c1, f1⟩) (fun hHeld => ?_)
 refine wpAnyN_t 0 ⟨some 2, _, _, _, _, _⟩ ?_ rfl ?_ ?_
 rotate_left 1
 ·(intro w hSw; (try dsimp only at hSw); go_simp; try with_reducible rfl)
 try simp only [Act.put, putA, putB, putC]
 refine wpAnyN_t 1 ⟨some 3, _, _, _, _, _⟩ ?_ rfl ?_ ?_
 rotate_left 1
 ·(intro w hSw; (try dsimp only at hSw); go_simp; try with_reducible rfl)
 try simp only [Act.put, putA, putB, putC]
 refine wpAnyN_t 2 ⟨some 4, _, _, _, _, _⟩ ?_ rfl ?_ ?_
 rotate_left 1
 ·(intro w hSw; (try dsimp only at hSw); go_simp; try with_reducible rfl)
 try simp only [Act.put, putA, putB, putC]
 refine wpAnyN_one (i := 3) (o := ⟨some 5, _, _, _, _, _⟩) (by kernel_rfl) rfl (fun K hK => ?_)
 go_simp
 rcases hx : numT C.L i with f | ⟨j, x⟩
 ·rw [hx] at HNUM
  have hcx : numOne C.L i l = .error f := by unfold numOne; rw [hx]; rfl
  rw [hcx] at HRN
  clear hx hcx
  refine HNUM.out.mono ?_; rintro e w2 ⟨rfl, hb2⟩
  rw [← HRN.out]
  exact ⟨rfl, rfl, hb2⟩
 ·rw [hx] at HNUM
  have hcx : numOne C.L i l = .ok (j, l ++ [x]) := by unfold numOne; rw [hx]; rfl
  rw [hcx] at HRN
  have HX := Lib.hid (numT_i64 HC.out.good HI.out hx)
  clear hx hcx
  refine HNUM.out.mono ?_; rintro e w2 ⟨rfl, hm2⟩
  have HM2 := Lib.hid (HM.out.trans hm2)
  have HBX2 := Lib.hid (hm2.kp.blk HBX.out (Ne.symm HBR.out.1))
  have HRB2 := Lib.hid (hm2.kp.blk HRB.out (by have := HRR9.out; omega))
  have HFB2 := Lib.hid (hm2.kp.blk HFB.out (Ne.symm HBR.out.2))
  have HOW2 := Lib.hid (own_kp hm2.kp HOW.out HR0.out.lt)
  have hbxlt : bx < w2.heap.size := HBX2.out.lt
  have hfblt : fb < w2.heap.size := HFB2.out.lt
  have hB : w0.heap.size ≤ w2.heap.size := HM2.out.kp.size
  have d0 : w2.cell? ⟨bx, 0, none⟩ = some (.pointer (some ⟨R, 0, none⟩)) := by rw [← HRR.out]; exact HBX2.out.cell 0
  have d1 : w2.cell? ⟨fb, 1, none⟩ = some v := HFB2.out.cell 1
  have g1 : w2.frozen? ⟨fb, 1, none⟩ = false := HFB2.out.frozen 1
  clear hm2 HNUM c0 c1 f1
  dsimp only
  refine hK.out _ _ (by exact ⟨d0, d1, g1⟩) ?_
  clear hK K hHeld
  intro hHeld
  try simp only [Act.put, putA, putB, putC]
  refine wpAnyN_one (i := 4) (o := ⟨some 6, _, _, _, _, _⟩) (by kernel_rfl) rfl (fun K hK => ?_)
  go_simp
  have a0 := (World.cell?_alloc_lt w2 (.cells #[.int .i64 x] 3) ⟨bx, 0, none⟩ hbxlt).trans d0
  have a1 := (World.cell?_alloc_lt w2 (.cells #[.int .i64 x] 3) ⟨fb, 1, none⟩ hfblt).trans d1
  have b1 := (HFB2.out.alloc (.cells #[.int .i64 x] 3)).frozen 1
  refine hK.out _ _ (by exact ⟨a0, a1, b1⟩) ?_
  clear hK K hHeld
  intro hHeld
  try simp only [Act.put, putA, putB, putC]
  refine wpAnyN_one (i := 5) (o := ⟨some 7, _, _, _, _, _⟩) (by kernel_rfl) rfl (fun K hK => ?_)
  refine step_append_oneG (z := .int .i64 0) (sz := 1) (bytes := 8) info_codes rfl (by decide) Tryz.underlying59 rfl _ _ (by rfl) w2 _ #[.int .i64 x] w0.heap.size v l.length (l.map (Value.int .i64)) w2.heap.size rfl rfl (by rfl) (by rfl) HOW2.out (fun u hu => by simp at hu; rcases hu with rfl; rfl) (by omega) (by unfold maxLen; omega) hB ?_
  intro v' w' h2 h3 h4
  obtain ⟨a3, c3, rfl⟩ := own_form h2
  have HF := Lib.hid (HM2.out.grown h3 (own_ge HOW2.out) HR0.out.lt)
  have HGR := Lib.hid h3
  have HX3 := Lib.hid (blk_other HBX2.out HOW2.out (by decide) h3)
  have HFB3 := Lib.hid (blk_other HFB2.out HOW2.out (by decide) h3)
  have HNE : Hid (bx ≠ fb) := Lib.hid (by
   intro e
   have h1 := HBX2.out
   rw [e] at h1
   have h5 := HFB2.out
   unfold Blk at h1 h5
   rw [h1] at h5
   injection h5 with h5
   injection h5 with _ h6 _
   exact absurd h6 (by decide))
  have HOW4 : Hid ((w'.setCell ⟨fb, 1, none⟩ (.slice a3 (l.length + 1) c3)).ownsRow w0.heap.size 3 1 (.slice a3 (l.length + 1) c3) (l.length + 1) (l.map (Value.int .i64) ++ [.int .i64 x])) := Lib.hid (own_setb h2 HFB3.out (by decide) 1 _)
  have HFW : Hid (w0.heap.size ≤ fb) := Lib.hid HFG.out
  have e0 : w'.cell? ⟨bx, 0, none⟩ = some (.pointer (some ⟨R, 0, none⟩)) := by rw [← HRR.out]; exact HX3.out.cell 0
  have e1 : w'.cell? ⟨fb, 1, none⟩ = some v := HFB3.out.cell 1
  have k1 : w'.frozen? ⟨fb, 1, none⟩ = false := HFB3.out.frozen 1
  clear h2 h3 h4 d0 d1 g1
  refine hK.out _ _ (by exact ⟨e0, e1, k1⟩) ?_
  clear hK K hHeld
  intro hHeld
  try simp only [Act.put, putA, putB, putC]
  refine wpAnyN_t 6 ⟨some 8, _, _, _, _, _⟩ ?_ rfl ?_ ?_
  rotate_left 1
  ·(intro w hSw; (try dsimp only at hSw); go_simp; try with_reducible rfl)
  try simp only [Act.put, putA, putB, putC]
  refine wpAnyN_late (i := 7) (o := ⟨none, _, _, _, _, _⟩) (by kernel_rfl) (by kernel_rfl) rfl (fun K hK => ?_)
  go_simp
  refine hK.out _ _ ?_
  clear hK K
  try simp only [Act.put, putA, putB, putC]
  refine wpAnyN_end (by kernel_rfl) ?_
  go_wp2_with fail
  go_end0
  rw [← HRN.out]
  refine ⟨rfl, ?_, HF.out.far HFW.out HR0.out.lt _, HX3.out.far (by show bx ≠ fb; exact HNE.out) _, ⟨.slice a3 (l.length + 1) c3, ?_, ?_⟩, ?_, ?_, HFG.out, (blk_other HRB2.out HOW2.out (by decide) HGR.out).far HRF.out _⟩
  ·have := H0.out; have := HX.out.1; show i0 ≤ j; omega
  ·exact (HFB3.out.set_ 1 _).to rfl
  ·have := HOW4.out
   show (w'.setCell ⟨fb, 1, none⟩ (.slice a3 (l.length + 1) c3)).ownsRow _ _ _ _ (l ++ [x]).length ((l ++ [x]).map (Value.int .i64))
   rw [List.map_append, List.length_append]
   exact this
  ·have := HLE.out; have := HX.out.1; show (l ++ [x]).length ≤ j; rw [List.length_append]; show l.length + 1 ≤ j; omega
  ·intro y hy
   rcases List.mem_append.1 hy with hy | hy
   ·exact HAL.out y hy
   ·rw [List.mem_singleton.1 hy]; exact HX.out.2
end Go.Proofs.YtaofjnidniekjaaGreatDoor
/- What the reader of package parse goes past: a condition. Conditions: those stated. -/
namespace Go.Proofs.YtaofjnidniekjaaGreatDoor
open Go.RowKit

/-- a call's answer: a condition, its codes in a row of the call's own -/
def RFlt (C : RC) (i : Nat) (w : World) (r : Except (Nat × Nat) (Nat × (Int × List Int))) (e : Ending) (w' : World) : Prop :=
 match r with
 | .ok x => ∃ a c, e = .returned (.agg #[.int .i64 x.2.1, .slice a x.2.2.length c]) ∧ w'.ownsRow w.heap.size 3 1 (.slice a x.2.2.length c) x.2.2.length (x.2.2.map (Value.int .i64)) ∧ Mv C i x.1 w w' ∧ I64 x.2.1 ∧ ∀ y ∈ x.2.2, I64 y
 | .error f => Fails C f e w'
theorem name_i64 {names : List ByteArray} {L : List Tok} {i j d : Nat} (hn : names.length ≤ 1000) (h : nameS names L i = .ok (j, d)) : d < names.length ∧ I64 (d : Int) := by
 unfold nameS at h
 split at h
 ·split at h
  ·cases h
  ·rename_i hp; cases h
   have := place_lt (place_mem.1 (Int.not_lt.1 hp))
   exact ⟨by omega, i64_small (by omega) (by omega)⟩
 ·cases h
theorem cond_reads (C : RC) (hC : C.Ok) (w0 : World) (i0 bx fb rb : Nat) (d : Int) (hrf : rb ≠ fb) (hrR : C.R < rb) (hR0 : RAt C i0 w0) (hR : C.R < w0.heap.size) (hbx : C.R < bx) (hfb : C.R < fb) : Reads C (CI C w0 i0 bx fb rb d) (numOne C.L) 89 (#[] ++ #[.pointer (some ⟨fb, 0, none⟩), .pointer (some ⟨bx, 0, none⟩)]) where
 at' := fun i x w h => hR0.mv h.2.1
 mv := fun i j x w w' hij h hm => h.mv hR hbx hfb hrR hij hm
 read := fun i x w hi h => by
  simpa using ccode_any C hC w0 i0 bx fb rb d hrf hrR hR0 i x w hi h
 goes := numOne_goes C.L
 call := fun w => by kernel_rfl
 next := fun i x y hi h => by
  unfold numOne at h
  obtain ⟨a, h1, h2⟩ := bind_ok h
  have := num_next hC.good h1
  cases h2
  exact this
theorem list_next {σ : Type} {C : RC} {I : Nat → σ → World → Prop} {one : Nat → σ → Except (Nat × Nat) (Nat × σ)} {F : FuncId} {args : Array Value} (H : Reads C I one F args) (b : List UInt8) : ∀ (f i : Nat) (x : σ) (y : Nat × σ), i < C.L.length → listS one C.L b f i x = .ok y → y.1 < C.L.length
 | 0, _, _, _, _, h => by cases h
 | f + 1, i, x, y, hi, h => by
  obtain ⟨a, h1, h2⟩ := bind_ok (x := one i x) (f := fun a => if wordAt C.L a.1 b = true then listS one C.L b f (a.1 + 1) a.2 else pure (a.1, a.2)) h
  have h3 := H.next i x a hi h1
  split at h2
  ·rename_i h4
   rcases Nat.lt_or_ge (a.1 + 1) C.L.length with h5 | h5
   ·exact list_next H b f _ _ _ h5 h2
   ·exfalso
    cases f with
    | zero => cases h2
    | succ f =>
     obtain ⟨c, h6, -⟩ := bind_ok (x := one (a.1 + 1) a.2) (f := fun a => if wordAt C.L a.1 b = true then listS one C.L b f (a.1 + 1) a.2 else pure (a.1, a.2)) h2
     have := H.goes _ _ _ h6
     omega
  ·cases h2; exact h3

set_option maxRecDepth 100000 in
set_option maxHeartbeats 2000000 in
theorem pcond_any (C : RC) (hC : C.Ok) (i : Nat) (hi : i < C.L.length) (w : World) (hR : RAt C i w) :
  Calls Tryz.prog 62 #[.pointer (some ⟨C.R, 0, none⟩)] w (RFlt C i w (condT (dimN C.s) C.L i)) := by
 have hmf : ∀ (fn : Fn) (first cap : Array Value) (w : World), (Instr.makeFunc fn first cap).run Tryz.prog w = .ok (.func fn first cap) w := fun _ _ _ _ => rfl
 have HC := Lib.hid hC
 have HI := Lib.hid hi
 have HR := Lib.hid hR
 have HE : Hid (∀ (j : Nat) (u : ByteArray) (t : List UInt8) (v : Bool), u.data.toList = t → wordAt C.L j t = v → ∀ w1, j < C.L.length → RAt C j w1 → Calls Tryz.prog 59 #[.pointer (some ⟨C.R, 0, none⟩), .string u] w1 fun e w' => e = .returned (.bool v) ∧ Mv C j (if v then j + 1 else j) w1 w') := Lib.hid (fun j u t v ht hb w1 hj hm => eat_any C hC j hj u v (by rw [ht]; exact hb) w1 hm)
 have HW : Hid (∀ (j : Nat) (u : ByteArray) (t : List UInt8) (w1 : World), u.data.toList = t → j < C.L.length → Mv C i j w w1 → Calls Tryz.prog 55 #[.pointer (some ⟨C.R, 0, none⟩), .string u] w1 (RUnit C j w1 (wantS C.L j t))) := Lib.hid (fun j u t w1 ht hj hm => by rw [← ht]; exact want_any C hC j hj u w1 (hR.mv hm))
 have HD : Hid (∀ (w1 : World), Mv C i i w w1 → Calls Tryz.prog 88 #[.pointer (some ⟨C.R, 0, none⟩)] w1 (RPlc C i w1 (nameS (dimN C.s) C.L i))) := Lib.hid (fun w1 hm => pdim_any C hC i hi w1 (hR.mv hm))
 have HNU : Hid (∀ (j : Nat) (w1 : World), j < C.L.length → Mv C i j w w1 → Calls Tryz.prog 64 #[.pointer (some ⟨C.R, 0, none⟩)] w1 (RNum C j w1 (numT C.L j))) := Lib.hid (fun j w1 hj hm => pnumber_any C hC j hj w1 (hR.mv hm))
 obtain ⟨r, hr⟩ : ∃ r, RFlt C i w (condT (dimN C.s) C.L i) = r := ⟨_, rfl⟩
 rw [hr]
 have HRN := Lib.hid hr
 have HLT := Lib.hid hR.lt
 clear hr hR hC hi
 obtain ⟨R, hRR⟩ : ∃ r, C.R = r := ⟨_, rfl⟩
 have HRR := Lib.hid hRR
 rw [hRR] at HE HW HD HNU ⊢
 clear hRR
 go_enter Tryz.func62, Tryz.ntmps62
 go_wp2_with fail
 have hm0 : Mv C i i w ((w.alloc (.cells #[.pointer (some ⟨R, 0, none⟩)] 78)).alloc (.cells #[.int .i64 0, .slice none 0 0] 61)) := ((Mv.of_below (Below.refl _ _)).alloc _).alloc _
 have hk0 := (Blk.new w 78 #[.pointer (some ⟨R, 0, none⟩)]).alloc (.cells #[.int .i64 0, .slice none 0 0] 61)
 have hk1 := Blk.new (w.alloc (.cells #[.pointer (some ⟨R, 0, none⟩)] 78)) 61 #[.int .i64 0, .slice none 0 0]
 rw [World.size_alloc] at hk1
 have HM0 := Lib.hid hm0
 have HK0 := Lib.hid hk0
 have HK1 := Lib.hid hk1
 clear hm0 hk0 hk1
 generalize ((w.alloc (.cells #[.pointer (some ⟨R, 0, none⟩)] 78)).alloc (.cells #[.int .i64 0, .slice none 0 0] 61)) = w0 at *
 generalize hS : w.heap.size = S at *
 have HSS := Lib.hid hS
 have HLW : Hid (C.R < w.heap.size) := Lib.hid (by rw [hS]; exact HLT.out)
 clear hS
 have HCT : Hid (condT (dimN C.s) C.L i = nameS (dimN C.s) C.L i >>= fun d => if wordAt C.L d.1 [61] then numT C.L (d.1 + 1) >>= fun n => pure (n.1, ((d.2 : Int), [n.2])) else wantS C.L d.1 [105, 110] >>= fun a => wantS C.L a [40] >>= fun b => if wordAt C.L b [41] then pure (b + 1, ((d.2 : Int), [])) else listS (numOne C.L) C.L [44] C.L.length b [] >>= fun l => wantS C.L l.1 [41] >>= fun c => pure (c, ((d.2 : Int), l.2))) := Lib.hid rfl
 have HDD := Lib.hid (HD.out _ HM0.out)
 rcases hx1 : nameS (dimN C.s) C.L i with f1 | ⟨j, d⟩
 ·rw [hx1] at HDD
  have HCX : Hid (condT (dimN C.s) C.L i = .error f1) := Lib.hid (by rw [HCT.out, hx1]; rfl)
  clear hx1
  refine HDD.out.mono ?_; rintro e wz ⟨rfl, hbz⟩
  have HBZ := Lib.hid hbz
  clear hbz
  go_wp2_with fail
  rw [← HRN.out, HCX.out]
  exact ⟨rfl, rfl, HBZ.out⟩
 ·rw [hx1] at HDD
  have HC1 : Hid (condT (dimN C.s) C.L i = if wordAt C.L j [61] = true then (numT C.L (j + 1) >>= fun n => pure (n.1, ((d : Int), [n.2]))) else (wantS C.L j [105, 110] >>= fun a => wantS C.L a [40] >>= fun b => if wordAt C.L b [41] then pure (b + 1, ((d : Int), [])) else listS (numOne C.L) C.L [44] C.L.length b [] >>= fun l => wantS C.L l.1 [41] >>= fun c => pure (c, ((d : Int), l.2)))) := Lib.hid (by rw [HCT.out, hx1]; rfl)
  have HDI := Lib.hid (name_i64 (by have := (chk_dims HC.out.chk).1; unfold dimN; rw [List.length_map]; omega) hx1).2
  have HJL : Hid (j < C.L.length) := Lib.hid (name_next HC.out.good hx1)
  have HJ0 : Hid (j = i + 1) := Lib.hid (name_ok hx1).1
  clear hx1
  refine HDD.out.mono ?_; rintro e w2 ⟨rfl, hm2⟩
  have HM2 := Lib.hid ((HM0.out.trans hm2).alloc (.cells #[.int .i64 (d : Int), .slice none 0 0] 61))
  have HB2 := Lib.hid ((hm2.kp.blk HK0.out (by have := HLT.out; omega)).alloc (.cells #[.int .i64 (d : Int), .slice none 0 0] 61))
  have HS2 := Lib.hid ((hm2.kp.blk HK1.out (by have := HLT.out; omega)).alloc (.cells #[.int .i64 (d : Int), .slice none 0 0] 61))
  have HF2 := Lib.hid (Blk.new w2 61 #[.int .i64 (d : Int), .slice none 0 0])
  have HFB : Hid (S + 1 < w2.heap.size) := Lib.hid (hm2.kp.blk HK1.out (by have := HLT.out; omega)).lt
  have b0 : w2.cell? ⟨S, 0, none⟩ = some (.pointer (some ⟨R, 0, none⟩)) := (hm2.kp.blk HK0.out (by have := HLT.out; omega)).cell 0
  have hSlt : S < w2.heap.size := by have := HFB.out; omega
  dsimp only at HM2 ⊢
  clear hm2 HDD HK0 HK1 HM0
  go_wp2_with fail
  generalize w2.alloc (.cells #[.int .i64 (d : Int), .slice none 0 0] 61) = w3 at *
  generalize hfb : w2.heap.size = fb at *
  clear hfb b0
  obtain ⟨v, hv⟩ : ∃ v, wordAt C.L j [61] = v := ⟨_, rfl⟩
  have HEE := Lib.hid (HE.out j ⟨#[61]⟩ _ v rfl hv w3 HJL.out (HR.out.mv HM2.out))
  rw [hv] at HC1
  have HV := Lib.hid hv
  clear hv
  refine HEE.out.mono ?_; rintro e w4 ⟨rfl, hm4⟩
  have HB4 := Lib.hid (hm4.kp.blk HB2.out (by have := HLT.out; omega))
  have HS4 := Lib.hid (hm4.kp.blk HS2.out (by have := HLT.out; omega))
  have HF4 := Lib.hid (hm4.kp.blk HF2.out (by have := HLT.out; have := HFB.out; omega))
  have HM4 := Lib.hid (HM2.out.trans hm4)
  have b0 := HB4.out.c 0
  clear hm4 HEE HM2 HB2 HS2 HF2
  rcases v with _ | _
  ·rw [if_neg (by decide)] at HC1
   have HM4 : Hid (Mv C i j w w4) := HM4
   go_wp2_with fail
   have HWC := Lib.hid (HW.out j ⟨#[105, 110]⟩ [105, 110] _ rfl HJL.out HM4.out)
   rcases hx2 : wantS C.L j [105, 110] with f2 | j1
   ·rw [hx2] at HWC
    have HCX : Hid (condT (dimN C.s) C.L i = .error f2) := Lib.hid (by rw [HC1.out, hx2]; rfl)
    clear hx2
    refine HWC.out.mono ?_; rintro e wz ⟨rfl, hbz⟩
    have HBZ := Lib.hid hbz
    clear hbz
    go_wp2_with fail
    rw [← HRN.out, HCX.out]
    exact ⟨rfl, rfl, HBZ.out⟩
   ·rw [hx2] at HWC
    have HC2 : Hid (condT (dimN C.s) C.L i = wantS C.L j1 [40] >>= fun b => if wordAt C.L b [41] then pure (b + 1, ((d : Int), [])) else listS (numOne C.L) C.L [44] C.L.length b [] >>= fun l => wantS C.L l.1 [41] >>= fun c => pure (c, ((d : Int), l.2))) := Lib.hid (by rw [HC1.out, hx2]; rfl)
    have HJ1 := Lib.hid (want_next HC.out.good hx2)
    have HJ11 := Lib.hid (want_ok hx2).1
    clear hx2
    refine HWC.out.mono ?_; rintro e w5 ⟨rfl, hm5⟩
    have HM5 := Lib.hid (HM4.out.trans hm5)
    have HB5 := Lib.hid (hm5.kp.blk HB4.out (by have := HLT.out; omega))
    have HS5 := Lib.hid (hm5.kp.blk HS4.out (by have := HLT.out; omega))
    have HF5 := Lib.hid (hm5.kp.blk HF4.out (by have := HLT.out; have := HFB.out; omega))
    clear b0 hm5 HWC
    have b0 := HB5.out.c 0
    go_wp2_with fail
    have HWC := Lib.hid (HW.out j1 ⟨#[40]⟩ [40] _ rfl HJ1.out HM5.out)
    rcases hx3 : wantS C.L j1 [40] with f3 | j2
    ·rw [hx3] at HWC
     have HCX : Hid (condT (dimN C.s) C.L i = .error f3) := Lib.hid (by rw [HC2.out, hx3]; rfl)
     clear hx3
     refine HWC.out.mono ?_; rintro e wz ⟨rfl, hbz⟩
     have HBZ := Lib.hid hbz
     clear hbz
     go_wp2_with fail
     rw [← HRN.out, HCX.out]
     exact ⟨rfl, rfl, HBZ.out⟩
    ·rw [hx3] at HWC
     have HC3 : Hid (condT (dimN C.s) C.L i = if wordAt C.L j2 [41] = true then pure (j2 + 1, ((d : Int), [])) else (listS (numOne C.L) C.L [44] C.L.length j2 [] >>= fun l => wantS C.L l.1 [41] >>= fun c => pure (c, ((d : Int), l.2)))) := Lib.hid (by rw [HC2.out, hx3]; rfl)
     have HJ2 := Lib.hid (want_next HC.out.good hx3)
     have HJ22 : Hid (0 < j2 ∧ i ≤ j2) := Lib.hid (by have := (want_ok hx3).1; have := HJ11.out; have := HJ0.out; omega)
     clear hx3
     refine HWC.out.mono ?_; rintro e w6 ⟨rfl, hm6⟩
     have HM6 := Lib.hid (HM5.out.trans hm6)
     have HB6 := Lib.hid (hm6.kp.blk HB5.out (by have := HLT.out; omega))
     have HS6 := Lib.hid (hm6.kp.blk HS5.out (by have := HLT.out; omega))
     have HF6 := Lib.hid (hm6.kp.blk HF5.out (by have := HLT.out; have := HFB.out; omega))
     clear b0 hm6 HWC
     have b0 := HB6.out.c 0
     go_wp2_with fail
     obtain ⟨v, hv⟩ : ∃ v, wordAt C.L j2 [41] = v := ⟨_, rfl⟩
     have HEE := Lib.hid (HE.out j2 ⟨#[41]⟩ _ v rfl hv w6 HJ2.out (HR.out.mv HM6.out))
     rw [hv] at HC3
     clear hv
     refine HEE.out.mono ?_; rintro e w7 ⟨rfl, hm7⟩
     have HM7 := Lib.hid (HM6.out.trans hm7)
     have HB7 := Lib.hid (hm7.kp.blk HB6.out (by have := HLT.out; omega))
     have HRS := Lib.hid (hm7.kp.blk HS6.out (by have := HLT.out; omega))
     have HFS := Lib.hid (hm7.kp.blk HF6.out (by have := HLT.out; have := HFB.out; omega))
     clear b0 hm7 HEE
     rcases v with _ | _
     ·rw [if_neg (by decide)] at HC3
      have HM7 : Hid (Mv C i j2 w w7) := HM7
      have b0 := HB7.out.c 0
      have HLIST := Lib.hid (plist_any C HC.out (cond_reads C HC.out w i S fb (S + 1) (d : Int) (by have := HFB.out; omega) (by have := HLT.out; omega) HR.out (by rw [HSS.out]; exact HLT.out) (by have := HLT.out; omega) (by have := HLT.out; have := HFB.out; omega)) ⟨#[44]⟩ [44] rfl j2 HJ2.out HJ22.out.1 ([] : List Int) w7 ⟨HJ22.out.2, HM7.out, by rw [HRR.out]; exact HB7.out, ⟨.slice none 0 0, HFS.out, World.ownsRow_nil _ _ _ _⟩, Nat.zero_le _, (fun _ h => nomatch h), by rw [HSS.out]; have := HFB.out; omega, HRS.out⟩)
      rw [HRR.out] at HLIST
      go_wp2_with fail
      rcases hx4 : listS (numOne C.L) C.L [44] C.L.length j2 [] with f4 | ⟨j3, l⟩
      ·rw [hx4] at HLIST
       have HCX : Hid (condT (dimN C.s) C.L i = .error f4) := Lib.hid (by rw [HC3.out, hx4]; rfl)
       clear hx4
       refine HLIST.out.mono ?_; rintro e wz ⟨rfl, hbz⟩
       have HBZ := Lib.hid hbz
       clear hbz
       go_wp2_with fail
       rw [← HRN.out, HCX.out]
       exact ⟨rfl, rfl, HBZ.out⟩
      ·rw [hx4] at HLIST
       have HC4 : Hid (condT (dimN C.s) C.L i = wantS C.L j3 [41] >>= fun c => pure (c, ((d : Int), l))) := Lib.hid (by rw [HC3.out, hx4]; rfl)
       have HJ3 := Lib.hid (list_next (cond_reads C HC.out w i S fb (S + 1) (d : Int) (by have := HFB.out; omega) (by have := HLT.out; omega) HR.out (by rw [HSS.out]; exact HLT.out) (by have := HLT.out; omega) (by have := HLT.out; have := HFB.out; omega)) [44] _ _ _ _ HJ2.out hx4)
       clear hx4
       refine HLIST.out.mono ?_; rintro e w8 ⟨rfl, -, hm8, hb8, ⟨vv, hf8, ho8⟩, -, ha8, -, hr8⟩
       have HM8 := Lib.hid hm8
       have HB8 : Hid (Blk w8 S 78 #[.pointer (some ⟨R, 0, none⟩)]) := Lib.hid (by rw [← HRR.out]; exact hb8)
       have HF8 := Lib.hid hf8
       have HO8 : Hid (w8.ownsRow w.heap.size 3 1 vv l.length (l.map (Value.int .i64))) := Lib.hid ho8
       have HA8 := Lib.hid ha8
       have HS8 : Hid (Blk w8 (S + 1) 61 #[.int .i64 0, .slice none 0 0]) := Lib.hid hr8
       have b1 := HB8.out.c 0
       clear b0 hm8 hb8 hf8 ho8 ha8 hr8 HLIST
       go_wp2_with fail
       have HWC := Lib.hid (HW.out j3 ⟨#[41]⟩ [41] _ rfl HJ3.out HM8.out)
       rcases hx5 : wantS C.L j3 [41] with f5 | j4
       ·rw [hx5] at HWC
        have HCX : Hid (condT (dimN C.s) C.L i = .error f5) := Lib.hid (by rw [HC4.out, hx5]; rfl)
        clear hx5
        refine HWC.out.mono ?_; rintro e wz ⟨rfl, hbz⟩
        have HBZ := Lib.hid hbz
        clear hbz
        go_wp2_with fail
        rw [← HRN.out, HCX.out]
        exact ⟨rfl, rfl, HBZ.out⟩
       ·rw [hx5] at HWC
        have HCX : Hid (condT (dimN C.s) C.L i = .ok (j4, ((d : Int), l))) := Lib.hid (by rw [HC4.out, hx5]; rfl)
        clear hx5
        refine HWC.out.mono ?_; rintro e w9 ⟨rfl, hm9⟩
        have HMS := Lib.hid (HM8.out.trans hm9)
        have HRS := Lib.hid (hm9.kp.blk HS8.out (by have := HLT.out; omega))
        have HFS := Lib.hid (hm9.kp.blk HF8.out (by have := HLT.out; have := HFB.out; omega))
        have HOS0 := Lib.hid (own_kp hm9.kp HO8.out HLW.out)
        obtain ⟨a3, c3, rfl⟩ := own_form HOS0.out
        have HOS := HOS0
        clear b1 hm9 HWC
        have x0 := HFS.out.c 0
        have x1 := HFS.out.c 1
        have y0 := HRS.out.c 0
        have y1 := HRS.out.c 1
        have f0 : w9.frozen? ⟨S + 1, 0, none⟩ = false := HRS.out.frozen 0
        have f1 : w9.frozen? ⟨S + 1, 1, none⟩ = false := HRS.out.frozen 1
        go_wp2_with fail
        have HRF := Lib.hid ((HRS.out.set_ 0 (.int .i64 (d : Int))).set_ 1 (.slice a3 l.length c3))
        have HMF : Hid (Mv C i j4 w ((w9.setCell ⟨S + 1, 0, none⟩ (.int .i64 (d : Int))).setCell ⟨S + 1, 1, none⟩ (.slice a3 l.length c3))) := Lib.hid ((HMS.out.far (by have := HSS.out; show w.heap.size ≤ S + 1; omega) HLW.out _).far (by have := HSS.out; show w.heap.size ≤ S + 1; omega) HLW.out _)
        have HOF := Lib.hid (own_setb (own_setb HOS.out HRS.out (by decide) 0 (.int .i64 (d : Int))) (HRS.out.set_ 0 _) (by decide) 1 (.slice a3 l.length c3))
        refine bodyPost_ret (v := .agg #[.int .i64 (d : Int), .slice a3 l.length c3]) ?_ rfl ?_
        ·have z0 : ((w9.setCell ⟨S + 1, 0, none⟩ (.int .i64 (d : Int))).setCell ⟨S + 1, 1, none⟩ (.slice a3 l.length c3)).cell? ⟨S + 1, 0, none⟩ = some (.int .i64 (d : Int)) := HRF.out.cell 0
         have z1 : ((w9.setCell ⟨S + 1, 0, none⟩ (.int .i64 (d : Int))).setCell ⟨S + 1, 1, none⟩ (.slice a3 l.length c3)).cell? ⟨S + 1, 1, none⟩ = some (.slice a3 l.length c3) := HRF.out.cell 1
         simp [results, Tryz.results62, go_sem, z0, z1]
        ·rw [← HRN.out, HCX.out]
         exact ⟨a3, c3, rfl, HOF.out, HMF.out, HDI.out, HA8.out⟩
     ·rw [if_pos rfl] at HC3
      have HMS : Hid (Mv C i (j2 + 1) w w7) := HM7
      have HCX : Hid (condT (dimN C.s) C.L i = .ok (j2 + 1, ((d : Int), []))) := Lib.hid (by rw [HC3.out]; rfl)
      have HOS : Hid (w7.ownsRow w.heap.size 3 1 (.slice none 0 0) 0 []) := Lib.hid (World.ownsRow_nil _ _ _ _)
      have x0 := HFS.out.c 0
      have x1 := HFS.out.c 1
      have y0 := HRS.out.c 0
      have y1 := HRS.out.c 1
      have f0 : w7.frozen? ⟨S + 1, 0, none⟩ = false := HRS.out.frozen 0
      have f1 : w7.frozen? ⟨S + 1, 1, none⟩ = false := HRS.out.frozen 1
      go_wp2_with fail
      have HRF := Lib.hid ((HRS.out.set_ 0 (.int .i64 (d : Int))).set_ 1 (.slice none 0 0))
      have HMF : Hid (Mv C i (j2 + 1) w ((w7.setCell ⟨S + 1, 0, none⟩ (.int .i64 (d : Int))).setCell ⟨S + 1, 1, none⟩ (.slice none 0 0))) := Lib.hid ((HMS.out.far (by have := HSS.out; show w.heap.size ≤ S + 1; omega) HLW.out _).far (by have := HSS.out; show w.heap.size ≤ S + 1; omega) HLW.out _)
      have HOF := Lib.hid (own_setb (own_setb HOS.out HRS.out (by decide) 0 (.int .i64 (d : Int))) (HRS.out.set_ 0 _) (by decide) 1 (.slice none 0 0))
      refine bodyPost_ret (v := .agg #[.int .i64 (d : Int), .slice none 0 0]) ?_ rfl ?_
      ·have z0 : ((w7.setCell ⟨S + 1, 0, none⟩ (.int .i64 (d : Int))).setCell ⟨S + 1, 1, none⟩ (.slice none 0 0)).cell? ⟨S + 1, 0, none⟩ = some (.int .i64 (d : Int)) := HRF.out.cell 0
       have z1 : ((w7.setCell ⟨S + 1, 0, none⟩ (.int .i64 (d : Int))).setCell ⟨S + 1, 1, none⟩ (.slice none 0 0)).cell? ⟨S + 1, 1, none⟩ = some (.slice none 0 0) := HRF.out.cell 1
       simp [results, Tryz.results62, go_sem, z0, z1]
      ·rw [← HRN.out, HCX.out]
       exact ⟨none, 0, rfl, HOF.out, HMF.out, HDI.out, (fun _ h => nomatch h)⟩
  ·rw [if_pos rfl] at HC1
   have HM4 : Hid (Mv C i (j + 1) w w4) := HM4
   have HJ1 := Lib.hid (word_next HC.out.good HV.out)
   go_wp2_with fail
   have HNN := Lib.hid (HNU.out (j + 1) _ HJ1.out HM4.out)
   rcases hx2 : numT C.L (j + 1) with f2 | ⟨j2, n⟩
   ·rw [hx2] at HNN
    have HCX : Hid (condT (dimN C.s) C.L i = .error f2) := Lib.hid (by rw [HC1.out, hx2]; rfl)
    clear hx2
    refine HNN.out.mono ?_; rintro e wz ⟨rfl, hbz⟩
    have HBZ := Lib.hid hbz
    clear hbz
    go_wp2_with fail
    rw [← HRN.out, HCX.out]
    exact ⟨rfl, rfl, HBZ.out⟩
   ·rw [hx2] at HNN
    have HCX : Hid (condT (dimN C.s) C.L i = .ok (j2, ((d : Int), [n]))) := Lib.hid (by rw [HC1.out, hx2]; rfl)
    have HNI := Lib.hid (numT_i64 HC.out.good HJ1.out hx2)
    clear hx2
    refine HNN.out.mono ?_; rintro e w5 ⟨rfl, hm5⟩
    dsimp only
    have hfl : Blk w5 fb 61 #[.int .i64 (d : Int), .slice none 0 0] := hm5.kp.blk HF4.out (by have := HLT.out; have := HFB.out; omega)
    have hsl : Blk w5 (S + 1) 61 #[.int .i64 0, .slice none 0 0] := hm5.kp.blk HS4.out (by have := HLT.out; omega)
    have HMS := Lib.hid (((HM4.out.trans hm5).far (p := ⟨fb, 1, none⟩) (by have := HSS.out; have := HFB.out; show w.heap.size ≤ fb; omega) HLW.out (.slice (some ⟨w5.heap.size, 0, none⟩) 1 1)).alloc (.cells #[.int .i64 n] 3))
    have HRS := Lib.hid ((hsl.far (p := ⟨fb, 1, none⟩) (by have := HFB.out; show S + 1 ≠ fb; omega) (.slice (some ⟨w5.heap.size, 0, none⟩) 1 1)).alloc (.cells #[.int .i64 n] 3))
    have HFS := Lib.hid ((hfl.set_ 1 (.slice (some ⟨w5.heap.size, 0, none⟩) 1 1)).alloc (.cells #[.int .i64 n] 3))
    have hos := own_one (w5.setCell ⟨fb, 1, none⟩ (.slice (some ⟨w5.heap.size, 0, none⟩) 1 1)) w.heap.size 3 (.int .i64 n) (by rw [World.size_setCell]; exact (HM4.out.trans hm5).kp.size)
    rw [World.size_setCell] at hos
    have HOS := Lib.hid hos
    have hflt : fb < w5.heap.size := hfl.lt
    have x1 := hfl.c 1
    have f1 : w5.frozen? ⟨fb, 1, none⟩ = false := hfl.frozen 1
    clear hm5 HNN b0 hfl hsl hos
    go_upto_region 4 with fail
    clear x1 f1 hflt
    generalize (w5.setCell ⟨fb, 1, none⟩ (.slice (some ⟨w5.heap.size, 0, none⟩) 1 1)).alloc (.cells #[.int .i64 n] 3) = w6 at *
    generalize w5.heap.size = H5 at *
    have x0 : w6.cell? ⟨fb, 0, none⟩ = some (.int .i64 (d : Int)) := HFS.out.cell 0
    have x1 : w6.cell? ⟨fb, 1, none⟩ = some (.slice (some ⟨H5, 0, none⟩) 1 1) := HFS.out.cell 1
    have y0 := HRS.out.c 0
    have y1 := HRS.out.c 1
    have f0 : w6.frozen? ⟨S + 1, 0, none⟩ = false := HRS.out.frozen 0
    have f1 : w6.frozen? ⟨S + 1, 1, none⟩ = false := HRS.out.frozen 1
    go_wp2_with fail
    have HRF := Lib.hid ((HRS.out.set_ 0 (.int .i64 (d : Int))).set_ 1 (.slice (some ⟨H5, 0, none⟩) 1 1))
    have HMF : Hid (Mv C i j2 w ((w6.setCell ⟨S + 1, 0, none⟩ (.int .i64 (d : Int))).setCell ⟨S + 1, 1, none⟩ (.slice (some ⟨H5, 0, none⟩) 1 1))) := Lib.hid ((HMS.out.far (by have := HSS.out; show w.heap.size ≤ S + 1; omega) HLW.out _).far (by have := HSS.out; show w.heap.size ≤ S + 1; omega) HLW.out _)
    have HOF := Lib.hid (own_setb (own_setb HOS.out HRS.out (by decide) 0 (.int .i64 (d : Int))) (HRS.out.set_ 0 _) (by decide) 1 (.slice (some ⟨H5, 0, none⟩) 1 1))
    refine bodyPost_ret (v := .agg #[.int .i64 (d : Int), .slice (some ⟨H5, 0, none⟩) 1 1]) ?_ rfl ?_
    ·have z0 : ((w6.setCell ⟨S + 1, 0, none⟩ (.int .i64 (d : Int))).setCell ⟨S + 1, 1, none⟩ (.slice (some ⟨H5, 0, none⟩) 1 1)).cell? ⟨S + 1, 0, none⟩ = some (.int .i64 (d : Int)) := HRF.out.cell 0
     have z1 : ((w6.setCell ⟨S + 1, 0, none⟩ (.int .i64 (d : Int))).setCell ⟨S + 1, 1, none⟩ (.slice (some ⟨H5, 0, none⟩) 1 1)).cell? ⟨S + 1, 1, none⟩ = some (.slice (some ⟨H5, 0, none⟩) 1 1) := HRF.out.cell 1
     simp [results, Tryz.results62, go_sem, z0, z1]
    ·rw [← HRN.out, HCX.out]
     exact ⟨some ⟨H5, 0, none⟩, 1, rfl, HOF.out, HMF.out, HDI.out, (fun y hy => by rw [List.mem_singleton.1 hy]; exact HNI.out.2)⟩
end Go.Proofs.YtaofjnidniekjaaGreatDoor
/- What the reader of package parse does with a condition of a query, and the whole reading. Conditions: those stated. -/
namespace Go.Proofs.YtaofjnidniekjaaGreatDoor
open Go.RowKit

theorem cond_goes' {dims : List ByteArray} {L : List Tok} {i : Nat} {x : Nat × (Int × List Int)} (h : condT dims L i = .ok x) : i < x.1 ∧ x.1 ≤ L.length := by
 have h1 : condS dims L i QP.nul = .ok (x.1, { QP.nul with flts := QP.nul.flts ++ [x.2] }) := by rw [cond_one, h]; rfl
 exact cond_goes dims L i QP.nul _ h1
set_option maxRecDepth 100000 in
set_option maxHeartbeats 1000000 in
theorem qcond_any (C : RC) (hC : C.Ok) (bx i : Nat) (q : QP) (w : World) (hi : i < C.L.length) (hQ : QB C bx i q w) :
  Calls Tryz.prog 61 #[.pointer (some ⟨bx, 0, none⟩)] w (RList C (QB C bx) (condS (dimN C.s) C.L i q)) := by
 rw [cond_one]
 obtain ⟨⟨vf, vc, vo, fl, hr⟩, hbx, hlt⟩ := hQ
 have HC := Lib.hid hC
 have HR := Lib.hid hr.drew
 have HBX := Lib.hid hbx.drew
 have HLT := Lib.hid hlt
 have HI := Lib.hid hi
 have c0 : w.drew.cell? ⟨bx, 0, none⟩ = some (.pointer (some ⟨C.R, 0, none⟩)) := HBX.out.cell 0
 have c8 : w.drew.cell? ⟨C.R, 7, none⟩ = some vf := by rw [Blk.cell HR.out.rd]; rfl
 have f8 : w.drew.frozen? ⟨C.R, 7, none⟩ = false := Blk.frozen HR.out.rd 7
 have hmany := hC.good.many
 have hl : fl.length ≤ 1001 := by have := hr.len.2.2; omega
 have HCOL := Lib.hid (pcond_any C hC i hi w.drew hr.drew.at')
 have HWS : Hid (C.R + 1 ≤ w.drew.heap.size) := Lib.hid hr.drew.rd.lt
 clear hC hr hbx hlt hi hmany
 obtain ⟨R, hRR⟩ : ∃ r, C.R = r := ⟨_, rfl⟩
 have HRR := Lib.hid hRR
 rw [hRR] at c0 c8 f8 HCOL
 clear hRR
 obtain ⟨r, hrr⟩ : ∃ r, RList C (QB C bx) (condT (dimN C.s) C.L i >>= fun x => pure (x.1, { q with flts := q.flts ++ [x.2] })) = r := ⟨_, rfl⟩
 rw [hrr]
 have HRN := Lib.hid hrr
 clear hrr
 go_enter Tryz.func61, Tryz.ntmps61
 go_upto_region 0 with fail
 refine wp_regionN (fun w' => w'.cell? ⟨bx, 0, none⟩ = some (.pointer (some ⟨R, 0, none⟩)) ∧ w'.cell? ⟨R, 7, none⟩ = some vf ∧ w'.frozen? ⟨R, 7, none⟩ = false) [13] (by kernel_rfl) (by exact ⟨c0, c8, f8⟩) (fun hHeld => ?_)
 refine wpAnyN_t 0 ⟨some 1, _, _, _, _, _⟩ ?_ rfl ?_ ?_
 rotate_left 1
 ·(intro w hSw; (try dsimp only at hSw); go_simp; try with_reducible rfl)
 try simp only [Act.put, putA, putB, putC]
 refine wpAnyN_t 1 ⟨some 2, _, _, _, _, _⟩ ?_ rfl ?_ ?_
 rotate_left 1
 ·(intro w hSw; (try dsimp only at hSw); go_simp; try with_reducible rfl)
 try simp only [Act.put, putA, putB, putC]
 refine wpAnyN_t 2 ⟨some 3, _, _, _, _, _⟩ ?_ rfl ?_ ?_
 rotate_left 1
 ·(intro w hSw; (try dsimp only at hSw); go_simp; try with_reducible rfl)
 try simp only [Act.put, putA, putB, putC]
 refine wpAnyN_t 3 ⟨some 4, _, _, _, _, _⟩ ?_ rfl ?_ ?_
 rotate_left 1
 ·(intro w hSw; (try dsimp only at hSw); go_simp; try with_reducible rfl)
 try simp only [Act.put, putA, putB, putC]
 refine wpAnyN_t 4 ⟨some 5, _, _, _, _, _⟩ ?_ rfl ?_ ?_
 rotate_left 1
 ·(intro w hSw; (try dsimp only at hSw); go_simp; try with_reducible rfl)
 try simp only [Act.put, putA, putB, putC]
 refine wpAnyN_t 5 ⟨some 6, _, _, _, _, _⟩ ?_ rfl ?_ ?_
 rotate_left 1
 ·(intro w hSw; (try dsimp only at hSw); go_simp; try with_reducible rfl)
 try simp only [Act.put, putA, putB, putC]
 refine wpAnyN_t 6 ⟨some 7, _, _, _, _, _⟩ ?_ rfl ?_ ?_
 rotate_left 1
 ·(intro w hSw; (try dsimp only at hSw); go_simp; try with_reducible rfl)
 try simp only [Act.put, putA, putB, putC]
 refine wpAnyN_one (i := 7) (o := ⟨some 8, _, _, _, _, _⟩) (by kernel_rfl) rfl (fun K hK => ?_)
 go_simp
 rcases hx : condT (dimN C.s) C.L i with f | ⟨j, x⟩
 ·rw [hx] at HCOL
  have hcx : RList C (QB C bx) (condT (dimN C.s) C.L i >>= fun x => pure (x.1, { q with flts := q.flts ++ [x.2] })) = RList C (QB C bx) (.error f) := by rw [hx]; rfl
  rw [hcx] at HRN
  clear hx hcx
  refine HCOL.out.mono ?_; rintro e w2 ⟨rfl, hb2⟩
  rw [← HRN.out]
  exact ⟨rfl, rfl, hb2⟩
 ·rw [hx] at HCOL
  have hcx : RList C (QB C bx) (condT (dimN C.s) C.L i >>= fun x => pure (x.1, { q with flts := q.flts ++ [x.2] })) = RList C (QB C bx) (.ok (j, { q with flts := q.flts ++ [x] })) := by rw [hx]; rfl
  rw [hcx] at HRN
  have HX := Lib.hid (cond_goes' hx)
  clear hx hcx
  refine HCOL.out.mono ?_; rintro e w2 ⟨xa, xc, rfl, hox, hm2, hx1, hx2⟩
  have HR2 := Lib.hid (HR.out.mv hm2 (Nat.le_of_lt HX.out.1))
  have HBX3 := Lib.hid (hm2.kp.blk HBX.out (by have := HLT.out; omega))
  have HOX := Lib.hid (own_base hox HWS.out)
  have HXI := Lib.hid (And.intro hx1 hx2)
  have hRlt : R < w2.heap.size := by rw [← HRR.out]; exact HR2.out.rd.lt
  have hbxlt : bx < w2.heap.size := HBX3.out.lt
  have hB : C.R + 1 ≤ w2.heap.size := HR2.out.rd.lt
  have d0 : w2.cell? ⟨bx, 0, none⟩ = some (.pointer (some ⟨R, 0, none⟩)) := by rw [← HRR.out]; exact HBX3.out.cell 0
  have d8 : w2.cell? ⟨R, 7, none⟩ = some vf := by rw [← HRR.out, Blk.cell HR2.out.rd]; rfl
  have g8 : w2.frozen? ⟨R, 7, none⟩ = false := by rw [← HRR.out]; exact Blk.frozen HR2.out.rd 7
  clear hm2 HCOL c0 c8 f8 hox hx1 hx2
  obtain ⟨xk, xl⟩ := x
  dsimp only
  refine hK.out _ _ (by exact ⟨d0, d8, g8⟩) ?_
  clear hK K hHeld
  intro hHeld
  try simp only [Act.put, putA, putB, putC]
  refine wpAnyN_one (i := 8) (o := ⟨some 9, _, _, _, _, _⟩) (by kernel_rfl) rfl (fun K hK => ?_)
  go_simp
  have a0 := (World.cell?_alloc_lt w2 (.cells #[.int .i64 xk, .slice xa xl.length xc] 61) ⟨bx, 0, none⟩ hbxlt).trans d0
  have a8 := (World.cell?_alloc_lt w2 (.cells #[.int .i64 xk, .slice xa xl.length xc] 61) ⟨R, 7, none⟩ hRlt).trans d8
  have b8 := ((HR2.out.rd.alloc (.cells #[.int .i64 xk, .slice xa xl.length xc] 61)).frozen 7)
  rw [HRR.out] at b8
  refine hK.out _ _ (by exact ⟨a0, a8, b8⟩) ?_
  clear hK K hHeld
  intro hHeld
  try simp only [Act.put, putA, putB, putC]
  refine wpAnyN_one (i := 9) (o := ⟨some 10, _, _, _, _, _⟩) (by kernel_rfl) rfl (fun K hK => ?_)
  refine step_append_oneG (z := .agg #[.int .i64 0, .slice none 0 0]) (sz := 2) (bytes := 32) info_flt rfl (by decide) Tryz.underlying28 rfl _ _ (by rfl) w2 _ #[.int .i64 xk, .slice xa xl.length xc] (C.R + 1) vf fl.length (fltCells fl) w2.heap.size rfl rfl (by rfl) (by rfl) HR2.out.rf (fun u hu => by simp at hu; rcases hu with rfl | rfl <;> rfl) (by omega) (by unfold maxLen; omega) hB ?_
  intro v' w' h2 h3 h4
  obtain ⟨a3, c3, rfl⟩ := own_form h2
  have hb' := below_grown HR2.out.bl h3 (Nat.le_of_lt HR2.out.rd.lt) (fun g hg => Nat.le_of_succ_le (own_ge HR2.out.rf g hg))
  have HF := Lib.hid (HR2.out.pushF ⟨xk, xl, xa, xl.length, xc⟩ HXI.out rfl HOX.out (by have := HR.out.len.2.2; have h0 : i < j := HX.out.1; omega) h2 h3 hb')
  have HBX4 := Lib.hid (blk_other HBX3.out HR2.out.rf (by decide) h3)
  have HRD := Lib.hid (blk_other HR2.out.rd HR2.out.rf (by decide) h3)
  have e0 : w'.cell? ⟨bx, 0, none⟩ = some (.pointer (some ⟨R, 0, none⟩)) := by rw [← HRR.out]; exact HBX4.out.cell 0
  have e8 : w'.cell? ⟨R, 7, none⟩ = some vf := by rw [← HRR.out, Blk.cell HRD.out]; rfl
  have k8 : w'.frozen? ⟨R, 7, none⟩ = false := by rw [← HRR.out]; exact Blk.frozen HRD.out 7
  clear h2 h3 h4 hb' d0 d8 g8
  refine hK.out _ _ (by exact ⟨e0, e8, k8⟩) ?_
  clear hK K hHeld
  intro hHeld
  try simp only [Act.put, putA, putB, putC]
  refine wpAnyN_t 10 ⟨some 11, _, _, _, _, _⟩ ?_ rfl ?_ ?_
  rotate_left 1
  ·(intro w hSw; (try dsimp only at hSw); go_simp; try with_reducible rfl)
  try simp only [Act.put, putA, putB, putC]
  refine wpAnyN_t 11 ⟨some 12, _, _, _, _, _⟩ ?_ rfl ?_ ?_
  rotate_left 1
  ·(intro w hSw; (try dsimp only at hSw); go_simp; try with_reducible rfl)
  try simp only [Act.put, putA, putB, putC]
  refine wpAnyN_t 12 ⟨some 13, _, _, _, _, _⟩ ?_ rfl ?_ ?_
  rotate_left 1
  ·(intro w hSw; (try dsimp only at hSw); go_simp; try with_reducible rfl)
  try simp only [Act.put, putA, putB, putC]
  refine wpAnyN_late (i := 13) (o := ⟨none, _, _, _, _, _⟩) (by kernel_rfl) (by kernel_rfl) rfl (fun K hK => ?_)
  go_simp
  refine hK.out _ _ ?_
  clear hK K
  try simp only [Act.put, putA, putB, putC]
  refine wpAnyN_end (by kernel_rfl) ?_
  go_wp2_with fail
  go_end0
  rw [← HRN.out]
  refine ⟨rfl, ⟨.slice a3 (fl.length + 1) c3, vc, vo, fl ++ [⟨xk, xl, xa, xl.length, xc⟩], ?_⟩, ?_, HLT.out⟩

  ·rw [← HRR.out]; exact HF.out
  ·rw [← HRR.out]; exact HBX4.out.far (by have := HLT.out; show bx ≠ C.R; omega) _
end Go.Proofs.YtaofjnidniekjaaGreatDoor
/- The whole reading of package parse. Conditions: those stated. -/
namespace Go.Proofs.YtaofjnidniekjaaGreatDoor
open Go.RowKit

theorem col_next {C : RC} (hg : TokOk C.L) (names : List ByteArray) (i : Nat) (q : QP) (y : Nat × QP) (_ : i < C.L.length) (h : colS names C.L i q = .ok y) : y.1 < C.L.length := by
 unfold colS at h
 split at h
 ·cases h
 ·rename_i h1; cases h
  have : ∀ (l : List (List UInt8)) (k m : Nat), kindAt C.L i l k = some m → i + 1 < C.L.length := by
   intro l
   induction l with
   | nil => intro k m h; cases h
   | cons w l ih =>
    intro k m h
    unfold kindAt at h
    split at h
    ·rename_i h1; exact word_next hg h1
    ·exact ih _ _ h
  exact this _ _ _ h1
 ·rename_i k h1
  obtain ⟨a, h2, h3⟩ := bind_ok h
  obtain ⟨b, h4, h5⟩ := bind_ok h3
  obtain ⟨c, h6, h7⟩ := bind_ok h5
  cases h7
  exact want_next hg h6
theorem group_next {C : RC} (hg : TokOk C.L) (names : List ByteArray) (i : Nat) (q : QP) (y : Nat × QP) (_ : i < C.L.length) (h : groupS names C.L i q = .ok y) : y.1 < C.L.length := by
 unfold groupS at h
 obtain ⟨a, h1, h2⟩ := bind_ok h
 have h3 := name_next hg h1
 dsimp only at h2
 split at h2
 ·cases h2
 ·cases h2; exact h3
theorem ord_next {C : RC} (hg : TokOk C.L) (i : Nat) (q : QP) (y : Nat × QP) (_ : i < C.L.length) (h : ordS C.L i q = .ok y) : y.1 < C.L.length := by
 unfold ordS at h
 obtain ⟨a, h1, h2⟩ := bind_ok h
 have h3 := num_next hg h1
 dsimp only at h2
 split at h2
 ·rename_i h5; cases h2; exact word_next hg h5
 ·split at h2
  ·rename_i h5; cases h2; exact word_next hg h5
  ·cases h2; exact h3
theorem cond_next {C : RC} (hg : TokOk C.L) (names : List ByteArray) (i : Nat) (q : QP) (y : Nat × QP) (_ : i < C.L.length) (h : condS names C.L i q = .ok y) : y.1 < C.L.length := by
 unfold condS at h
 obtain ⟨a, h1, h2⟩ := bind_ok h
 dsimp only at h2
 split at h2
 ·obtain ⟨b, h5, h6⟩ := bind_ok h2
  have := num_next hg h5
  cases h6
  exact this
 ·obtain ⟨b, h5, h6⟩ := bind_ok h2
  obtain ⟨c, h7, h8⟩ := bind_ok h6
  split at h8
  ·rename_i h9; cases h8; exact word_next hg h9
  ·obtain ⟨d, h9, h10⟩ := bind_ok h8
   obtain ⟨e, h11, h12⟩ := bind_ok h10
   cases h12
   exact want_next hg h11
theorem reads_col (C : RC) (hC : C.Ok) (bx : Nat) : Reads C (QB C bx) (colS (measN C.s) C.L) 57 (#[] ++ #[.pointer (some ⟨bx, 0, none⟩)]) where
 at' := fun i x w h => h.at'
 mv := fun i j x w w' hij h hm => QB.mv hij h hm
 read := fun i x w hi h => by simpa using qcol_any C hC bx i x w hi h
 goes := col_goes _ _
 call := fun w => by kernel_rfl
 next := fun i x y => col_next hC.good _ i x y
theorem reads_group (C : RC) (hC : C.Ok) (bx : Nat) : Reads C (QB C bx) (groupS (dimN C.s) C.L) 60 (#[.pointer (some ⟨C.R, 0, none⟩)] ++ #[]) where
 at' := fun i x w h => h.at'
 mv := fun i j x w w' hij h hm => QB.mv hij h hm
 read := fun i x w hi h => by simpa using pgroup_any C hC bx i x w hi h
 goes := group_goes _ _
 call := fun w => by kernel_rfl
 next := fun i x y => group_next hC.good _ i x y
theorem reads_cond (C : RC) (hC : C.Ok) (bx : Nat) : Reads C (QB C bx) (condS (dimN C.s) C.L) 61 (#[] ++ #[.pointer (some ⟨bx, 0, none⟩)]) where
 at' := fun i x w h => h.at'
 mv := fun i j x w w' hij h hm => QB.mv hij h hm
 read := fun i x w hi h => by simpa using qcond_any C hC bx i x w hi h
 goes := cond_goes _ _
 call := fun w => by kernel_rfl
 next := fun i x y => cond_next hC.good _ i x y
theorem reads_ord (C : RC) (hC : C.Ok) (bx : Nat) : Reads C (QB C bx) (ordS C.L) 63 (#[.pointer (some ⟨C.R, 0, none⟩)] ++ #[]) where
 at' := fun i x w h => h.at'
 mv := fun i j x w w' hij h hm => QB.mv hij h hm
 read := fun i x w hi h => by simpa using pord_any C hC bx i x w hi h
 goes := ord_goes _
 call := fun w => by kernel_rfl
 next := fun i x y => ord_next hC.good i x y
theorem list_goes {σ : Type} {L : List Tok} {one : Nat → σ → Except (Nat × Nat) (Nat × σ)} (hg : Goes L one) (b : List UInt8) : ∀ (f i : Nat) (x : σ) (y : Nat × σ), listS one L b f i x = .ok y → i < y.1
 | 0, _, _, _, h => by cases h
 | f + 1, i, x, y, h => by
  obtain ⟨a, h1, h2⟩ := bind_ok (x := one i x) (f := fun a => if wordAt L a.1 b = true then listS one L b f (a.1 + 1) a.2 else pure (a.1, a.2)) h
  have h3 := (hg i x a h1).1
  split at h2
  ·have := list_goes hg b f _ _ _ h2; omega
  ·cases h2; exact h3
theorem query_eq (dims meas : List ByteArray) (L : List Tok) : queryS dims meas L = (wantS L 0 [115, 101, 108, 101, 99, 116] >>= fun i => listS (colS meas L) L [44] L.length i QP.nul >>= fun x => partS (groupS dims L) L [98, 121] [44] x >>= fun x => partS (condS dims L) L [119, 104, 101, 114, 101] [97, 110, 100] x >>= fun x => partS (ordS L) L [111, 114, 100, 101, 114] [44] x >>= fun x => limS L x >>= fun x => endS L x) := rfl

set_option maxRecDepth 100000 in
set_option maxHeartbeats 2000000 in
theorem pquery_any (C : RC) (hC : C.Ok) (w : World) (hQ : ∃ vf vc vo fl, QR C 0 QP.nul vf vc vo fl w) :
  Calls Tryz.prog 27 #[.pointer (some ⟨C.R, 0, none⟩)] w (RList C (fun i q w' => ∃ vf vc vo fl, QR C i q vf vc vo fl w') (queryS (dimN C.s) (measN C.s) C.L)) := by
 have hmf : ∀ (fn : Fn) (first cap : Array Value) (w : World), (Instr.makeFunc fn first cap).run Tryz.prog w = .ok (.func fn first cap) w := fun _ _ _ _ => rfl
 have HC := Lib.hid hC
 have HQ0 : Hid (QB C w.heap.size 0 QP.nul (w.alloc (.cells #[.pointer (some ⟨C.R, 0, none⟩)] 78))) := Lib.hid (by
  obtain ⟨vf, vc, vo, fl, h⟩ := hQ
  exact ⟨⟨vf, vc, vo, fl, h.mv ((Mv.of_below (Below.refl _ _)).alloc _) (Nat.le_refl _)⟩, Blk.new _ _ _, h.rd.lt⟩)
 have HW : Hid (∀ (u : ByteArray) (t : List UInt8) (w1 : World), u.data.toList = t → RAt C 0 w1 → Calls Tryz.prog 55 #[.pointer (some ⟨C.R, 0, none⟩), .string u] w1 (RUnit C 0 w1 (wantS C.L 0 t))) := Lib.hid (fun u t w1 ht hm => by rw [← ht]; exact want_any C hC 0 hC.good.pos u w1 hm)
 have HE : Hid (∀ (j : Nat) (u : ByteArray) (t : List UInt8) (v : Bool), u.data.toList = t → wordAt C.L j t = v → ∀ w1, j < C.L.length → RAt C j w1 → Calls Tryz.prog 59 #[.pointer (some ⟨C.R, 0, none⟩), .string u] w1 fun e w' => e = .returned (.bool v) ∧ Mv C j (if v then j + 1 else j) w1 w') := Lib.hid (fun j u t v ht hb w1 hj hm => eat_any C hC j hj u v (by rw [ht]; exact hb) w1 hm)
 have HL1 := Lib.hid (fun (i : Nat) (hi : i < C.L.length) (hi0 : 0 < i) (q : QP) (w1 : World) (hq : QB C w.heap.size i q w1) => plist_any C hC (reads_col C hC w.heap.size) ⟨#[44]⟩ [44] rfl i hi hi0 q w1 hq)
 have HL2 := Lib.hid (fun (i : Nat) (hi : i < C.L.length) (hi0 : 0 < i) (q : QP) (w1 : World) (hq : QB C w.heap.size i q w1) => plist_any C hC (reads_group C hC w.heap.size) ⟨#[44]⟩ [44] rfl i hi hi0 q w1 hq)
 have HL3 := Lib.hid (fun (i : Nat) (hi : i < C.L.length) (hi0 : 0 < i) (q : QP) (w1 : World) (hq : QB C w.heap.size i q w1) => plist_any C hC (reads_cond C hC w.heap.size) ⟨#[97, 110, 100]⟩ [97, 110, 100] rfl i hi hi0 q w1 hq)
 have HL4 := Lib.hid (fun (i : Nat) (hi : i < C.L.length) (hi0 : 0 < i) (q : QP) (w1 : World) (hq : QB C w.heap.size i q w1) => plist_any C hC (reads_ord C hC w.heap.size) ⟨#[44]⟩ [44] rfl i hi hi0 q w1 hq)
 have HS1 : Hid (∀ i j q q', i < C.L.length → listS (colS (measN C.s) C.L) C.L [44] C.L.length i q = .ok (j, q') → j < C.L.length) := Lib.hid (fun i j q q' hi h => list_next (reads_col C hC w.heap.size) [44] _ _ _ _ hi h)
 have HS2 : Hid (∀ i j q q', i < C.L.length → listS (groupS (dimN C.s) C.L) C.L [44] C.L.length i q = .ok (j, q') → j < C.L.length) := Lib.hid (fun i j q q' hi h => list_next (reads_group C hC w.heap.size) [44] _ _ _ _ hi h)
 have HS3 : Hid (∀ i j q q', i < C.L.length → listS (condS (dimN C.s) C.L) C.L [97, 110, 100] C.L.length i q = .ok (j, q') → j < C.L.length) := Lib.hid (fun i j q q' hi h => list_next (reads_cond C hC w.heap.size) [97, 110, 100] _ _ _ _ hi h)
 have HS4 : Hid (∀ i j q q', i < C.L.length → listS (ordS C.L) C.L [44] C.L.length i q = .ok (j, q') → j < C.L.length) := Lib.hid (fun i j q q' hi h => list_next (reads_ord C hC w.heap.size) [44] _ _ _ _ hi h)
 obtain ⟨r, hr⟩ : ∃ r, RList C (fun i q w' => ∃ vf vc vo fl, QR C i q vf vc vo fl w') (queryS (dimN C.s) (measN C.s) C.L) = r := ⟨_, rfl⟩
 rw [hr]
 have HRN := Lib.hid hr
 have HQE := Lib.hid (query_eq (dimN C.s) (measN C.s) C.L)
 clear hr hC hQ
 obtain ⟨R, hRR⟩ : ∃ r, C.R = r := ⟨_, rfl⟩
 have HRR := Lib.hid hRR
 rw [hRR] at HW HE HL1 HL2 HL3 HL4 HQ0 ⊢
 clear hRR
 go_enter Tryz.func27, Tryz.ntmps27
 go_upto_region 1 with fail
 generalize w.alloc (.cells #[.pointer (some ⟨R, 0, none⟩)] 78) = w1 at *
 generalize w.heap.size = bx at *
 have b0 : w1.cell? ⟨bx, 0, none⟩ = some (.pointer (some ⟨R, 0, none⟩)) := by rw [← HRR.out]; exact HQ0.out.2.1.cell 0
 go_wp2_with fail
 have HWC := Lib.hid (HW.out ⟨#[115, 101, 108, 101, 99, 116]⟩ [115, 101, 108, 101, 99, 116] w1 rfl HQ0.out.at')
 rcases hx1 : wantS C.L 0 [115, 101, 108, 101, 99, 116] with f | i0
 ·rw [hx1] at HWC
  have HCX : Hid (queryS (dimN C.s) (measN C.s) C.L = .error f) := Lib.hid (by rw [HQE.out, hx1]; rfl)
  clear hx1
  refine HWC.out.mono ?_; rintro e wz ⟨rfl, hbz⟩
  have HBZ := Lib.hid hbz
  clear hbz
  go_wp2_with fail
  rw [← HRN.out, HCX.out]
  exact ⟨rfl, rfl, HBZ.out⟩
 ·rw [hx1] at HWC
  have HC0 : Hid (queryS (dimN C.s) (measN C.s) C.L = (listS (colS (measN C.s) C.L) C.L [44] C.L.length i0 QP.nul >>= fun x => partS (groupS (dimN C.s) C.L) C.L [98, 121] [44] x >>= fun x => partS (condS (dimN C.s) C.L) C.L [119, 104, 101, 114, 101] [97, 110, 100] x >>= fun x => partS (ordS C.L) C.L [111, 114, 100, 101, 114] [44] x >>= fun x => limS C.L x >>= fun x => endS C.L x)) := Lib.hid (by rw [HQE.out, hx1]; rfl)
  have HI0 := Lib.hid (want_next HC.out.good hx1)
  have HP0 : Hid (0 < i0) := Lib.hid (by have := (want_ok hx1).1; omega)
  clear hx1
  refine HWC.out.mono ?_; rintro e w0 ⟨rfl, hm0⟩
  have HQ00 := Lib.hid (QB.mv (Nat.zero_le _) HQ0.out hm0)
  clear hm0 b0 HWC
  have b0 : w0.cell? ⟨bx, 0, none⟩ = some (.pointer (some ⟨R, 0, none⟩)) := by rw [← HRR.out]; exact HQ00.out.2.1.cell 0
  have HLL := Lib.hid (HL1.out i0 HI0.out HP0.out QP.nul w0 HQ00.out)
  go_wp2_with fail
  rcases hx : listS (colS (measN C.s) C.L) C.L [44] C.L.length i0 QP.nul with f | ⟨i1, q1⟩
  ·rw [hx] at HLL
   have HCX : Hid (queryS (dimN C.s) (measN C.s) C.L = .error f) := Lib.hid (by rw [HC0.out, hx]; rfl)
   clear hx
   refine HLL.out.mono ?_; rintro e wz ⟨rfl, hbz⟩
   have HBZ := Lib.hid hbz
   clear hbz
   go_wp2_with fail
   rw [← HRN.out, HCX.out]
   exact ⟨rfl, rfl, HBZ.out⟩
  ·rw [hx] at HLL
   have HI1 := Lib.hid (HS1.out _ _ _ _ HI0.out hx)
   have HP1 : Hid (0 < i1) := Lib.hid (Nat.lt_of_le_of_lt (Nat.zero_le _) (list_goes (col_goes _ _) [44] _ _ _ _ hx))
   have HC1 : Hid (queryS (dimN C.s) (measN C.s) C.L = ((fun x => partS (groupS (dimN C.s) C.L) C.L [98, 121] [44] x >>= fun x => partS (condS (dimN C.s) C.L) C.L [119, 104, 101, 114, 101] [97, 110, 100] x >>= fun x => partS (ordS C.L) C.L [111, 114, 100, 101, 114] [44] x >>= fun x => limS C.L x >>= fun x => endS C.L x) : Nat × QP → Except (Nat × Nat) (Nat × QP)) (i1, q1)) := Lib.hid (by rw [HC0.out, hx]; rfl)
   clear hx b0
   refine HLL.out.mono ?_; rintro e w2 ⟨rfl, hq1⟩
   have HQ1 := Lib.hid hq1
   clear hq1 HLL
   obtain ⟨w1, rfl⟩ : ∃ w1, w1 = w2 := ⟨_, rfl⟩
   have b0 : w1.cell? ⟨bx, 0, none⟩ = some (.pointer (some ⟨R, 0, none⟩)) := by rw [← HRR.out]; exact HQ1.out.2.1.cell 0
   go_wp2_with fail
   obtain ⟨v, hv⟩ : ∃ v, wordAt C.L i1 [98, 121] = v := ⟨_, rfl⟩
   have HV := Lib.hid hv
   have HEE := Lib.hid (HE.out i1 ⟨#[98, 121]⟩ _ v rfl hv w1 HI1.out HQ1.out.at')
   clear hv
   refine HEE.out.mono ?_; rintro e wb ⟨rfl, hmb⟩
   have HQb := Lib.hid (QB.mv (by cases v <;> simp) HQ1.out hmb)
   clear b0 hmb HEE
   go_upto_if 8 with fail
   go_cut [] (fun wx => ∃ i' q', partS (groupS (dimN C.s) C.L) C.L [98, 121] [44] (i1, q1) = .ok (i', q') ∧ i' < C.L.length ∧ 0 < i' ∧ QB C bx i' q' wx)
   case first =>
    rcases v with _ | _
    ·have HPX : Hid (partS (groupS (dimN C.s) C.L) C.L [98, 121] [44] (i1, q1) = .ok (i1, q1)) := Lib.hid (by unfold partS; dsimp only; rw [HV.out]; rfl)
     go_wp2_with fail
     go_meet
     exact ⟨_, _, HPX.out, HI1.out, HP1.out, HQb.out⟩
    ·have HPX : Hid (partS (groupS (dimN C.s) C.L) C.L [98, 121] [44] (i1, q1) = listS (groupS (dimN C.s) C.L) C.L [44] C.L.length (i1 + 1) q1) := Lib.hid (by unfold partS; dsimp only; rw [HV.out]; rfl)
     have HN := Lib.hid (word_next HC.out.good HV.out)
     have HLL := Lib.hid (HL2.out (i1 + 1) HN.out (Nat.succ_pos _) q1 wb HQb.out)
     have b0 : wb.cell? ⟨bx, 0, none⟩ = some (.pointer (some ⟨R, 0, none⟩)) := by rw [← HRR.out]; exact HQb.out.2.1.cell 0
     go_wp2_with fail
     rcases hx : listS (groupS (dimN C.s) C.L) C.L [44] C.L.length (i1 + 1) q1 with f | ⟨j, q'⟩
     ·rw [hx] at HLL
      have HCX : Hid (queryS (dimN C.s) (measN C.s) C.L = .error f) := Lib.hid (by rw [HC1.out, HPX.out, hx]; rfl)
      clear hx
      refine HLL.out.mono ?_; rintro e wz ⟨rfl, hbz⟩
      have HBZ := Lib.hid hbz
      clear hbz
      go_wp2_with fail
      rw [← HRN.out, HCX.out]
      exact ⟨rfl, rfl, HBZ.out⟩
     ·rw [hx] at HLL
      have HN2 := Lib.hid (HS2.out _ _ _ _ HN.out hx)
      have HN3 := Lib.hid (list_goes (group_goes _ _) [44] _ _ _ _ hx)
      rw [hx] at HPX
      clear hx
      refine HLL.out.mono ?_; rintro e wz ⟨rfl, hqz⟩
      have HQZ := Lib.hid hqz
      clear hqz b0
      go_wp2_with fail
      go_meet
      exact ⟨j, q', HPX.out, HN2.out, Nat.lt_of_le_of_lt (Nat.zero_le _) HN3.out, HQZ.out⟩
   case rest =>
    obtain ⟨i2, q2, hpx, hi, hp, hq⟩ := hcut
    have HI2 := Lib.hid hi
    have HP2 := Lib.hid hp
    have HQ2 := Lib.hid hq
    have HC2 : Hid (queryS (dimN C.s) (measN C.s) C.L = ((fun x => partS (condS (dimN C.s) C.L) C.L [119, 104, 101, 114, 101] [97, 110, 100] x >>= fun x => partS (ordS C.L) C.L [111, 114, 100, 101, 114] [44] x >>= fun x => limS C.L x >>= fun x => endS C.L x) : Nat × QP → Except (Nat × Nat) (Nat × QP)) (i2, q2)) := Lib.hid (by rw [HC1.out, hpx]; rfl)
    clear hpx hi hp hq HQb HV
    obtain ⟨w2, rfl⟩ : ∃ x, x = wc := ⟨_, rfl⟩
    have b0 : w2.cell? ⟨bx, 0, none⟩ = some (.pointer (some ⟨R, 0, none⟩)) := by rw [← HRR.out]; exact HQ2.out.2.1.cell 0
    go_wp2_with fail
    obtain ⟨v, hv⟩ : ∃ v, wordAt C.L i2 [119, 104, 101, 114, 101] = v := ⟨_, rfl⟩
    have HV := Lib.hid hv
    have HEE := Lib.hid (HE.out i2 ⟨#[119, 104, 101, 114, 101]⟩ _ v rfl hv w2 HI2.out HQ2.out.at')
    clear hv
    refine HEE.out.mono ?_; rintro e wb ⟨rfl, hmb⟩
    have HQb := Lib.hid (QB.mv (by cases v <;> simp) HQ2.out hmb)
    clear b0 hmb HEE
    go_upto_if 14 with fail
    go_cut [] (fun wx => ∃ i' q', partS (condS (dimN C.s) C.L) C.L [119, 104, 101, 114, 101] [97, 110, 100] (i2, q2) = .ok (i', q') ∧ i' < C.L.length ∧ 0 < i' ∧ QB C bx i' q' wx)
    case first =>
     rcases v with _ | _
     ·have HPX : Hid (partS (condS (dimN C.s) C.L) C.L [119, 104, 101, 114, 101] [97, 110, 100] (i2, q2) = .ok (i2, q2)) := Lib.hid (by unfold partS; dsimp only; rw [HV.out]; rfl)
      go_wp2_with fail
      go_meet
      exact ⟨_, _, HPX.out, HI2.out, HP2.out, HQb.out⟩
     ·have HPX : Hid (partS (condS (dimN C.s) C.L) C.L [119, 104, 101, 114, 101] [97, 110, 100] (i2, q2) = listS (condS (dimN C.s) C.L) C.L [97, 110, 100] C.L.length (i2 + 1) q2) := Lib.hid (by unfold partS; dsimp only; rw [HV.out]; rfl)
      have HN := Lib.hid (word_next HC.out.good HV.out)
      have HLL := Lib.hid (HL3.out (i2 + 1) HN.out (Nat.succ_pos _) q2 wb HQb.out)
      have b0 : wb.cell? ⟨bx, 0, none⟩ = some (.pointer (some ⟨R, 0, none⟩)) := by rw [← HRR.out]; exact HQb.out.2.1.cell 0
      go_wp2_with fail
      rcases hx : listS (condS (dimN C.s) C.L) C.L [97, 110, 100] C.L.length (i2 + 1) q2 with f | ⟨j, q'⟩
      ·rw [hx] at HLL
       have HCX : Hid (queryS (dimN C.s) (measN C.s) C.L = .error f) := Lib.hid (by rw [HC2.out, HPX.out, hx]; rfl)
       clear hx
       refine HLL.out.mono ?_; rintro e wz ⟨rfl, hbz⟩
       have HBZ := Lib.hid hbz
       clear hbz
       go_wp2_with fail
       rw [← HRN.out, HCX.out]
       exact ⟨rfl, rfl, HBZ.out⟩
      ·rw [hx] at HLL
       have HN2 := Lib.hid (HS3.out _ _ _ _ HN.out hx)
       have HN3 := Lib.hid (list_goes (cond_goes _ _) [97, 110, 100] _ _ _ _ hx)
       rw [hx] at HPX
       clear hx
       refine HLL.out.mono ?_; rintro e wz ⟨rfl, hqz⟩
       have HQZ := Lib.hid hqz
       clear hqz b0
       go_wp2_with fail
       go_meet
       exact ⟨j, q', HPX.out, HN2.out, Nat.lt_of_le_of_lt (Nat.zero_le _) HN3.out, HQZ.out⟩
    case rest =>
     obtain ⟨i3, q3, hpx, hi, hp, hq⟩ := hcut
     have HI3 := Lib.hid hi
     have HP3 := Lib.hid hp
     have HQ3 := Lib.hid hq
     have HC3 : Hid (queryS (dimN C.s) (measN C.s) C.L = ((fun x => partS (ordS C.L) C.L [111, 114, 100, 101, 114] [44] x >>= fun x => limS C.L x >>= fun x => endS C.L x) : Nat × QP → Except (Nat × Nat) (Nat × QP)) (i3, q3)) := Lib.hid (by rw [HC2.out, hpx]; rfl)
     clear hpx hi hp hq HQb HV
     obtain ⟨w3, rfl⟩ : ∃ x, x = wc := ⟨_, rfl⟩
     have b0 : w3.cell? ⟨bx, 0, none⟩ = some (.pointer (some ⟨R, 0, none⟩)) := by rw [← HRR.out]; exact HQ3.out.2.1.cell 0
     go_wp2_with fail
     obtain ⟨v, hv⟩ : ∃ v, wordAt C.L i3 [111, 114, 100, 101, 114] = v := ⟨_, rfl⟩
     have HV := Lib.hid hv
     have HEE := Lib.hid (HE.out i3 ⟨#[111, 114, 100, 101, 114]⟩ _ v rfl hv w3 HI3.out HQ3.out.at')
     clear hv
     refine HEE.out.mono ?_; rintro e wb ⟨rfl, hmb⟩
     have HQb := Lib.hid (QB.mv (by cases v <;> simp) HQ3.out hmb)
     clear b0 hmb HEE
     go_upto_if 19 with fail
     go_cut [] (fun wx => ∃ i' q', partS (ordS C.L) C.L [111, 114, 100, 101, 114] [44] (i3, q3) = .ok (i', q') ∧ i' < C.L.length ∧ 0 < i' ∧ QB C bx i' q' wx)
     case first =>
      rcases v with _ | _
      ·have HPX : Hid (partS (ordS C.L) C.L [111, 114, 100, 101, 114] [44] (i3, q3) = .ok (i3, q3)) := Lib.hid (by unfold partS; dsimp only; rw [HV.out]; rfl)
       go_wp2_with fail
       go_meet
       exact ⟨_, _, HPX.out, HI3.out, HP3.out, HQb.out⟩
      ·have HPX : Hid (partS (ordS C.L) C.L [111, 114, 100, 101, 114] [44] (i3, q3) = listS (ordS C.L) C.L [44] C.L.length (i3 + 1) q3) := Lib.hid (by unfold partS; dsimp only; rw [HV.out]; rfl)
       have HN := Lib.hid (word_next HC.out.good HV.out)
       have HLL := Lib.hid (HL4.out (i3 + 1) HN.out (Nat.succ_pos _) q3 wb HQb.out)
       have b0 : wb.cell? ⟨bx, 0, none⟩ = some (.pointer (some ⟨R, 0, none⟩)) := by rw [← HRR.out]; exact HQb.out.2.1.cell 0
       go_wp2_with fail
       rcases hx : listS (ordS C.L) C.L [44] C.L.length (i3 + 1) q3 with f | ⟨j, q'⟩
       ·rw [hx] at HLL
        have HCX : Hid (queryS (dimN C.s) (measN C.s) C.L = .error f) := Lib.hid (by rw [HC3.out, HPX.out, hx]; rfl)
        clear hx
        refine HLL.out.mono ?_; rintro e wz ⟨rfl, hbz⟩
        have HBZ := Lib.hid hbz
        clear hbz
        go_wp2_with fail
        rw [← HRN.out, HCX.out]
        exact ⟨rfl, rfl, HBZ.out⟩
       ·rw [hx] at HLL
        have HN2 := Lib.hid (HS4.out _ _ _ _ HN.out hx)
        have HN3 := Lib.hid (list_goes (ord_goes _) [44] _ _ _ _ hx)
        rw [hx] at HPX
        clear hx
        refine HLL.out.mono ?_; rintro e wz ⟨rfl, hqz⟩
        have HQZ := Lib.hid hqz
        clear hqz b0
        go_wp2_with fail
        go_meet
        exact ⟨j, q', HPX.out, HN2.out, Nat.lt_of_le_of_lt (Nat.zero_le _) HN3.out, HQZ.out⟩
     case rest =>
      obtain ⟨i4, q4, hpx, hi, hp, hq⟩ := hcut
      have HI4 := Lib.hid hi
      have HP4 := Lib.hid hp
      have HQ4 := Lib.hid hq
      have HC4 : Hid (queryS (dimN C.s) (measN C.s) C.L = ((fun x => limS C.L x >>= fun x => endS C.L x) : Nat × QP → Except (Nat × Nat) (Nat × QP)) (i4, q4)) := Lib.hid (by rw [HC3.out, hpx]; rfl)
      clear hpx hi hp hq HQb HV
      obtain ⟨w4, rfl⟩ : ∃ x, x = wc := ⟨_, rfl⟩
      have b0 : w4.cell? ⟨bx, 0, none⟩ = some (.pointer (some ⟨R, 0, none⟩)) := by rw [← HRR.out]; exact HQ4.out.2.1.cell 0
      go_wp2_with fail
      obtain ⟨v, hv⟩ : ∃ v, wordAt C.L i4 [108, 105, 109, 105, 116] = v := ⟨_, rfl⟩
      have HV := Lib.hid hv
      have HEE := Lib.hid (HE.out i4 ⟨#[108, 105, 109, 105, 116]⟩ _ v rfl hv w4 HI4.out HQ4.out.at')
      clear hv
      refine HEE.out.mono ?_; rintro e wb ⟨rfl, hmb⟩
      have HQb := Lib.hid (QB.mv (by cases v <;> simp) HQ4.out hmb)
      clear b0 hmb HEE
      go_upto_if 25 with fail
      go_cut [] (fun wx => ∃ i' q', limS C.L (i4, q4) = .ok (i', q') ∧ i' < C.L.length ∧ QB C bx i' q' wx)
      case first =>
       rcases v with _ | _
       ·have HPX : Hid (limS C.L (i4, q4) = .ok (i4, q4)) := Lib.hid (by unfold limS; dsimp only; rw [HV.out]; rfl)
        go_wp2_with fail
        go_meet
        exact ⟨_, _, HPX.out, HI4.out, HQb.out⟩
       ·have HPX : Hid (limS C.L (i4, q4) = (numT C.L (i4 + 1) >>= fun x => pure (x.1, { q4 with limit := x.2 }))) := Lib.hid (by unfold limS; dsimp only; rw [HV.out]; rfl)
        have HN := Lib.hid (word_next HC.out.good HV.out)
        obtain ⟨⟨vf, vc, vo, fl, hqr⟩, hbxb, -⟩ := HQb.out
        have hqr : QR C (i4 + 1) q4 vf vc vo fl wb := hqr
        have HQR := Lib.hid hqr.drew
        have HBB := Lib.hid hbxb.drew
        have HLTB := Lib.hid HQb.out.2.2
        have HNN := Lib.hid (pnumber_any C HC.out (i4 + 1) HN.out wb.drew HQR.out.at')
        rw [HRR.out] at HNN
        have b0 : wb.drew.cell? ⟨bx, 0, none⟩ = some (.pointer (some ⟨R, 0, none⟩)) := by rw [← HRR.out]; exact HBB.out.cell 0
        have b1 : wb.drew.cell? ⟨R, 10, none⟩ = some (.int .i64 q4.limit) := by rw [← HRR.out, Blk.cell HQR.out.rd]; rfl
        have b2 : wb.drew.frozen? ⟨R, 10, none⟩ = false := by rw [← HRR.out]; exact Blk.frozen HQR.out.rd 10
        clear hqr hbxb
        go_upto_region 10 with fail
        refine wp_regionN (fun w' => w'.cell? ⟨bx, 0, none⟩ = some (.pointer (some ⟨R, 0, none⟩)) ∧ w'.cell? ⟨R, 10, none⟩ = some (.int .i64 q4.limit) ∧ w'.frozen? ⟨R, 10, none⟩ = false) [6] (by kernel_rfl) (by exact ⟨b0, b1, b2⟩) (fun hHeld => ?_)
        refine wpAnyN_t 0 ⟨some 26, _, _, _, _, _⟩ ?_ rfl ?_ ?_
        rotate_left 1
        ·(intro w hSw; (try dsimp only at hSw); go_simp; try with_reducible rfl)
        try simp only [Act.put, putA, putB, putC]
        refine wpAnyN_t 1 ⟨some 27, _, _, _, _, _⟩ ?_ rfl ?_ ?_
        rotate_left 1
        ·(intro w hSw; (try dsimp only at hSw); go_simp; try with_reducible rfl)
        try simp only [Act.put, putA, putB, putC]
        refine wpAnyN_one (i := 2) (o := ⟨some 28, _, _, _, _, _⟩) (by kernel_rfl) rfl (fun K hK => ?_)
        go_simp
        rcases hx : numT C.L (i4 + 1) with f | ⟨j, n⟩
        ·rw [hx] at HNN
         have HCX : Hid (queryS (dimN C.s) (measN C.s) C.L = .error f) := Lib.hid (by rw [HC4.out]; show (limS C.L (i4, q4) >>= _) = _; rw [HPX.out, hx]; rfl)
         clear hx
         refine HNN.out.mono ?_; rintro e wz ⟨rfl, hbz⟩
         rw [← HRN.out, HCX.out]
         exact ⟨rfl, rfl, hbz⟩
        ·rw [hx] at HNN
         have hx' : limS C.L (i4, q4) = .ok (j, { q4 with limit := n }) := by rw [HPX.out, hx]; rfl
         have HPY := Lib.hid hx'
         have HNI := Lib.hid (numT_i64 HC.out.good HN.out hx)
         have HN2 := Lib.hid (num_next HC.out.good hx)
         clear hx hx'
         refine HNN.out.mono ?_; rintro e wz ⟨rfl, hmz⟩
         have HQZ := Lib.hid (HQR.out.mv hmz (by have := HNI.out.1; dsimp only at this ⊢; omega))
         have HBZ := Lib.hid (hmz.kp.blk HBB.out (by have := HLTB.out; omega))
         have d0 : wz.cell? ⟨bx, 0, none⟩ = some (.pointer (some ⟨R, 0, none⟩)) := by rw [← HRR.out]; exact HBZ.out.cell 0
         have d1 : wz.cell? ⟨R, 10, none⟩ = some (.int .i64 q4.limit) := by rw [← HRR.out, Blk.cell HQZ.out.rd]; rfl
         have d2 : wz.frozen? ⟨R, 10, none⟩ = false := by rw [← HRR.out]; exact Blk.frozen HQZ.out.rd 10
         clear hmz HNN b0 b1 b2
         dsimp only
         refine hK.out _ _ (by exact ⟨d0, d1, d2⟩) ?_
         clear hK K hHeld
         intro hHeld
         try simp only [Act.put, putA, putB, putC]
         refine wpAnyN_t 3 ⟨some 29, _, _, _, _, _⟩ ?_ rfl ?_ ?_
         rotate_left 1
         ·(intro w hSw; (try dsimp only at hSw); go_simp; try with_reducible rfl)
         try simp only [Act.put, putA, putB, putC]
         refine wpAnyN_t 4 ⟨some 30, _, _, _, _, _⟩ ?_ rfl ?_ ?_
         rotate_left 1
         ·(intro w hSw; (try dsimp only at hSw); go_simp; try with_reducible rfl)
         try simp only [Act.put, putA, putB, putC]
         refine wpAnyN_t 5 ⟨some 31, _, _, _, _, _⟩ ?_ rfl ?_ ?_
         rotate_left 1
         ·(intro w hSw; (try dsimp only at hSw); go_simp; try with_reducible rfl)
         try simp only [Act.put, putA, putB, putC]
         refine wpAnyN_late (i := 6) (o := ⟨none, _, _, _, _, _⟩) (by kernel_rfl) (by kernel_rfl) rfl (fun K hK => ?_)
         go_simp
         refine hK.out _ _ ?_
         clear hK K
         try simp only [Act.put, putA, putB, putC]
         refine wpAnyN_end (by kernel_rfl) ?_
         go_wp2_with fail
         go_meet
         refine ⟨j, _, HPY.out, HN2.out, ⟨vf, vc, vo, fl, ?_⟩, ?_, HLTB.out⟩
         ·rw [← HRR.out]; exact HQZ.out.setL HNI.out.2
         ·rw [← HRR.out]; exact HBZ.out.far (by have := HLTB.out; show bx ≠ C.R; omega) _
      case rest =>
       obtain ⟨i5, q5, hpx, hi, hq⟩ := hcut
       have HI5 := Lib.hid hi
       have HQ5 := Lib.hid hq
       have HC5 : Hid (queryS (dimN C.s) (measN C.s) C.L = endS C.L (i5, q5)) := Lib.hid (by rw [HC4.out]; show (limS C.L (i4, q4) >>= _) = _; rw [hpx]; rfl)
       clear hpx hi hq HQb HV
       obtain ⟨w5, rfl⟩ : ∃ x, x = wc := ⟨_, rfl⟩
       have b0 : w5.cell? ⟨bx, 0, none⟩ = some (.pointer (some ⟨R, 0, none⟩)) := by rw [← HRR.out]; exact HQ5.out.2.1.cell 0
       have HNX := Lib.hid (next_any C HC.out i5 HI5.out w5 HQ5.out.at')
       have HFA : Hid (∀ w1, RAt C i5 w1 → Calls Tryz.prog 66 #[.pointer (some ⟨C.R, 0, none⟩), .int .i64 (6 : Int)] w1 (Fails C (i5, 6))) := Lib.hid (fun w1 hm => fail_any C HC.out i5 HI5.out 6 w1 hm)
       rw [HRR.out] at HNX HFA
       go_wp2_with fail
       refine HNX.out.mono ?_; rintro e w6 ⟨rfl, hm6⟩
       have HQ6 := Lib.hid (QB.mv (Nat.le_refl _) HQ5.out hm6)
       have HEN : Hid (endS C.L (i5, q5) = if (tokAt C.L i5).k = 0 then .ok (i5, q5) else .error (i5, 6)) := Lib.hid rfl
       obtain ⟨⟨k, t, n, a⟩, hx⟩ : ∃ x, tokAt C.L i5 = x := ⟨_, rfl⟩
       rw [hx] at HEN ⊢
       unfold Tok.val
       dsimp only at HEN ⊢
       have hfd := tok_f0 k n a t
       clear hm6 HNX hx b0
       have b0 : w6.cell? ⟨bx, 0, none⟩ = some (.pointer (some ⟨R, 0, none⟩)) := by rw [← HRR.out]; exact HQ6.out.2.1.cell 0
       by_cases hk : k = 0
       ·subst hk
        have HCX : Hid (queryS (dimN C.s) (measN C.s) C.L = .ok (i5, q5)) := Lib.hid (by rw [HC5.out, HEN.out, if_pos rfl])
        go_wp2_with fail
        go_end0
        rw [← HRN.out, HCX.out]
        exact ⟨rfl, HQ6.out.1⟩
       ·have HCX : Hid (queryS (dimN C.s) (measN C.s) C.L = .error (i5, 6)) := Lib.hid (by rw [HC5.out, HEN.out, if_neg hk])
        go_wp2_with fail
        refine (HFA.out _ HQ6.out.at').mono ?_; rintro e wz ⟨rfl, hbz⟩
        have HBZ := Lib.hid hbz
        clear hbz
        go_wp2_with fail
        rw [← HRN.out, HCX.out]
        exact ⟨rfl, rfl, HBZ.out⟩
end Go.Proofs.YtaofjnidniekjaaGreatDoor
/- The contract of package parse's Parse. Conditions: those stated. -/
namespace Go.Proofs.YtaofjnidniekjaaGreatDoor
open Go.RowKit

def zeroQ : Array Value := #[.int .u32 0, .slice none 0 0, .slice none 0 0, .slice none 0 0, .int .i64 0]
/-- what the named results hold -/
def Res (w : World) (g : Nat) (q : Array Value) (a er : Int) : Prop := Blk w g 32 q ∧ Blk w (g + 1) 3 #[.int .i64 a] ∧ Blk w (g + 1 + 1) 36 #[.int .i64 er]

set_option maxRecDepth 100000 in
/-- the deferred function, entered by a reading that a fault has ended -/
theorem catch_fault (g : Nat) (a er : Int) (x y : Int) (w : World) (h : Res w g zeroQ x y) :
  CallsD Tryz.prog 26 #[.pointer (some ⟨g, 0, none⟩), .pointer (some ⟨g + 1, 0, none⟩), .pointer (some ⟨g + 1 + 1, 0, none⟩)] (.panicking [{ v := faultV a er, recovered := false }]) w fun en u' w' =>
   en = .returned (.tuple #[]) ∧ u' = .panicking [{ v := faultV a er, recovered := true }] ∧ Res w' g zeroQ a er ∧ Below g w w' := by
 obtain ⟨hg, hp, he⟩ := h
 unfold zeroQ at hg
 refine callsD_of_wpS Tryz.func26 rfl fun c₀ cs hu => ?_
 have HG := Lib.hid (hg.alloc (.cells #[.int .i64 a, .int .i64 er] 76))
 have HP := Lib.hid (hp.alloc (.cells #[.int .i64 a, .int .i64 er] 76))
 have HE := Lib.hid (he.alloc (.cells #[.int .i64 a, .int .i64 er] 76))
 have HK := Lib.hid (Blk.new w 76 #[.int .i64 a, .int .i64 er])
 have HB : Hid (Below g w (w.alloc (.cells #[.int .i64 a, .int .i64 er] 76))) := Lib.hid ((Below.refl _ _).alloc (Nat.le_of_lt hg.lt) _)
 have HGL := Lib.hid he.lt
 clear hg hp he
 have hta : ∀ w : World, (Instr.typeAssert (.iface 76 (.agg #[.int .i64 a, .int .i64 er])) 20 76 true).run Tryz.prog w = .ok (.tuple #[.agg #[.int .i64 a, .int .i64 er], .bool true]) w := fun _ => by kernel_rfl
 have HU := Lib.hid hu
 unfold faultV at *
 change Code.wpS _ _ _ { tmps := #[.pointer (some ⟨g, 0, none⟩), .pointer (some ⟨g + 1, 0, none⟩), .pointer (some ⟨g + 1 + 1, 0, none⟩), undef, undef, undef, undef, undef, undef, undef, undef, undef, undef, undef, undef, undef], defers := [] } _ _
 apply wpS_seq
 apply wpS_region
 simp [wpOpsS, go_sem, recoverD, hu, hta, Exit.thenS]
 generalize w.alloc (.cells #[.int .i64 a, .int .i64 er] 76) = w1 at *
 generalize w.heap.size = T at *
 have g0 := HG.out.c 0
 have g1 := HG.out.c 1
 have g2 := HG.out.c 2
 have g3 := HG.out.c 3
 have g4 := HG.out.c 4
 have p0 := HP.out.c 0
 have e0 := HE.out.c 0
 have k0 := HK.out.c 0
 have k1 := HK.out.c 1
 have fg : ∀ o, w1.frozen? ⟨g, o, none⟩ = false := fun o => HG.out.frozen o
 have fp : ∀ o, w1.frozen? ⟨g + 1, o, none⟩ = false := fun o => HP.out.frozen o
 have fe : ∀ o, w1.frozen? ⟨g + 1 + 1, o, none⟩ = false := fun o => HE.out.frozen o
 have hT : g + 1 + 1 < T := HGL.out
 have hT0 : ¬ T = g := by omega
 have hT1 : ¬ T = g + 1 := by omega
 have hT2 : ¬ T = g + 1 + 1 := by omega
 refine wpS_of_wp ?_
 clear hu hta
 go_wp2_with fail
 go_region
 have HGF := Lib.hid ((((((((HG.out.set_ 0 (.int .u32 0)).set_ 1 (.slice none 0 0)).set_ 2 (.slice none 0 0)).set_ 3 (.slice none 0 0)).set_ 4 (.int .i64 0)).far (p := ⟨g + 1, 0, none⟩) (by show g ≠ g + 1; omega) (.int .i64 a)).far (p := ⟨g + 1 + 1, 0, none⟩) (by show g ≠ g + 1 + 1; omega) (.int .i64 er)).drew)
 have HPF := Lib.hid (((((((((HP.out.far (p := ⟨g, 0, none⟩) (by show g + 1 ≠ g; omega) (.int .u32 0)).far (p := ⟨g, 1, none⟩) (by show g + 1 ≠ g; omega) (.slice none 0 0)).far (p := ⟨g, 2, none⟩) (by show g + 1 ≠ g; omega) (.slice none 0 0)).far (p := ⟨g, 3, none⟩) (by show g + 1 ≠ g; omega) (.slice none 0 0)).far (p := ⟨g, 4, none⟩) (by show g + 1 ≠ g; omega) (.int .i64 0)).set_ 0 (.int .i64 a)).far (p := ⟨g + 1 + 1, 0, none⟩) (by show g + 1 ≠ g + 1 + 1; omega) (.int .i64 er)).drew))
 have HEF := Lib.hid (((((((((HE.out.far (p := ⟨g, 0, none⟩) (by show g + 1 + 1 ≠ g; omega) (.int .u32 0)).far (p := ⟨g, 1, none⟩) (by show g + 1 + 1 ≠ g; omega) (.slice none 0 0)).far (p := ⟨g, 2, none⟩) (by show g + 1 + 1 ≠ g; omega) (.slice none 0 0)).far (p := ⟨g, 3, none⟩) (by show g + 1 + 1 ≠ g; omega) (.slice none 0 0)).far (p := ⟨g, 4, none⟩) (by show g + 1 + 1 ≠ g; omega) (.int .i64 0)).far (p := ⟨g + 1, 0, none⟩) (by show g + 1 + 1 ≠ g + 1; omega) (.int .i64 a)).set_ 0 (.int .i64 er)).drew))
 refine ⟨rfl, _, rfl, _, by simp [results, Tryz.results26], rfl, rfl, ⟨HGF.out, HPF.out, HEF.out⟩, ?_⟩
 exact blk_d (below_set (below_set (below_set (below_set (below_set (below_set (below_set HB.out (by exact Nat.le_refl _) _) (by exact Nat.le_refl _) _) (by exact Nat.le_refl _) _) (by exact Nat.le_refl _) _) (by exact Nat.le_refl _) _) (by show g ≤ g + 1; omega) _) (by show g ≤ g + 1 + 1; omega) _)

set_option maxRecDepth 100000 in
/-- the deferred function, entered by a call that returns -/
theorem catch_none (g : Nat) (w : World) :
  CallsD Tryz.prog 26 #[.pointer (some ⟨g, 0, none⟩), .pointer (some ⟨g + 1, 0, none⟩), .pointer (some ⟨g + 1 + 1, 0, none⟩)] .returning w fun en u' w' =>
   en = .returned (.tuple #[]) ∧ u' = .returning ∧ Below w.heap.size w w' := by
 refine callsD_of_wpS Tryz.func26 rfl fun c₀ cs hu => ?_
 have hta : ∀ w : World, (Instr.typeAssert .nilIface 20 76 true).run Tryz.prog w = .ok (.tuple #[.agg #[.int .i64 0, .int .i64 0], .bool false]) w := fun _ => by kernel_rfl
 have HB : Hid (Below w.heap.size w (w.alloc (.cells #[.int .i64 0, .int .i64 0] 76))) := Lib.hid ((Below.refl _ _).alloc (Nat.le_refl _) _)
 change Code.wpS _ _ _ { tmps := #[.pointer (some ⟨g, 0, none⟩), .pointer (some ⟨g + 1, 0, none⟩), .pointer (some ⟨g + 1 + 1, 0, none⟩), undef, undef, undef, undef, undef, undef, undef, undef, undef, undef, undef, undef, undef], defers := [] } _ _
 apply wpS_seq
 apply wpS_region
 have HU : Hid (({ c₀ with mode := .returning } : Frame) = c₀) := Lib.hid (by cases c₀; cases hu; rfl)
 simp [wpOpsS, go_sem, recoverD, hu, hta, Exit.thenS]
 generalize w.alloc (.cells #[.int .i64 0, .int .i64 0] 76) = w1 at *
 clear hu hta
 refine wpS_of_wp ?_
 go_wp2_with fail
 exact ⟨rfl, _, by rw [HU.out], _, by simp [results, Tryz.results26], rfl, rfl, HB.out⟩
end Go.Proofs.YtaofjnidniekjaaGreatDoor
