/- The whole reading of package parse. Conditions: those stated. -/
import Derived.Test.YtaofjnidniekjaaParX
import Derived.Deep.DeepCutAuto
namespace Go.Proofs.Ytaofjnidniekjaa
open Go.RowKit

theorem col_next {C : RC} (hg : TokOk C.L) (names : List ByteArray) (i : Nat) (q : QP) (y : Nat × QP) (_ : i < C.L.length) (h : colS names C.L i q = .ok y) : y.1 < C.L.length := by
  unfold colS at h
  split at h
  · cases h
  · rename_i h1; cases h
    have : ∀ (l : List (List UInt8)) (k m : Nat), kindAt C.L i l k = some m → i + 1 < C.L.length := by
      intro l
      induction l with
      | nil => intro k m h; cases h
      | cons w l ih =>
        intro k m h
        unfold kindAt at h
        split at h
        · rename_i h1; exact word_next hg h1
        · exact ih _ _ h
    exact this _ _ _ h1
  · rename_i k h1
    obtain ⟨a, h2, h3⟩ := bind_ok h
    obtain ⟨b, h4, h5⟩ := bind_ok h3
    obtain ⟨c, h6, h7⟩ := bind_ok h5
    cases h7
    exact want_next hg h6
theorem group_next {C : RC} (hg : TokOk C.L) (names : List ByteArray) (i : Nat) (q : QP) (y : Nat × QP) (_ : i < C.L.length) (h : groupS names C.L i q = .ok y) : y.1 < C.L.length := by
  unfold groupS at h
  obtain ⟨a, h1, h2⟩ := bind_ok h
  have h3 := name_next hg h1
  dsimp only at h2
  split at h2
  · cases h2
  · cases h2; exact h3
theorem ord_next {C : RC} (hg : TokOk C.L) (i : Nat) (q : QP) (y : Nat × QP) (_ : i < C.L.length) (h : ordS C.L i q = .ok y) : y.1 < C.L.length := by
  unfold ordS at h
  obtain ⟨a, h1, h2⟩ := bind_ok h
  have h3 := num_next hg h1
  dsimp only at h2
  split at h2
  · rename_i h5; cases h2; exact word_next hg h5
  · split at h2
    · rename_i h5; cases h2; exact word_next hg h5
    · cases h2; exact h3
theorem cond_next {C : RC} (hg : TokOk C.L) (names : List ByteArray) (i : Nat) (q : QP) (y : Nat × QP) (_ : i < C.L.length) (h : condS names C.L i q = .ok y) : y.1 < C.L.length := by
  unfold condS at h
  obtain ⟨a, h1, h2⟩ := bind_ok h
  dsimp only at h2
  split at h2
  · obtain ⟨b, h5, h6⟩ := bind_ok h2
    have := num_next hg h5
    cases h6
    exact this
  · obtain ⟨b, h5, h6⟩ := bind_ok h2
    obtain ⟨c, h7, h8⟩ := bind_ok h6
    split at h8
    · rename_i h9; cases h8; exact word_next hg h9
    · obtain ⟨d, h9, h10⟩ := bind_ok h8
      obtain ⟨e, h11, h12⟩ := bind_ok h10
      cases h12
      exact want_next hg h11
theorem reads_col (C : RC) (hC : C.Ok) (bx : Nat) : Reads C (QB C bx) (colS (measN C.s) C.L) 52 (#[] ++ #[.pointer (some ⟨bx, 0, none⟩)]) where
  at' := fun i x w h => h.at'
  mv := fun i j x w w' hij h hm => QB.mv hij h hm
  read := fun i x w hi h => by simpa using qcol_any C hC bx i x w hi h
  goes := col_goes _ _
  call := fun w => by kernel_rfl
  next := fun i x y => col_next hC.good _ i x y
theorem reads_group (C : RC) (hC : C.Ok) (bx : Nat) : Reads C (QB C bx) (groupS (dimN C.s) C.L) 55 (#[.pointer (some ⟨C.R, 0, none⟩)] ++ #[]) where
  at' := fun i x w h => h.at'
  mv := fun i j x w w' hij h hm => QB.mv hij h hm
  read := fun i x w hi h => by simpa using pgroup_any C hC bx i x w hi h
  goes := group_goes _ _
  call := fun w => by kernel_rfl
  next := fun i x y => group_next hC.good _ i x y
theorem reads_cond (C : RC) (hC : C.Ok) (bx : Nat) : Reads C (QB C bx) (condS (dimN C.s) C.L) 56 (#[] ++ #[.pointer (some ⟨bx, 0, none⟩)]) where
  at' := fun i x w h => h.at'
  mv := fun i j x w w' hij h hm => QB.mv hij h hm
  read := fun i x w hi h => by simpa using qcond_any C hC bx i x w hi h
  goes := cond_goes _ _
  call := fun w => by kernel_rfl
  next := fun i x y => cond_next hC.good _ i x y
theorem reads_ord (C : RC) (hC : C.Ok) (bx : Nat) : Reads C (QB C bx) (ordS C.L) 58 (#[.pointer (some ⟨C.R, 0, none⟩)] ++ #[]) where
  at' := fun i x w h => h.at'
  mv := fun i j x w w' hij h hm => QB.mv hij h hm
  read := fun i x w hi h => by simpa using pord_any C hC bx i x w hi h
  goes := ord_goes _
  call := fun w => by kernel_rfl
  next := fun i x y => ord_next hC.good i x y
theorem list_goes {σ : Type} {L : List Tok} {one : Nat → σ → Except (Nat × Nat) (Nat × σ)} (hg : Goes L one) (b : List UInt8) : ∀ (f i : Nat) (x : σ) (y : Nat × σ), listS one L b f i x = .ok y → i < y.1
  | 0, _, _, _, h => by cases h
  | f + 1, i, x, y, h => by
    obtain ⟨a, h1, h2⟩ := bind_ok (x := one i x) (f := fun a => if wordAt L a.1 b = true then listS one L b f (a.1 + 1) a.2 else pure (a.1, a.2)) h
    have h3 := (hg i x a h1).1
    split at h2
    · have := list_goes hg b f _ _ _ h2; omega
    · cases h2; exact h3
theorem query_eq (dims meas : List ByteArray) (L : List Tok) : queryS dims meas L = (wantS L 0 [115, 101, 108, 101, 99, 116] >>= fun i => listS (colS meas L) L [44] L.length i QP.nul >>= fun x => partS (groupS dims L) L [98, 121] [44] x >>= fun x => partS (condS dims L) L [119, 104, 101, 114, 101] [97, 110, 100] x >>= fun x => partS (ordS L) L [111, 114, 100, 101, 114] [44] x >>= fun x => limS L x >>= fun x => endS L x) := rfl

set_option maxRecDepth 100000 in
set_option maxHeartbeats 2000000 in
theorem pquery_any (C : RC) (hC : C.Ok) (w : World) (hQ : ∃ vf vc vo fl, QR C 0 QP.nul vf vc vo fl w) :
    Calls Try.prog 26 #[.pointer (some ⟨C.R, 0, none⟩)] w (RList C (fun i q w' => ∃ vf vc vo fl, QR C i q vf vc vo fl w') (queryS (dimN C.s) (measN C.s) C.L)) := by
  have hmf : ∀ (fn : Fn) (first cap : Array Value) (w : World), (Instr.makeFunc fn first cap).run Try.prog w = .ok (.func fn first cap) w := fun _ _ _ _ => rfl
  have HC := Lib.hid hC
  have HQ0 : Hid (QB C w.heap.size 0 QP.nul (w.alloc (.cells #[.pointer (some ⟨C.R, 0, none⟩)] 76))) := Lib.hid (by
    obtain ⟨vf, vc, vo, fl, h⟩ := hQ
    exact ⟨⟨vf, vc, vo, fl, h.mv ((Mv.of_below (Below.refl _ _)).alloc _) (Nat.le_refl _)⟩, Blk.new _ _ _, h.rd.lt⟩)
  have HW : Hid (∀ (u : ByteArray) (t : List UInt8) (w1 : World), u.data.toList = t → RAt C 0 w1 → Calls Try.prog 50 #[.pointer (some ⟨C.R, 0, none⟩), .string u] w1 (RUnit C 0 w1 (wantS C.L 0 t))) := Lib.hid (fun u t w1 ht hm => by rw [← ht]; exact want_any C hC 0 hC.good.pos u w1 hm)
  have HE : Hid (∀ (j : Nat) (u : ByteArray) (t : List UInt8) (v : Bool), u.data.toList = t → wordAt C.L j t = v → ∀ w1, j < C.L.length → RAt C j w1 → Calls Try.prog 54 #[.pointer (some ⟨C.R, 0, none⟩), .string u] w1 fun e w' => e = .returned (.bool v) ∧ Mv C j (if v then j + 1 else j) w1 w') := Lib.hid (fun j u t v ht hb w1 hj hm => eat_any C hC j hj u v (by rw [ht]; exact hb) w1 hm)
  have HL1 := Lib.hid (fun (i : Nat) (hi : i < C.L.length) (hi0 : 0 < i) (q : QP) (w1 : World) (hq : QB C w.heap.size i q w1) => plist_any C hC (reads_col C hC w.heap.size) ⟨#[44]⟩ [44] rfl i hi hi0 q w1 hq)
  have HL2 := Lib.hid (fun (i : Nat) (hi : i < C.L.length) (hi0 : 0 < i) (q : QP) (w1 : World) (hq : QB C w.heap.size i q w1) => plist_any C hC (reads_group C hC w.heap.size) ⟨#[44]⟩ [44] rfl i hi hi0 q w1 hq)
  have HL3 := Lib.hid (fun (i : Nat) (hi : i < C.L.length) (hi0 : 0 < i) (q : QP) (w1 : World) (hq : QB C w.heap.size i q w1) => plist_any C hC (reads_cond C hC w.heap.size) ⟨#[97, 110, 100]⟩ [97, 110, 100] rfl i hi hi0 q w1 hq)
  have HL4 := Lib.hid (fun (i : Nat) (hi : i < C.L.length) (hi0 : 0 < i) (q : QP) (w1 : World) (hq : QB C w.heap.size i q w1) => plist_any C hC (reads_ord C hC w.heap.size) ⟨#[44]⟩ [44] rfl i hi hi0 q w1 hq)
  have HS1 : Hid (∀ i j q q', i < C.L.length → listS (colS (measN C.s) C.L) C.L [44] C.L.length i q = .ok (j, q') → j < C.L.length) := Lib.hid (fun i j q q' hi h => list_next (reads_col C hC w.heap.size) [44] _ _ _ _ hi h)
  have HS2 : Hid (∀ i j q q', i < C.L.length → listS (groupS (dimN C.s) C.L) C.L [44] C.L.length i q = .ok (j, q') → j < C.L.length) := Lib.hid (fun i j q q' hi h => list_next (reads_group C hC w.heap.size) [44] _ _ _ _ hi h)
  have HS3 : Hid (∀ i j q q', i < C.L.length → listS (condS (dimN C.s) C.L) C.L [97, 110, 100] C.L.length i q = .ok (j, q') → j < C.L.length) := Lib.hid (fun i j q q' hi h => list_next (reads_cond C hC w.heap.size) [97, 110, 100] _ _ _ _ hi h)
  have HS4 : Hid (∀ i j q q', i < C.L.length → listS (ordS C.L) C.L [44] C.L.length i q = .ok (j, q') → j < C.L.length) := Lib.hid (fun i j q q' hi h => list_next (reads_ord C hC w.heap.size) [44] _ _ _ _ hi h)
  obtain ⟨r, hr⟩ : ∃ r, RList C (fun i q w' => ∃ vf vc vo fl, QR C i q vf vc vo fl w') (queryS (dimN C.s) (measN C.s) C.L) = r := ⟨_, rfl⟩
  rw [hr]
  have HRN := Lib.hid hr
  have HQE := Lib.hid (query_eq (dimN C.s) (measN C.s) C.L)
  clear hr hC hQ
  obtain ⟨R, hRR⟩ : ∃ r, C.R = r := ⟨_, rfl⟩
  have HRR := Lib.hid hRR
  rw [hRR] at HW HE HL1 HL2 HL3 HL4 HQ0 ⊢
  clear hRR
  go_enter Try.func26, Try.ntmps26
  go_upto_region 1 with fail
  generalize w.alloc (.cells #[.pointer (some ⟨R, 0, none⟩)] 76) = w1 at *
  generalize w.heap.size = bx at *
  have b0 : w1.cell? ⟨bx, 0, none⟩ = some (.pointer (some ⟨R, 0, none⟩)) := by rw [← HRR.out]; exact HQ0.out.2.1.cell 0
  go_wp2_with fail
  have HWC := Lib.hid (HW.out ⟨#[115, 101, 108, 101, 99, 116]⟩ [115, 101, 108, 101, 99, 116] w1 rfl HQ0.out.at')
  rcases hx1 : wantS C.L 0 [115, 101, 108, 101, 99, 116] with f | i0
  · rw [hx1] at HWC
    have HCX : Hid (queryS (dimN C.s) (measN C.s) C.L = .error f) := Lib.hid (by rw [HQE.out, hx1]; rfl)
    clear hx1
    refine HWC.out.mono ?_; rintro e wz ⟨rfl, hbz⟩
    have HBZ := Lib.hid hbz
    clear hbz
    go_wp2_with fail
    rw [← HRN.out, HCX.out]
    exact ⟨rfl, rfl, HBZ.out⟩
  · rw [hx1] at HWC
    have HC0 : Hid (queryS (dimN C.s) (measN C.s) C.L = (listS (colS (measN C.s) C.L) C.L [44] C.L.length i0 QP.nul >>= fun x => partS (groupS (dimN C.s) C.L) C.L [98, 121] [44] x >>= fun x => partS (condS (dimN C.s) C.L) C.L [119, 104, 101, 114, 101] [97, 110, 100] x >>= fun x => partS (ordS C.L) C.L [111, 114, 100, 101, 114] [44] x >>= fun x => limS C.L x >>= fun x => endS C.L x)) := Lib.hid (by rw [HQE.out, hx1]; rfl)
    have HI0 := Lib.hid (want_next HC.out.good hx1)
    have HP0 : Hid (0 < i0) := Lib.hid (by have := (want_ok hx1).1; omega)
    clear hx1
    refine HWC.out.mono ?_; rintro e w0 ⟨rfl, hm0⟩
    have HQ00 := Lib.hid (QB.mv (Nat.zero_le _) HQ0.out hm0)
    clear hm0 b0 HWC
    have b0 : w0.cell? ⟨bx, 0, none⟩ = some (.pointer (some ⟨R, 0, none⟩)) := by rw [← HRR.out]; exact HQ00.out.2.1.cell 0
    have HLL := Lib.hid (HL1.out i0 HI0.out HP0.out QP.nul w0 HQ00.out)
    go_wp2_with fail
    rcases hx : listS (colS (measN C.s) C.L) C.L [44] C.L.length i0 QP.nul with f | ⟨i1, q1⟩
    · rw [hx] at HLL
      have HCX : Hid (queryS (dimN C.s) (measN C.s) C.L = .error f) := Lib.hid (by rw [HC0.out, hx]; rfl)
      clear hx
      refine HLL.out.mono ?_; rintro e wz ⟨rfl, hbz⟩
      have HBZ := Lib.hid hbz
      clear hbz
      go_wp2_with fail
      rw [← HRN.out, HCX.out]
      exact ⟨rfl, rfl, HBZ.out⟩
    · rw [hx] at HLL
      have HI1 := Lib.hid (HS1.out _ _ _ _ HI0.out hx)
      have HP1 : Hid (0 < i1) := Lib.hid (Nat.lt_of_le_of_lt (Nat.zero_le _) (list_goes (col_goes _ _) [44] _ _ _ _ hx))
      have HC1 : Hid (queryS (dimN C.s) (measN C.s) C.L = ((fun x => partS (groupS (dimN C.s) C.L) C.L [98, 121] [44] x >>= fun x => partS (condS (dimN C.s) C.L) C.L [119, 104, 101, 114, 101] [97, 110, 100] x >>= fun x => partS (ordS C.L) C.L [111, 114, 100, 101, 114] [44] x >>= fun x => limS C.L x >>= fun x => endS C.L x) : Nat × QP → Except (Nat × Nat) (Nat × QP)) (i1, q1)) := Lib.hid (by rw [HC0.out, hx]; rfl)
      clear hx b0
      refine HLL.out.mono ?_; rintro e w2 ⟨rfl, hq1⟩
      have HQ1 := Lib.hid hq1
      clear hq1 HLL
      obtain ⟨w1, rfl⟩ : ∃ w1, w1 = w2 := ⟨_, rfl⟩
      have b0 : w1.cell? ⟨bx, 0, none⟩ = some (.pointer (some ⟨R, 0, none⟩)) := by rw [← HRR.out]; exact HQ1.out.2.1.cell 0
      go_wp2_with fail
      obtain ⟨v, hv⟩ : ∃ v, wordAt C.L i1 [98, 121] = v := ⟨_, rfl⟩
      have HV := Lib.hid hv
      have HEE := Lib.hid (HE.out i1 ⟨#[98, 121]⟩ _ v rfl hv w1 HI1.out HQ1.out.at')
      clear hv
      refine HEE.out.mono ?_; rintro e wb ⟨rfl, hmb⟩
      have HQb := Lib.hid (QB.mv (by cases v <;> simp) HQ1.out hmb)
      clear b0 hmb HEE
      go_upto_if 8 with fail
      go_cut [] (fun wx => ∃ i' q', partS (groupS (dimN C.s) C.L) C.L [98, 121] [44] (i1, q1) = .ok (i', q') ∧ i' < C.L.length ∧ 0 < i' ∧ QB C bx i' q' wx)
      case first =>
        rcases v with _ | _
        · have HPX : Hid (partS (groupS (dimN C.s) C.L) C.L [98, 121] [44] (i1, q1) = .ok (i1, q1)) := Lib.hid (by unfold partS; dsimp only; rw [HV.out]; rfl)
          go_wp2_with fail
          go_meet
          exact ⟨_, _, HPX.out, HI1.out, HP1.out, HQb.out⟩
        · have HPX : Hid (partS (groupS (dimN C.s) C.L) C.L [98, 121] [44] (i1, q1) = listS (groupS (dimN C.s) C.L) C.L [44] C.L.length (i1 + 1) q1) := Lib.hid (by unfold partS; dsimp only; rw [HV.out]; rfl)
          have HN := Lib.hid (word_next HC.out.good HV.out)
          have HLL := Lib.hid (HL2.out (i1 + 1) HN.out (Nat.succ_pos _) q1 wb HQb.out)
          have b0 : wb.cell? ⟨bx, 0, none⟩ = some (.pointer (some ⟨R, 0, none⟩)) := by rw [← HRR.out]; exact HQb.out.2.1.cell 0
          go_wp2_with fail
          rcases hx : listS (groupS (dimN C.s) C.L) C.L [44] C.L.length (i1 + 1) q1 with f | ⟨j, q'⟩
          · rw [hx] at HLL
            have HCX : Hid (queryS (dimN C.s) (measN C.s) C.L = .error f) := Lib.hid (by rw [HC1.out, HPX.out, hx]; rfl)
            clear hx
            refine HLL.out.mono ?_; rintro e wz ⟨rfl, hbz⟩
            have HBZ := Lib.hid hbz
            clear hbz
            go_wp2_with fail
            rw [← HRN.out, HCX.out]
            exact ⟨rfl, rfl, HBZ.out⟩
          · rw [hx] at HLL
            have HN2 := Lib.hid (HS2.out _ _ _ _ HN.out hx)
            have HN3 := Lib.hid (list_goes (group_goes _ _) [44] _ _ _ _ hx)
            rw [hx] at HPX
            clear hx
            refine HLL.out.mono ?_; rintro e wz ⟨rfl, hqz⟩
            have HQZ := Lib.hid hqz
            clear hqz b0
            go_wp2_with fail
            go_meet
            exact ⟨j, q', HPX.out, HN2.out, Nat.lt_of_le_of_lt (Nat.zero_le _) HN3.out, HQZ.out⟩
      case rest =>
        obtain ⟨i2, q2, hpx, hi, hp, hq⟩ := hcut
        have HI2 := Lib.hid hi
        have HP2 := Lib.hid hp
        have HQ2 := Lib.hid hq
        have HC2 : Hid (queryS (dimN C.s) (measN C.s) C.L = ((fun x => partS (condS (dimN C.s) C.L) C.L [119, 104, 101, 114, 101] [97, 110, 100] x >>= fun x => partS (ordS C.L) C.L [111, 114, 100, 101, 114] [44] x >>= fun x => limS C.L x >>= fun x => endS C.L x) : Nat × QP → Except (Nat × Nat) (Nat × QP)) (i2, q2)) := Lib.hid (by rw [HC1.out, hpx]; rfl)
        clear hpx hi hp hq HQb HV
        obtain ⟨w2, rfl⟩ : ∃ x, x = wc := ⟨_, rfl⟩
        have b0 : w2.cell? ⟨bx, 0, none⟩ = some (.pointer (some ⟨R, 0, none⟩)) := by rw [← HRR.out]; exact HQ2.out.2.1.cell 0
        go_wp2_with fail
        obtain ⟨v, hv⟩ : ∃ v, wordAt C.L i2 [119, 104, 101, 114, 101] = v := ⟨_, rfl⟩
        have HV := Lib.hid hv
        have HEE := Lib.hid (HE.out i2 ⟨#[119, 104, 101, 114, 101]⟩ _ v rfl hv w2 HI2.out HQ2.out.at')
        clear hv
        refine HEE.out.mono ?_; rintro e wb ⟨rfl, hmb⟩
        have HQb := Lib.hid (QB.mv (by cases v <;> simp) HQ2.out hmb)
        clear b0 hmb HEE
        go_upto_if 14 with fail
        go_cut [] (fun wx => ∃ i' q', partS (condS (dimN C.s) C.L) C.L [119, 104, 101, 114, 101] [97, 110, 100] (i2, q2) = .ok (i', q') ∧ i' < C.L.length ∧ 0 < i' ∧ QB C bx i' q' wx)
        case first =>
          rcases v with _ | _
          · have HPX : Hid (partS (condS (dimN C.s) C.L) C.L [119, 104, 101, 114, 101] [97, 110, 100] (i2, q2) = .ok (i2, q2)) := Lib.hid (by unfold partS; dsimp only; rw [HV.out]; rfl)
            go_wp2_with fail
            go_meet
            exact ⟨_, _, HPX.out, HI2.out, HP2.out, HQb.out⟩
          · have HPX : Hid (partS (condS (dimN C.s) C.L) C.L [119, 104, 101, 114, 101] [97, 110, 100] (i2, q2) = listS (condS (dimN C.s) C.L) C.L [97, 110, 100] C.L.length (i2 + 1) q2) := Lib.hid (by unfold partS; dsimp only; rw [HV.out]; rfl)
            have HN := Lib.hid (word_next HC.out.good HV.out)
            have HLL := Lib.hid (HL3.out (i2 + 1) HN.out (Nat.succ_pos _) q2 wb HQb.out)
            have b0 : wb.cell? ⟨bx, 0, none⟩ = some (.pointer (some ⟨R, 0, none⟩)) := by rw [← HRR.out]; exact HQb.out.2.1.cell 0
            go_wp2_with fail
            rcases hx : listS (condS (dimN C.s) C.L) C.L [97, 110, 100] C.L.length (i2 + 1) q2 with f | ⟨j, q'⟩
            · rw [hx] at HLL
              have HCX : Hid (queryS (dimN C.s) (measN C.s) C.L = .error f) := Lib.hid (by rw [HC2.out, HPX.out, hx]; rfl)
              clear hx
              refine HLL.out.mono ?_; rintro e wz ⟨rfl, hbz⟩
              have HBZ := Lib.hid hbz
              clear hbz
              go_wp2_with fail
              rw [← HRN.out, HCX.out]
              exact ⟨rfl, rfl, HBZ.out⟩
            · rw [hx] at HLL
              have HN2 := Lib.hid (HS3.out _ _ _ _ HN.out hx)
              have HN3 := Lib.hid (list_goes (cond_goes _ _) [97, 110, 100] _ _ _ _ hx)
              rw [hx] at HPX
              clear hx
              refine HLL.out.mono ?_; rintro e wz ⟨rfl, hqz⟩
              have HQZ := Lib.hid hqz
              clear hqz b0
              go_wp2_with fail
              go_meet
              exact ⟨j, q', HPX.out, HN2.out, Nat.lt_of_le_of_lt (Nat.zero_le _) HN3.out, HQZ.out⟩
        case rest =>
          obtain ⟨i3, q3, hpx, hi, hp, hq⟩ := hcut
          have HI3 := Lib.hid hi
          have HP3 := Lib.hid hp
          have HQ3 := Lib.hid hq
          have HC3 : Hid (queryS (dimN C.s) (measN C.s) C.L = ((fun x => partS (ordS C.L) C.L [111, 114, 100, 101, 114] [44] x >>= fun x => limS C.L x >>= fun x => endS C.L x) : Nat × QP → Except (Nat × Nat) (Nat × QP)) (i3, q3)) := Lib.hid (by rw [HC2.out, hpx]; rfl)
          clear hpx hi hp hq HQb HV
          obtain ⟨w3, rfl⟩ : ∃ x, x = wc := ⟨_, rfl⟩
          have b0 : w3.cell? ⟨bx, 0, none⟩ = some (.pointer (some ⟨R, 0, none⟩)) := by rw [← HRR.out]; exact HQ3.out.2.1.cell 0
          go_wp2_with fail
          obtain ⟨v, hv⟩ : ∃ v, wordAt C.L i3 [111, 114, 100, 101, 114] = v := ⟨_, rfl⟩
          have HV := Lib.hid hv
          have HEE := Lib.hid (HE.out i3 ⟨#[111, 114, 100, 101, 114]⟩ _ v rfl hv w3 HI3.out HQ3.out.at')
          clear hv
          refine HEE.out.mono ?_; rintro e wb ⟨rfl, hmb⟩
          have HQb := Lib.hid (QB.mv (by cases v <;> simp) HQ3.out hmb)
          clear b0 hmb HEE
          go_upto_if 19 with fail
          go_cut [] (fun wx => ∃ i' q', partS (ordS C.L) C.L [111, 114, 100, 101, 114] [44] (i3, q3) = .ok (i', q') ∧ i' < C.L.length ∧ 0 < i' ∧ QB C bx i' q' wx)
          case first =>
            rcases v with _ | _
            · have HPX : Hid (partS (ordS C.L) C.L [111, 114, 100, 101, 114] [44] (i3, q3) = .ok (i3, q3)) := Lib.hid (by unfold partS; dsimp only; rw [HV.out]; rfl)
              go_wp2_with fail
              go_meet
              exact ⟨_, _, HPX.out, HI3.out, HP3.out, HQb.out⟩
            · have HPX : Hid (partS (ordS C.L) C.L [111, 114, 100, 101, 114] [44] (i3, q3) = listS (ordS C.L) C.L [44] C.L.length (i3 + 1) q3) := Lib.hid (by unfold partS; dsimp only; rw [HV.out]; rfl)
              have HN := Lib.hid (word_next HC.out.good HV.out)
              have HLL := Lib.hid (HL4.out (i3 + 1) HN.out (Nat.succ_pos _) q3 wb HQb.out)
              have b0 : wb.cell? ⟨bx, 0, none⟩ = some (.pointer (some ⟨R, 0, none⟩)) := by rw [← HRR.out]; exact HQb.out.2.1.cell 0
              go_wp2_with fail
              rcases hx : listS (ordS C.L) C.L [44] C.L.length (i3 + 1) q3 with f | ⟨j, q'⟩
              · rw [hx] at HLL
                have HCX : Hid (queryS (dimN C.s) (measN C.s) C.L = .error f) := Lib.hid (by rw [HC3.out, HPX.out, hx]; rfl)
                clear hx
                refine HLL.out.mono ?_; rintro e wz ⟨rfl, hbz⟩
                have HBZ := Lib.hid hbz
                clear hbz
                go_wp2_with fail
                rw [← HRN.out, HCX.out]
                exact ⟨rfl, rfl, HBZ.out⟩
              · rw [hx] at HLL
                have HN2 := Lib.hid (HS4.out _ _ _ _ HN.out hx)
                have HN3 := Lib.hid (list_goes (ord_goes _) [44] _ _ _ _ hx)
                rw [hx] at HPX
                clear hx
                refine HLL.out.mono ?_; rintro e wz ⟨rfl, hqz⟩
                have HQZ := Lib.hid hqz
                clear hqz b0
                go_wp2_with fail
                go_meet
                exact ⟨j, q', HPX.out, HN2.out, Nat.lt_of_le_of_lt (Nat.zero_le _) HN3.out, HQZ.out⟩
          case rest =>
            obtain ⟨i4, q4, hpx, hi, hp, hq⟩ := hcut
            have HI4 := Lib.hid hi
            have HP4 := Lib.hid hp
            have HQ4 := Lib.hid hq
            have HC4 : Hid (queryS (dimN C.s) (measN C.s) C.L = ((fun x => limS C.L x >>= fun x => endS C.L x) : Nat × QP → Except (Nat × Nat) (Nat × QP)) (i4, q4)) := Lib.hid (by rw [HC3.out, hpx]; rfl)
            clear hpx hi hp hq HQb HV
            obtain ⟨w4, rfl⟩ : ∃ x, x = wc := ⟨_, rfl⟩
            have b0 : w4.cell? ⟨bx, 0, none⟩ = some (.pointer (some ⟨R, 0, none⟩)) := by rw [← HRR.out]; exact HQ4.out.2.1.cell 0
            go_wp2_with fail
            obtain ⟨v, hv⟩ : ∃ v, wordAt C.L i4 [108, 105, 109, 105, 116] = v := ⟨_, rfl⟩
            have HV := Lib.hid hv
            have HEE := Lib.hid (HE.out i4 ⟨#[108, 105, 109, 105, 116]⟩ _ v rfl hv w4 HI4.out HQ4.out.at')
            clear hv
            refine HEE.out.mono ?_; rintro e wb ⟨rfl, hmb⟩
            have HQb := Lib.hid (QB.mv (by cases v <;> simp) HQ4.out hmb)
            clear b0 hmb HEE
            go_upto_if 25 with fail
            go_cut [] (fun wx => ∃ i' q', limS C.L (i4, q4) = .ok (i', q') ∧ i' < C.L.length ∧ QB C bx i' q' wx)
            case first =>
              rcases v with _ | _
              · have HPX : Hid (limS C.L (i4, q4) = .ok (i4, q4)) := Lib.hid (by unfold limS; dsimp only; rw [HV.out]; rfl)
                go_wp2_with fail
                go_meet
                exact ⟨_, _, HPX.out, HI4.out, HQb.out⟩
              · have HPX : Hid (limS C.L (i4, q4) = (numT C.L (i4 + 1) >>= fun x => pure (x.1, { q4 with limit := x.2 }))) := Lib.hid (by unfold limS; dsimp only; rw [HV.out]; rfl)
                have HN := Lib.hid (word_next HC.out.good HV.out)
                obtain ⟨⟨vf, vc, vo, fl, hqr⟩, hbxb, -⟩ := HQb.out
                have hqr : QR C (i4 + 1) q4 vf vc vo fl wb := hqr
                have HQR := Lib.hid hqr.drew
                have HBB := Lib.hid hbxb.drew
                have HLTB := Lib.hid HQb.out.2.2
                have HNN := Lib.hid (pnumber_any C HC.out (i4 + 1) HN.out wb.drew HQR.out.at')
                rw [HRR.out] at HNN
                have b0 : wb.drew.cell? ⟨bx, 0, none⟩ = some (.pointer (some ⟨R, 0, none⟩)) := by rw [← HRR.out]; exact HBB.out.cell 0
                have b1 : wb.drew.cell? ⟨R, 10, none⟩ = some (.int .i64 q4.limit) := by rw [← HRR.out, Blk.cell HQR.out.rd]; rfl
                have b2 : wb.drew.frozen? ⟨R, 10, none⟩ = false := by rw [← HRR.out]; exact Blk.frozen HQR.out.rd 10
                clear hqr hbxb
                go_upto_region 10 with fail
                refine wp_regionN (fun w' => w'.cell? ⟨bx, 0, none⟩ = some (.pointer (some ⟨R, 0, none⟩)) ∧ w'.cell? ⟨R, 10, none⟩ = some (.int .i64 q4.limit) ∧ w'.frozen? ⟨R, 10, none⟩ = false) [6] (by kernel_rfl) (by exact ⟨b0, b1, b2⟩) (fun hHeld => ?_)
                refine wpAnyN_take (i := 0) (oi := ⟨some 26, _, _, _, _, _⟩) (v := ?_) rfl (by kernel_rfl) (by kernel_rfl) (by kernel_rfl) (by kernel_rfl) (by kernel_rfl) (fun _ _ _ h => h) (Or.inl ⟨by rfl, ?_⟩) (by assumption) ?_
                rotate_left 1
                · (intro w hSw; (try dsimp only at hSw); go_simp; try with_reducible rfl)
                try simp only [Act.put, List.setIfInBounds_toArray, List.set_cons_zero, List.set_cons_succ]
                refine wpAnyN_take (i := 1) (oi := ⟨some 27, _, _, _, _, _⟩) (v := ?_) rfl (by kernel_rfl) (by kernel_rfl) (by kernel_rfl) (by kernel_rfl) (by kernel_rfl) (fun _ _ _ h => h) (Or.inl ⟨by rfl, ?_⟩) (by assumption) ?_
                rotate_left 1
                · (intro w hSw; (try dsimp only at hSw); go_simp; try with_reducible rfl)
                try simp only [Act.put, List.setIfInBounds_toArray, List.set_cons_zero, List.set_cons_succ]
                refine wpAnyN_one (i := 2) (o := ⟨some 28, _, _, _, _, _⟩) (by kernel_rfl) rfl (fun K hK => ?_)
                go_simp
                rcases hx : numT C.L (i4 + 1) with f | ⟨j, n⟩
                · rw [hx] at HNN
                  have HCX : Hid (queryS (dimN C.s) (measN C.s) C.L = .error f) := Lib.hid (by rw [HC4.out]; show (limS C.L (i4, q4) >>= _) = _; rw [HPX.out, hx]; rfl)
                  clear hx
                  refine HNN.out.mono ?_; rintro e wz ⟨rfl, hbz⟩
                  rw [← HRN.out, HCX.out]
                  exact ⟨rfl, rfl, hbz⟩
                · rw [hx] at HNN
                  have hx' : limS C.L (i4, q4) = .ok (j, { q4 with limit := n }) := by rw [HPX.out, hx]; rfl
                  have HPY := Lib.hid hx'
                  have HNI := Lib.hid (numT_i64 HC.out.good HN.out hx)
                  have HN2 := Lib.hid (num_next HC.out.good hx)
                  clear hx hx'
                  refine HNN.out.mono ?_; rintro e wz ⟨rfl, hmz⟩
                  have HQZ := Lib.hid (HQR.out.mv hmz (by have := HNI.out.1; dsimp only at this ⊢; omega))
                  have HBZ := Lib.hid (hmz.kp.blk HBB.out (by have := HLTB.out; omega))
                  have d0 : wz.cell? ⟨bx, 0, none⟩ = some (.pointer (some ⟨R, 0, none⟩)) := by rw [← HRR.out]; exact HBZ.out.cell 0
                  have d1 : wz.cell? ⟨R, 10, none⟩ = some (.int .i64 q4.limit) := by rw [← HRR.out, Blk.cell HQZ.out.rd]; rfl
                  have d2 : wz.frozen? ⟨R, 10, none⟩ = false := by rw [← HRR.out]; exact Blk.frozen HQZ.out.rd 10
                  clear hmz HNN b0 b1 b2
                  dsimp only
                  refine hK.out _ _ (by exact ⟨d0, d1, d2⟩) ?_
                  clear hK K hHeld
                  intro hHeld
                  try simp only [Act.put, List.setIfInBounds_toArray, List.set_cons_zero, List.set_cons_succ]
                  refine wpAnyN_take (i := 3) (oi := ⟨some 29, _, _, _, _, _⟩) (v := ?_) rfl (by kernel_rfl) (by kernel_rfl) (by kernel_rfl) (by kernel_rfl) (by kernel_rfl) (fun _ _ _ h => h) (Or.inl ⟨by rfl, ?_⟩) (by assumption) ?_
                  rotate_left 1
                  · (intro w hSw; (try dsimp only at hSw); go_simp; try with_reducible rfl)
                  try simp only [Act.put, List.setIfInBounds_toArray, List.set_cons_zero, List.set_cons_succ]
                  refine wpAnyN_take (i := 4) (oi := ⟨some 30, _, _, _, _, _⟩) (v := ?_) rfl (by kernel_rfl) (by kernel_rfl) (by kernel_rfl) (by kernel_rfl) (by kernel_rfl) (fun _ _ _ h => h) (Or.inl ⟨by rfl, ?_⟩) (by assumption) ?_
                  rotate_left 1
                  · (intro w hSw; (try dsimp only at hSw); go_simp; try with_reducible rfl)
                  try simp only [Act.put, List.setIfInBounds_toArray, List.set_cons_zero, List.set_cons_succ]
                  refine wpAnyN_take (i := 5) (oi := ⟨some 31, _, _, _, _, _⟩) (v := ?_) rfl (by kernel_rfl) (by kernel_rfl) (by kernel_rfl) (by kernel_rfl) (by kernel_rfl) (fun _ _ _ h => h) (Or.inl ⟨by rfl, ?_⟩) (by assumption) ?_
                  rotate_left 1
                  · (intro w hSw; (try dsimp only at hSw); go_simp; try with_reducible rfl)
                  try simp only [Act.put, List.setIfInBounds_toArray, List.set_cons_zero, List.set_cons_succ]
                  refine wpAnyN_late (i := 6) (o := ⟨none, _, _, _, _, _⟩) (by kernel_rfl) (by kernel_rfl) rfl (fun K hK => ?_)
                  go_simp
                  refine hK.out _ _ ?_
                  clear hK K
                  try simp only [Act.put, List.setIfInBounds_toArray, List.set_cons_zero, List.set_cons_succ]
                  refine wpAnyN_end (by kernel_rfl) ?_
                  go_wp2_with fail
                  go_meet
                  refine ⟨j, _, HPY.out, HN2.out, ⟨vf, vc, vo, fl, ?_⟩, ?_, HLTB.out⟩
                  · rw [← HRR.out]; exact HQZ.out.setL HNI.out.2
                  · rw [← HRR.out]; exact HBZ.out.far (by have := HLTB.out; show bx ≠ C.R; omega) _
            case rest =>
              obtain ⟨i5, q5, hpx, hi, hq⟩ := hcut
              have HI5 := Lib.hid hi
              have HQ5 := Lib.hid hq
              have HC5 : Hid (queryS (dimN C.s) (measN C.s) C.L = endS C.L (i5, q5)) := Lib.hid (by rw [HC4.out]; show (limS C.L (i4, q4) >>= _) = _; rw [hpx]; rfl)
              clear hpx hi hq HQb HV
              obtain ⟨w5, rfl⟩ : ∃ x, x = wc := ⟨_, rfl⟩
              have b0 : w5.cell? ⟨bx, 0, none⟩ = some (.pointer (some ⟨R, 0, none⟩)) := by rw [← HRR.out]; exact HQ5.out.2.1.cell 0
              have HNX := Lib.hid (next_any C HC.out i5 HI5.out w5 HQ5.out.at')
              have HFA : Hid (∀ w1, RAt C i5 w1 → Calls Try.prog 61 #[.pointer (some ⟨C.R, 0, none⟩), .int .i64 (6 : Int)] w1 (Fails C (i5, 6))) := Lib.hid (fun w1 hm => fail_any C HC.out i5 HI5.out 6 w1 hm)
              rw [HRR.out] at HNX HFA
              go_wp2_with fail
              refine HNX.out.mono ?_; rintro e w6 ⟨rfl, hm6⟩
              have HQ6 := Lib.hid (QB.mv (Nat.le_refl _) HQ5.out hm6)
              have HEN : Hid (endS C.L (i5, q5) = if (tokAt C.L i5).k = 0 then .ok (i5, q5) else .error (i5, 6)) := Lib.hid rfl
              obtain ⟨⟨k, t, n, a⟩, hx⟩ : ∃ x, tokAt C.L i5 = x := ⟨_, rfl⟩
              rw [hx] at HEN ⊢
              unfold Tok.val
              dsimp only at HEN ⊢
              have hfd := tok_f0 k n a t
              clear hm6 HNX hx b0
              have b0 : w6.cell? ⟨bx, 0, none⟩ = some (.pointer (some ⟨R, 0, none⟩)) := by rw [← HRR.out]; exact HQ6.out.2.1.cell 0
              by_cases hk : k = 0
              · subst hk
                have HCX : Hid (queryS (dimN C.s) (measN C.s) C.L = .ok (i5, q5)) := Lib.hid (by rw [HC5.out, HEN.out, if_pos rfl])
                go_wp2_with fail
                go_end0
                rw [← HRN.out, HCX.out]
                exact ⟨rfl, HQ6.out.1⟩
              · have HCX : Hid (queryS (dimN C.s) (measN C.s) C.L = .error (i5, 6)) := Lib.hid (by rw [HC5.out, HEN.out, if_neg hk])
                go_wp2_with fail
                refine (HFA.out _ HQ6.out.at').mono ?_; rintro e wz ⟨rfl, hbz⟩
                have HBZ := Lib.hid hbz
                clear hbz
                go_wp2_with fail
                rw [← HRN.out, HCX.out]
                exact ⟨rfl, rfl, HBZ.out⟩
end Go.Proofs.Ytaofjnidniekjaa
