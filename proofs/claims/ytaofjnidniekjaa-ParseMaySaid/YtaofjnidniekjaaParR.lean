/- What the reader of package parse goes past: a column. Conditions: those stated. -/
import Derived.Test.YtaofjnidniekjaaParQ
namespace Go.Proofs.Ytaofjnidniekjaa
open Go.RowKit

theorem TokOk.next {L : List Tok} (h : TokOk L) {i : Nat} (hi : i < L.length) (hk : (tokAt L i).k ≠ 0) : i + 1 < L.length := by
  rcases Nat.lt_or_ge (i + 1) L.length with h1 | h1
  · exact h1
  · exact absurd (show (tokAt L i).k = 0 by rw [show i = L.length - 1 by omega]; exact h.last) hk
theorem word_next {L : List Tok} (h : TokOk L) {i : Nat} {t : List UInt8} (hw : wordAt L i t = true) : i + 1 < L.length := by
  have h1 := word_lt hw
  unfold wordAt at hw
  have h2 := of_decide_eq_true hw
  exact h.next h1 (by omega)
theorem want_next {L : List Tok} (h : TokOk L) {i j : Nat} {t : List UInt8} (hw : wantS L i t = .ok j) : j < L.length := by
  unfold wantS at hw
  split at hw
  · rename_i h1; cases hw; exact word_next h h1
  · cases hw
theorem num_next {L : List Tok} (h : TokOk L) {i : Nat} {x : Nat × Int} (hw : numT L i = .ok x) : x.1 < L.length := by
  have h1 := num_ok hw
  unfold numT at hw
  split at hw
  · rename_i h2; rw [h1.1]; exact h.next h1.2 (by omega)
  · cases hw
theorem name_next {names : List ByteArray} {L : List Tok} (h : TokOk L) {i : Nat} {x : Nat × Nat} (hw : nameS names L i = .ok x) : x.1 < L.length := by
  have h1 := name_ok hw
  unfold nameS at hw
  split at hw
  · rename_i h2; rw [h1.1]; exact h.next h1.2 (by omega)
  · cases hw
theorem Mv.far {C : RC} {i j : Nat} {w W : World} (h : Mv C i j w W) {p : Addr} (hp : w.heap.size ≤ p.block) (hR : C.R < w.heap.size) (u : Value) : Mv C i j w (W.setCell p u) :=
  ⟨h.kp.set (.inr hp) u, fun g vf vc vo m hr => (h.rd g vf vc vo m hr).far (by omega) u⟩
/-- a call's answer: a value, the reader further on; or the fault -/
def RVal {α : Type} (C : RC) (i : Nat) (w : World) (val : α → Value) (r : Except (Nat × Nat) (Nat × α)) (e : Ending) (w' : World) : Prop :=
  match r with
  | .ok x => e = .returned (val x.2) ∧ Mv C i x.1 w w'
  | .error f => Fails C f e w'
def RUnit (C : RC) (j : Nat) (w1 : World) (r : Except (Nat × Nat) Nat) (e : Ending) (w' : World) : Prop :=
  match r with
  | .ok k => e = .returned (.tuple #[]) ∧ Mv C j k w1 w'
  | .error f => Fails C f e w'
def colV (x : Int × Int) : Value := .agg #[.int .i64 x.1, .int .i64 x.2]
/-- a column -/
def colT (meas : List ByteArray) (L : List Tok) (i : Nat) : Except (Nat × Nat) (Nat × (Int × Int)) :=
  match kindAt L i aggW 0 with
  | none => .error (i, 6)
  | some 0 => .ok (i + 1, (0, 0))
  | some (k + 1) => wantS L (i + 1) [40] >>= fun a => nameS meas L a >>= fun b => wantS L b.1 [41] >>= fun c => pure (c, (((k + 1 : Nat) : Int), (b.2 : Int)))
theorem col_one (meas : List ByteArray) (L : List Tok) (i : Nat) (q : QP) : colS meas L i q = (colT meas L i >>= fun x => pure (x.1, { q with cols := q.cols ++ [x.2] })) := by
  unfold colS colT
  cases kindAt L i aggW 0 with
  | none => rfl
  | some k =>
    cases k with
    | zero => rfl
    | succ k => simp only [bind_assoc, pure_bind]
theorem kind_drop {k : Nat} (h : k < 7) : ∃ u : ByteArray, (#[Value.string ⟨#[99, 111, 117, 110, 116]⟩, .string ⟨#[115, 117, 109]⟩, .string ⟨#[109, 105, 110]⟩, .string ⟨#[109, 97, 120]⟩, .string ⟨#[109, 101, 97, 110]⟩, .string ⟨#[100, 101, 118]⟩, .string ⟨#[115, 104, 97, 114, 101]⟩] : Array Value)[k]? = some (.string u) ∧
    aggW.drop k = u.data.toList :: aggW.drop (k + 1) := by
  have : k = 0 ∨ k = 1 ∨ k = 2 ∨ k = 3 ∨ k = 4 ∨ k = 5 ∨ k = 6 := by omega
  rcases this with rfl | rfl | rfl | rfl | rfl | rfl | rfl <;> exact ⟨_, rfl, rfl⟩

set_option maxRecDepth 100000 in
set_option maxHeartbeats 1000000 in
theorem pcol_any (C : RC) (hC : C.Ok) (i : Nat) (hi : i < C.L.length) (w : World) (hR : RAt C i w) :
    Calls Try.prog 53 #[.pointer (some ⟨C.R, 0, none⟩)] w (RVal C i w colV (colT (measN C.s) C.L i)) := by
  have HC := Lib.hid hC
  have HI := Lib.hid hi
  have HR := Lib.hid hR
  have HE : Hid (∀ (u : ByteArray) (b : Bool), wordAt C.L i u.data.toList = b → ∀ w1, Mv C i i w w1 → Calls Try.prog 54 #[.pointer (some ⟨C.R, 0, none⟩), .string u] w1 fun e w' => e = .returned (.bool b) ∧ Mv C i (if b then i + 1 else i) w1 w') := Lib.hid (fun u b hb w1 hm => eat_any C hC i hi u b hb w1 (hR.mv hm))
  have HF : Hid (∀ w1, Mv C i i w w1 → Calls Try.prog 61 #[.pointer (some ⟨C.R, 0, none⟩), .int .i64 (6 : Int)] w1 (Fails C (i, 6))) := Lib.hid (fun w1 hm => fail_any C hC i hi 6 w1 (hR.mv hm))
  have HW : Hid (∀ (j : Nat) (u : ByteArray) (t : List UInt8) (w1 : World), u.data.toList = t → j < C.L.length → Mv C i j w w1 → Calls Try.prog 50 #[.pointer (some ⟨C.R, 0, none⟩), .string u] w1 (RUnit C j w1 (wantS C.L j t))) := Lib.hid (fun j u t w1 ht hj hm => by rw [← ht]; exact want_any C hC j hj u w1 (hR.mv hm))
  have HME : Hid (∀ (j : Nat) (w1 : World), j < C.L.length → Mv C i j w w1 → Calls Try.prog 71 #[.pointer (some ⟨C.R, 0, none⟩)] w1 (RPlc C j w1 (nameS (measN C.s) C.L j))) := Lib.hid (fun j w1 hj hm => pmeasure_any C hC j hj w1 (hR.mv hm))
  obtain ⟨r, hr⟩ : ∃ r, RVal C i w colV (colT (measN C.s) C.L i) = r := ⟨_, rfl⟩
  rw [hr]
  have HRN := Lib.hid hr
  have HLT := Lib.hid hR.lt
  clear hr hR hC hi
  obtain ⟨R, hRR⟩ : ∃ r, C.R = r := ⟨_, rfl⟩
  have HRR := Lib.hid hRR
  rw [hRR] at HE HF HW HME ⊢
  clear hRR
  go_enter Try.func53, Try.ntmps53
  go_wp2_with fail
  have hm0 : Mv C i i w ((w.alloc (.cells #[.int .i64 0, .int .i64 0] 66)).alloc (.cells #[.string ⟨#[99, 111, 117, 110, 116]⟩, .string ⟨#[115, 117, 109]⟩, .string ⟨#[109, 105, 110]⟩, .string ⟨#[109, 97, 120]⟩, .string ⟨#[109, 101, 97, 110]⟩, .string ⟨#[100, 101, 118]⟩, .string ⟨#[115, 104, 97, 114, 101]⟩] 9)) := ((Mv.of_below (Below.refl _ _)).alloc _).alloc _
  have hk0 := (Blk.new w 66 #[.int .i64 0, .int .i64 0]).alloc (.cells #[.string ⟨#[99, 111, 117, 110, 116]⟩, .string ⟨#[115, 117, 109]⟩, .string ⟨#[109, 105, 110]⟩, .string ⟨#[109, 97, 120]⟩, .string ⟨#[109, 101, 97, 110]⟩, .string ⟨#[100, 101, 118]⟩, .string ⟨#[115, 104, 97, 114, 101]⟩] 9)
  have hk1 := Blk.new (w.alloc (.cells #[.int .i64 0, .int .i64 0] 66)) 9 #[.string ⟨#[99, 111, 117, 110, 116]⟩, .string ⟨#[115, 117, 109]⟩, .string ⟨#[109, 105, 110]⟩, .string ⟨#[109, 97, 120]⟩, .string ⟨#[109, 101, 97, 110]⟩, .string ⟨#[100, 101, 118]⟩, .string ⟨#[115, 104, 97, 114, 101]⟩]
  rw [World.size_alloc] at hk1
  have HM0 := Lib.hid hm0
  have HK0 := Lib.hid hk0
  have HK1 := Lib.hid hk1
  clear hm0 hk0 hk1
  generalize ((w.alloc (.cells #[.int .i64 0, .int .i64 0] 66)).alloc (.cells #[.string ⟨#[99, 111, 117, 110, 116]⟩, .string ⟨#[115, 117, 109]⟩, .string ⟨#[109, 105, 110]⟩, .string ⟨#[109, 97, 120]⟩, .string ⟨#[109, 101, 97, 110]⟩, .string ⟨#[100, 101, 118]⟩, .string ⟨#[115, 104, 97, 114, 101]⟩] 9)) = w0 at *
  generalize hS : w.heap.size = S at *
  have HS := Lib.hid hS
  clear hS
  have HLW : Hid (C.R < w.heap.size) := Lib.hid (by rw [HS.out]; exact HLT.out)
  go_loopg [8] 7 (fun q ku wr => ∃ (k : Nat), ku = .int .i64 k ∧ k + q = 7 ∧ kindAt C.L i (aggW.drop k) k = kindAt C.L i aggW 0 ∧ Mv C i i w wr ∧ Blk wr S 66 #[.int .i64 0, .int .i64 0] ∧ Blk wr (S + 1) 9 #[.string ⟨#[99, 111, 117, 110, 116]⟩, .string ⟨#[115, 117, 109]⟩, .string ⟨#[109, 105, 110]⟩, .string ⟨#[109, 97, 120]⟩, .string ⟨#[109, 101, 97, 110]⟩, .string ⟨#[100, 101, 118]⟩, .string ⟨#[115, 104, 97, 114, 101]⟩])
  case atStart => exact ⟨0, rfl, rfl, rfl, HM0.out, HK0.out, HK1.out⟩
  case round =>
    obtain ⟨k, rfl, hq, hka, hm, hk0, hk1⟩ := hrel
    have HQ := Lib.hid hq
    have HKA := Lib.hid hka
    have HM := Lib.hid hm
    have HK0 := Lib.hid hk0
    have HK1 := Lib.hid hk1
    clear hq hka hm hk0 hk1
    by_cases hlt : k < 7
    · obtain ⟨u, hu, hd⟩ := kind_drop hlt
      have c0 : wr.cell? ⟨S + 1, k, none⟩ = some (.string u) := by rw [Blk.cell HK1.out]; exact hu
      have HD := Lib.hid hd
      obtain ⟨b, hb⟩ : ∃ b, wordAt C.L i u.data.toList = b := ⟨_, rfl⟩
      have HB := Lib.hid hb
      have HEE := Lib.hid (HE.out u b hb wr HM.out)
      have hg1 : 1 ≤ gk := by have := HQ.out; omega
      clear hu hd hb
      go_wp2_with fail
      refine HEE.out.mono ?_; rintro e w1 ⟨rfl, hm1⟩
      have HM1 := Lib.hid hm1
      have HL1 := Lib.hid (show C.R < wr.heap.size from Nat.lt_of_lt_of_le HLT.out (by have := HM.out.kp.size; have := HS.out; omega))
      clear hm1 HEE c0
      rcases b with _ | _
      · have HKB : Hid (kindAt C.L i (aggW.drop (k + 1)) (k + 1) = kindAt C.L i aggW 0) := Lib.hid (by
          rw [← HKA.out, HD.out]
          show _ = if wordAt C.L i u.data.toList then _ else _
          rw [HB.out]; rfl)
        have HM2 := Lib.hid (HM.out.trans HM1.out)
        have HK2 := Lib.hid (HM1.out.kp.blk HK0.out (by have := HLT.out; have := HS.out; omega))
        have HK3 := Lib.hid (HM1.out.kp.blk HK1.out (by have := HLT.out; have := HS.out; omega))
        go_wp2_with fail
        go_roundg (gk - 1)
        case measure => omega
        case rel => exact ⟨k + 1, by go_num, by have := HQ.out; omega, HKB.out, HM2.out, HK2.out, HK3.out⟩
      · have HKB : Hid (kindAt C.L i aggW 0 = some k) := Lib.hid (by
          rw [← HKA.out, HD.out]
          show (if wordAt C.L i u.data.toList then _ else _) = _
          rw [HB.out]; rfl)
        have HN1 := Lib.hid (word_next HC.out.good HB.out)
        have HM2 : Hid (Mv C i (i + 1) w w1) := Lib.hid (HM.out.trans HM1.out)
        have HK2 := Lib.hid (HM1.out.kp.blk HK0.out (by have := HLT.out; have := HS.out; omega))
        have hS1 : S < w1.heap.size := HK2.out.lt
        have HSR : Hid (S ≠ R) := Lib.hid (by have := HLT.out; have := HS.out; have := HRR.out; omega)
        by_cases hk : k = 0
        · subst hk
          have HCT : Hid (colT (measN C.s) C.L i = .ok (i + 1, (0, 0))) := Lib.hid (by unfold colT; rw [HKB.out])
          have x0 : w1.cell? ⟨S, 0, none⟩ = some (.int .i64 0) := HK2.out.cell 0
          have x1 : w1.cell? ⟨S, 1, none⟩ = some (.int .i64 0) := HK2.out.cell 1
          have f0 : w1.frozen? ⟨S, 0, none⟩ = false := HK2.out.frozen 0
          have f1 : w1.frozen? ⟨S, 1, none⟩ = false := HK2.out.frozen 1
          go_wp2_with fail
          have HFN : Hid (Mv C i (i + 1) w (((w1.setCell ⟨S, 0, none⟩ (.int .i64 0)).setCell ⟨S, 1, none⟩ (.int .i64 0)).alloc (.cells #[.int .i64 0, .int .i64 0] 66))) := Lib.hid (((HM2.out.far (Nat.le_of_eq HS.out) HLW.out _).far (Nat.le_of_eq HS.out) HLW.out _).alloc _)
          refine bodyPost_ret (v := colV (0, 0)) ?_ rfl ?_
          · have y0 : (((w1.setCell ⟨S, 0, none⟩ (.int .i64 0)).setCell ⟨S, 1, none⟩ (.int .i64 0)).alloc (.cells #[.int .i64 0, .int .i64 0] 66)).cell? ⟨S, 0, none⟩ = some (.int .i64 0) := (((HK2.out.set_ 0 _).set_ 1 _).alloc _).cell 0
            have y1 : (((w1.setCell ⟨S, 0, none⟩ (.int .i64 0)).setCell ⟨S, 1, none⟩ (.int .i64 0)).alloc (.cells #[.int .i64 0, .int .i64 0] 66)).cell? ⟨S, 1, none⟩ = some (.int .i64 0) := (((HK2.out.set_ 0 _).set_ 1 _).alloc _).cell 1
            unfold colV
            simp [results, Try.results53, go_sem, y0, y1]
          · rw [← HRN.out, HCT.out]
            exact ⟨rfl, HFN.out⟩
        · have HCT : Hid (colT (measN C.s) C.L i = wantS C.L (i + 1) [40] >>= fun a => nameS (measN C.s) C.L a >>= fun b => wantS C.L b.1 [41] >>= fun c => pure (c, ((k : Int), (b.2 : Int)))) := Lib.hid (by
            obtain ⟨k2, rfl⟩ : ∃ k2, k = k2 + 1 := ⟨k - 1, by omega⟩
            unfold colT; rw [HKB.out])
          have hk1 : ((k : Int) != 0) = true := by simp; omega
          have HMA := Lib.hid (HM2.out.alloc (.cells #[.int .i64 (k : Int), .int .i64 0] 66))
          have HKC := Lib.hid (HK2.out.alloc (.cells #[.int .i64 (k : Int), .int .i64 0] 66))
          have HKD := Lib.hid (Blk.new w1 66 #[.int .i64 (k : Int), .int .i64 0])
          have HT1 : Hid (w.heap.size ≤ w1.heap.size) := Lib.hid HM2.out.kp.size
          have hst : S < w1.heap.size := hS1
          clear hk
          go_wp2_with fail
          generalize hw2 : w1.alloc (.cells #[.int .i64 (k : Int), .int .i64 0] 66) = w2 at *
          generalize w1.heap.size = T at *
          clear hw2
          rcases hx1 : wantS C.L (i + 1) [40] with f1 | j1
          · have HX1 := Lib.hid hx1
            have HWC := Lib.hid (HW.out (i + 1) ⟨#[40]⟩ [40] _ rfl HN1.out HMA.out)
            rw [hx1] at HWC
            clear hx1
            refine HWC.out.mono ?_; rintro e w3 ⟨rfl, hb3⟩
            have HB3 := Lib.hid hb3
            clear hb3
            go_wp2_with fail
            rw [← HRN.out, HCT.out, HX1.out]
            exact ⟨rfl, rfl, HB3.out⟩
          · have HX1 := Lib.hid hx1
            have HWC := Lib.hid (HW.out (i + 1) ⟨#[40]⟩ [40] _ rfl HN1.out HMA.out)
            rw [hx1] at HWC
            have HN2 := Lib.hid (want_next HC.out.good hx1)
            clear hx1
            refine HWC.out.mono ?_; rintro e w3 ⟨rfl, hm3⟩
            have HM3 := Lib.hid (HMA.out.trans hm3)
            have HK3 := Lib.hid (hm3.kp.blk HKC.out (by have := HSR.out; have := HRR.out; omega))
            have HD3 := Lib.hid (hm3.kp.blk HKD.out (by have := HSR.out; have := HRR.out; have := HLT.out; omega))
            clear hm3 HWC
            rcases hx2 : nameS (measN C.s) C.L j1 with f2 | ⟨j2, m⟩
            · have HX2 := Lib.hid hx2
              have HWC := Lib.hid (HME.out j1 _ HN2.out HM3.out)
              rw [hx2] at HWC
              clear hx2
              go_wp2_with fail
              refine HWC.out.mono ?_; rintro e w4 ⟨rfl, hb4⟩
              have HB4 := Lib.hid hb4
              clear hb4
              go_wp2_with fail
              have hcx : colT (measN C.s) C.L i = .error f2 := by
                rw [HCT.out, HX1.out]
                show (nameS (measN C.s) C.L j1 >>= _) = _
                rw [HX2.out]; rfl
              rw [← HRN.out, hcx]
              exact ⟨rfl, rfl, HB4.out⟩
            · have HX2 := Lib.hid hx2
              have HWC := Lib.hid (HME.out j1 _ HN2.out HM3.out)
              rw [hx2] at HWC
              have HN3 := Lib.hid (name_next HC.out.good hx2)
              clear hx2
              go_wp2_with fail
              refine HWC.out.mono ?_; rintro e w4 ⟨rfl, hm4⟩
              have HM4 := Lib.hid (HM3.out.trans hm4)
              have HK4 := Lib.hid (hm4.kp.blk HK3.out (by have := HSR.out; have := HRR.out; omega))
              have HD4 := Lib.hid (hm4.kp.blk HD3.out (by have := HSR.out; have := HRR.out; have := HLT.out; omega))
              clear hm4 HWC
              have x0 : w4.cell? ⟨T, 1, none⟩ = some (.int .i64 0) := HD4.out.cell 1
              have f0 : w4.frozen? ⟨T, 1, none⟩ = false := HD4.out.frozen 1
              dsimp only at HM4 HN3 ⊢
              have HM5 : Hid (Mv C i j2 w (w4.setCell ⟨T, 1, none⟩ (.int .i64 (m : Int)))) := Lib.hid (HM4.out.far (by have := HT1.out; exact this) HLW.out _)
              have HK5 : Hid (Blk (w4.setCell ⟨T, 1, none⟩ (.int .i64 (m : Int))) S 66 #[.int .i64 0, .int .i64 0]) := Lib.hid (HK4.out.far (by show S ≠ T; omega) _)
              have HD5 : Hid (Blk (w4.setCell ⟨T, 1, none⟩ (.int .i64 (m : Int))) T 66 #[.int .i64 (k : Int), .int .i64 (m : Int)]) := Lib.hid (HD4.out.set_ 1 _)
              rcases hx3 : wantS C.L j2 [41] with f3 | j3
              · have HX3 := Lib.hid hx3
                have HWC := Lib.hid (HW.out j2 ⟨#[41]⟩ [41] _ rfl HN3.out HM5.out)
                rw [hx3] at HWC
                clear hx3
                go_wp2_with fail
                refine HWC.out.mono ?_; rintro e w5 ⟨rfl, hb5⟩
                have HB5 := Lib.hid hb5
                clear hb5
                go_wp2_with fail
                have hcx : colT (measN C.s) C.L i = .error f3 := by
                  rw [HCT.out, HX1.out]
                  show (nameS (measN C.s) C.L j1 >>= _) = _
                  rw [HX2.out]
                  show (wantS C.L j2 [41] >>= _) = _
                  rw [HX3.out]; rfl
                rw [← HRN.out, hcx]
                exact ⟨rfl, rfl, HB5.out⟩
              · have HX3 := Lib.hid hx3
                have HWC := Lib.hid (HW.out j2 ⟨#[41]⟩ [41] _ rfl HN3.out HM5.out)
                rw [hx3] at HWC
                clear hx3
                go_wp2_with fail
                refine HWC.out.mono ?_; rintro e w5 ⟨rfl, hm5⟩
                have HM6 := Lib.hid (HM5.out.trans hm5)
                have HK6 := Lib.hid (hm5.kp.blk HK5.out (by have := HSR.out; have := HRR.out; omega))
                have HD6 := Lib.hid (hm5.kp.blk HD5.out (by have := HSR.out; have := HRR.out; have := HLT.out; omega))
                clear hm5 HWC x0 f0
                have y0 : w5.cell? ⟨T, 0, none⟩ = some (.int .i64 (k : Int)) := HD6.out.cell 0
                have y1 : w5.cell? ⟨T, 1, none⟩ = some (.int .i64 (m : Int)) := HD6.out.cell 1
                have x0 : w5.cell? ⟨S, 0, none⟩ = some (.int .i64 0) := HK6.out.cell 0
                have x1 : w5.cell? ⟨S, 1, none⟩ = some (.int .i64 0) := HK6.out.cell 1
                have f0 : w5.frozen? ⟨S, 0, none⟩ = false := HK6.out.frozen 0
                have f1 : w5.frozen? ⟨S, 1, none⟩ = false := HK6.out.frozen 1
                go_wp2_with fail
                have HFN : Hid (Mv C i j3 w ((w5.setCell ⟨S, 0, none⟩ (.int .i64 (k : Int))).setCell ⟨S, 1, none⟩ (.int .i64 (m : Int)))) := Lib.hid ((HM6.out.far (Nat.le_of_eq HS.out) HLW.out _).far (Nat.le_of_eq HS.out) HLW.out _)
                have HFK := Lib.hid ((HK6.out.set_ 0 (.int .i64 (k : Int))).set_ 1 (.int .i64 (m : Int)))
                refine bodyPost_ret (v := colV ((k : Int), (m : Int))) ?_ rfl ?_
                · have z0 : ((w5.setCell ⟨S, 0, none⟩ (.int .i64 (k : Int))).setCell ⟨S, 1, none⟩ (.int .i64 (m : Int))).cell? ⟨S, 0, none⟩ = some (.int .i64 (k : Int)) := HFK.out.cell 0
                  have z1 : ((w5.setCell ⟨S, 0, none⟩ (.int .i64 (k : Int))).setCell ⟨S, 1, none⟩ (.int .i64 (m : Int))).cell? ⟨S, 1, none⟩ = some (.int .i64 (m : Int)) := HFK.out.cell 1
                  unfold colV
                  simp [results, Try.results53, go_sem, z0, z1]
                · rw [← HRN.out, HCT.out, HX1.out]
                  show RVal C i w colV (nameS (measN C.s) C.L j1 >>= _) _ _
                  rw [HX2.out]
                  show RVal C i w colV (wantS C.L j2 [41] >>= _) _ _
                  rw [HX3.out]
                  exact ⟨rfl, HFN.out⟩
    · go_wp2_with fail
      refine (HF.out _ HM.out).mono ?_; rintro e w2 ⟨rfl, hb2⟩
      have HB2 := Lib.hid hb2
      have HKB : Hid (kindAt C.L i aggW 0 = none) := Lib.hid (by
        rw [← HKA.out, show k = 7 by have := HQ.out; omega]; rfl)
      clear hb2
      go_wp2_with fail
      rw [← HRN.out]
      unfold colT
      rw [HKB.out]
      exact ⟨rfl, rfl, HB2.out⟩
end Go.Proofs.Ytaofjnidniekjaa
