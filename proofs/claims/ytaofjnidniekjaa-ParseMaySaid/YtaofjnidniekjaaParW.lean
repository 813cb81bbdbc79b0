/- What the reader of package parse goes past: a condition. Conditions: those stated. -/
import Derived.Test.YtaofjnidniekjaaParV
namespace Go.Proofs.Ytaofjnidniekjaa
open Go.RowKit

/-- a call's answer: a condition, its codes in a row of the call's own -/
def RFlt (C : RC) (i : Nat) (w : World) (r : Except (Nat × Nat) (Nat × (Int × List Int))) (e : Ending) (w' : World) : Prop :=
  match r with
  | .ok x => ∃ a c, e = .returned (.agg #[.int .i64 x.2.1, .slice a x.2.2.length c]) ∧ w'.ownsRow w.heap.size 3 1 (.slice a x.2.2.length c) x.2.2.length (x.2.2.map (Value.int .i64)) ∧ Mv C i x.1 w w' ∧ I64 x.2.1 ∧ ∀ y ∈ x.2.2, I64 y
  | .error f => Fails C f e w'
theorem name_i64 {names : List ByteArray} {L : List Tok} {i j d : Nat} (hn : names.length ≤ 1000) (h : nameS names L i = .ok (j, d)) : d < names.length ∧ I64 (d : Int) := by
  unfold nameS at h
  split at h
  · split at h
    · cases h
    · rename_i hp; cases h
      have := place_lt (place_mem.1 (Int.not_lt.1 hp))
      exact ⟨by omega, i64_small (by omega) (by omega)⟩
  · cases h
theorem own_drop {w : World} {B sz n : Nat} {e : TypeId} {v : Value} {cs : List Value} (h : w.ownsRow B e sz v n cs) {p : Addr} (hp : ∀ g, v.ownBlock = some g → g ≠ p.block) (u : Value) : (w.setCell p u).ownsRow B e sz v n cs := by
  obtain ⟨h1, h2⟩ := h
  refine ⟨h1, ?_⟩
  rcases h2 with h2 | ⟨g, cap, cur, hv, hg, hh, r⟩
  · exact .inl h2
  · refine .inr ⟨g, cap, cur, hv, hg, ?_, r⟩
    rw [Below.heap_setCell _ _ _ _ (hp g (by rw [hv]; rfl))]; exact hh

theorem cond_reads (C : RC) (hC : C.Ok) (w0 : World) (i0 bx fb rb : Nat) (d : Int) (hrf : rb ≠ fb) (hrR : C.R < rb) (hR0 : RAt C i0 w0) (hR : C.R < w0.heap.size) (hbx : C.R < bx) (hfb : C.R < fb) : Reads C (CI C w0 i0 bx fb rb d) (numOne C.L) 73 (#[] ++ #[.pointer (some ⟨fb, 0, none⟩), .pointer (some ⟨bx, 0, none⟩)]) where
  at' := fun i x w h => hR0.mv h.2.1
  mv := fun i j x w w' hij h hm => h.mv hR hbx hfb hrR hij hm
  read := fun i x w hi h => by
    simpa using ccode_any C hC w0 i0 bx fb rb d hrf hrR hR0 i x w hi h
  goes := numOne_goes C.L
  call := fun w => by kernel_rfl
  next := fun i x y hi h => by
    unfold numOne at h
    obtain ⟨a, h1, h2⟩ := bind_ok h
    have := num_next hC.good h1
    cases h2
    exact this
theorem list_next {σ : Type} {C : RC} {I : Nat → σ → World → Prop} {one : Nat → σ → Except (Nat × Nat) (Nat × σ)} {F : FuncId} {args : Array Value} (H : Reads C I one F args) (b : List UInt8) : ∀ (f i : Nat) (x : σ) (y : Nat × σ), i < C.L.length → listS one C.L b f i x = .ok y → y.1 < C.L.length
  | 0, _, _, _, _, h => by cases h
  | f + 1, i, x, y, hi, h => by
    obtain ⟨a, h1, h2⟩ := bind_ok (x := one i x) (f := fun a => if wordAt C.L a.1 b = true then listS one C.L b f (a.1 + 1) a.2 else pure (a.1, a.2)) h
    have h3 := H.next i x a hi h1
    split at h2
    · rename_i h4
      rcases Nat.lt_or_ge (a.1 + 1) C.L.length with h5 | h5
      · exact list_next H b f _ _ _ h5 h2
      · exfalso
        cases f with
        | zero => cases h2
        | succ f =>
          obtain ⟨c, h6, -⟩ := bind_ok (x := one (a.1 + 1) a.2) (f := fun a => if wordAt C.L a.1 b = true then listS one C.L b f (a.1 + 1) a.2 else pure (a.1, a.2)) h2
          have := H.goes _ _ _ h6
          omega
    · cases h2; exact h3

set_option maxRecDepth 100000 in
set_option maxHeartbeats 2000000 in
theorem pcond_any (C : RC) (hC : C.Ok) (i : Nat) (hi : i < C.L.length) (w : World) (hR : RAt C i w) :
    Calls Try.prog 57 #[.pointer (some ⟨C.R, 0, none⟩)] w (RFlt C i w (condT (dimN C.s) C.L i)) := by
  have hmf : ∀ (fn : Fn) (first cap : Array Value) (w : World), (Instr.makeFunc fn first cap).run Try.prog w = .ok (.func fn first cap) w := fun _ _ _ _ => rfl
  have HC := Lib.hid hC
  have HI := Lib.hid hi
  have HR := Lib.hid hR
  have HE : Hid (∀ (j : Nat) (u : ByteArray) (t : List UInt8) (v : Bool), u.data.toList = t → wordAt C.L j t = v → ∀ w1, j < C.L.length → RAt C j w1 → Calls Try.prog 54 #[.pointer (some ⟨C.R, 0, none⟩), .string u] w1 fun e w' => e = .returned (.bool v) ∧ Mv C j (if v then j + 1 else j) w1 w') := Lib.hid (fun j u t v ht hb w1 hj hm => eat_any C hC j hj u v (by rw [ht]; exact hb) w1 hm)
  have HW : Hid (∀ (j : Nat) (u : ByteArray) (t : List UInt8) (w1 : World), u.data.toList = t → j < C.L.length → Mv C i j w w1 → Calls Try.prog 50 #[.pointer (some ⟨C.R, 0, none⟩), .string u] w1 (RUnit C j w1 (wantS C.L j t))) := Lib.hid (fun j u t w1 ht hj hm => by rw [← ht]; exact want_any C hC j hj u w1 (hR.mv hm))
  have HD : Hid (∀ (w1 : World), Mv C i i w w1 → Calls Try.prog 72 #[.pointer (some ⟨C.R, 0, none⟩)] w1 (RPlc C i w1 (nameS (dimN C.s) C.L i))) := Lib.hid (fun w1 hm => pdim_any C hC i hi w1 (hR.mv hm))
  have HNU : Hid (∀ (j : Nat) (w1 : World), j < C.L.length → Mv C i j w w1 → Calls Try.prog 59 #[.pointer (some ⟨C.R, 0, none⟩)] w1 (RNum C j w1 (numT C.L j))) := Lib.hid (fun j w1 hj hm => pnumber_any C hC j hj w1 (hR.mv hm))
  obtain ⟨r, hr⟩ : ∃ r, RFlt C i w (condT (dimN C.s) C.L i) = r := ⟨_, rfl⟩
  rw [hr]
  have HRN := Lib.hid hr
  have HLT := Lib.hid hR.lt
  clear hr hR hC hi
  obtain ⟨R, hRR⟩ : ∃ r, C.R = r := ⟨_, rfl⟩
  have HRR := Lib.hid hRR
  rw [hRR] at HE HW HD HNU ⊢
  clear hRR
  go_enter Try.func57, Try.ntmps57
  go_wp2_with fail
  have hm0 : Mv C i i w ((w.alloc (.cells #[.pointer (some ⟨R, 0, none⟩)] 76)).alloc (.cells #[.int .i64 0, .slice none 0 0] 69)) := ((Mv.of_below (Below.refl _ _)).alloc _).alloc _
  have hk0 := (Blk.new w 76 #[.pointer (some ⟨R, 0, none⟩)]).alloc (.cells #[.int .i64 0, .slice none 0 0] 69)
  have hk1 := Blk.new (w.alloc (.cells #[.pointer (some ⟨R, 0, none⟩)] 76)) 69 #[.int .i64 0, .slice none 0 0]
  rw [World.size_alloc] at hk1
  have HM0 := Lib.hid hm0
  have HK0 := Lib.hid hk0
  have HK1 := Lib.hid hk1
  clear hm0 hk0 hk1
  generalize ((w.alloc (.cells #[.pointer (some ⟨R, 0, none⟩)] 76)).alloc (.cells #[.int .i64 0, .slice none 0 0] 69)) = w0 at *
  generalize hS : w.heap.size = S at *
  have HSS := Lib.hid hS
  have HLW : Hid (C.R < w.heap.size) := Lib.hid (by rw [hS]; exact HLT.out)
  clear hS
  have HCT : Hid (condT (dimN C.s) C.L i = nameS (dimN C.s) C.L i >>= fun d => if wordAt C.L d.1 [61] then numT C.L (d.1 + 1) >>= fun n => pure (n.1, ((d.2 : Int), [n.2])) else wantS C.L d.1 [105, 110] >>= fun a => wantS C.L a [40] >>= fun b => if wordAt C.L b [41] then pure (b + 1, ((d.2 : Int), [])) else listS (numOne C.L) C.L [44] C.L.length b [] >>= fun l => wantS C.L l.1 [41] >>= fun c => pure (c, ((d.2 : Int), l.2))) := Lib.hid rfl
  have HDD := Lib.hid (HD.out _ HM0.out)
  rcases hx1 : nameS (dimN C.s) C.L i with f1 | ⟨j, d⟩
  · rw [hx1] at HDD
    have HCX : Hid (condT (dimN C.s) C.L i = .error f1) := Lib.hid (by rw [HCT.out, hx1]; rfl)
    clear hx1
    refine HDD.out.mono ?_; rintro e wz ⟨rfl, hbz⟩
    have HBZ := Lib.hid hbz
    clear hbz
    go_wp2_with fail
    rw [← HRN.out, HCX.out]
    exact ⟨rfl, rfl, HBZ.out⟩
  · rw [hx1] at HDD
    have HC1 : Hid (condT (dimN C.s) C.L i = if wordAt C.L j [61] = true then (numT C.L (j + 1) >>= fun n => pure (n.1, ((d : Int), [n.2]))) else (wantS C.L j [105, 110] >>= fun a => wantS C.L a [40] >>= fun b => if wordAt C.L b [41] then pure (b + 1, ((d : Int), [])) else listS (numOne C.L) C.L [44] C.L.length b [] >>= fun l => wantS C.L l.1 [41] >>= fun c => pure (c, ((d : Int), l.2)))) := Lib.hid (by rw [HCT.out, hx1]; rfl)
    have HDI := Lib.hid (name_i64 (by have := (chk_dims HC.out.chk).1; unfold dimN; rw [List.length_map]; omega) hx1).2
    have HJL : Hid (j < C.L.length) := Lib.hid (name_next HC.out.good hx1)
    have HJ0 : Hid (j = i + 1) := Lib.hid (name_ok hx1).1
    clear hx1
    refine HDD.out.mono ?_; rintro e w2 ⟨rfl, hm2⟩
    have HM2 := Lib.hid ((HM0.out.trans hm2).alloc (.cells #[.int .i64 (d : Int), .slice none 0 0] 69))
    have HB2 := Lib.hid ((hm2.kp.blk HK0.out (by have := HLT.out; omega)).alloc (.cells #[.int .i64 (d : Int), .slice none 0 0] 69))
    have HS2 := Lib.hid ((hm2.kp.blk HK1.out (by have := HLT.out; omega)).alloc (.cells #[.int .i64 (d : Int), .slice none 0 0] 69))
    have HF2 := Lib.hid (Blk.new w2 69 #[.int .i64 (d : Int), .slice none 0 0])
    have HFB : Hid (S + 1 < w2.heap.size) := Lib.hid (hm2.kp.blk HK1.out (by have := HLT.out; omega)).lt
    have b0 : w2.cell? ⟨S, 0, none⟩ = some (.pointer (some ⟨R, 0, none⟩)) := (hm2.kp.blk HK0.out (by have := HLT.out; omega)).cell 0
    have hSlt : S < w2.heap.size := by have := HFB.out; omega
    dsimp only at HM2 ⊢
    clear hm2 HDD HK0 HK1 HM0
    go_wp2_with fail
    generalize w2.alloc (.cells #[.int .i64 (d : Int), .slice none 0 0] 69) = w3 at *
    generalize hfb : w2.heap.size = fb at *
    clear hfb b0
    obtain ⟨v, hv⟩ : ∃ v, wordAt C.L j [61] = v := ⟨_, rfl⟩
    have HEE := Lib.hid (HE.out j ⟨#[61]⟩ _ v rfl hv w3 HJL.out (HR.out.mv HM2.out))
    rw [hv] at HC1
    have HV := Lib.hid hv
    clear hv
    refine HEE.out.mono ?_; rintro e w4 ⟨rfl, hm4⟩
    have HB4 := Lib.hid (hm4.kp.blk HB2.out (by have := HLT.out; omega))
    have HS4 := Lib.hid (hm4.kp.blk HS2.out (by have := HLT.out; omega))
    have HF4 := Lib.hid (hm4.kp.blk HF2.out (by have := HLT.out; have := HFB.out; omega))
    have HM4 := Lib.hid (HM2.out.trans hm4)
    have b0 : w4.cell? ⟨S, 0, none⟩ = some (.pointer (some ⟨R, 0, none⟩)) := HB4.out.cell 0
    clear hm4 HEE HM2 HB2 HS2 HF2
    rcases v with _ | _
    · rw [if_neg (by decide)] at HC1
      have HM4 : Hid (Mv C i j w w4) := HM4
      go_wp2_with fail
      have HWC := Lib.hid (HW.out j ⟨#[105, 110]⟩ [105, 110] _ rfl HJL.out HM4.out)
      rcases hx2 : wantS C.L j [105, 110] with f2 | j1
      · rw [hx2] at HWC
        have HCX : Hid (condT (dimN C.s) C.L i = .error f2) := Lib.hid (by rw [HC1.out, hx2]; rfl)
        clear hx2
        refine HWC.out.mono ?_; rintro e wz ⟨rfl, hbz⟩
        have HBZ := Lib.hid hbz
        clear hbz
        go_wp2_with fail
        rw [← HRN.out, HCX.out]
        exact ⟨rfl, rfl, HBZ.out⟩
      · rw [hx2] at HWC
        have HC2 : Hid (condT (dimN C.s) C.L i = wantS C.L j1 [40] >>= fun b => if wordAt C.L b [41] then pure (b + 1, ((d : Int), [])) else listS (numOne C.L) C.L [44] C.L.length b [] >>= fun l => wantS C.L l.1 [41] >>= fun c => pure (c, ((d : Int), l.2))) := Lib.hid (by rw [HC1.out, hx2]; rfl)
        have HJ1 := Lib.hid (want_next HC.out.good hx2)
        have HJ11 := Lib.hid (want_ok hx2).1
        clear hx2
        refine HWC.out.mono ?_; rintro e w5 ⟨rfl, hm5⟩
        have HM5 := Lib.hid (HM4.out.trans hm5)
        have HB5 := Lib.hid (hm5.kp.blk HB4.out (by have := HLT.out; omega))
        have HS5 := Lib.hid (hm5.kp.blk HS4.out (by have := HLT.out; omega))
        have HF5 := Lib.hid (hm5.kp.blk HF4.out (by have := HLT.out; have := HFB.out; omega))
        clear b0 hm5 HWC
        have b0 : w5.cell? ⟨S, 0, none⟩ = some (.pointer (some ⟨R, 0, none⟩)) := HB5.out.cell 0
        go_wp2_with fail
        have HWC := Lib.hid (HW.out j1 ⟨#[40]⟩ [40] _ rfl HJ1.out HM5.out)
        rcases hx3 : wantS C.L j1 [40] with f3 | j2
        · rw [hx3] at HWC
          have HCX : Hid (condT (dimN C.s) C.L i = .error f3) := Lib.hid (by rw [HC2.out, hx3]; rfl)
          clear hx3
          refine HWC.out.mono ?_; rintro e wz ⟨rfl, hbz⟩
          have HBZ := Lib.hid hbz
          clear hbz
          go_wp2_with fail
          rw [← HRN.out, HCX.out]
          exact ⟨rfl, rfl, HBZ.out⟩
        · rw [hx3] at HWC
          have HC3 : Hid (condT (dimN C.s) C.L i = if wordAt C.L j2 [41] = true then pure (j2 + 1, ((d : Int), [])) else (listS (numOne C.L) C.L [44] C.L.length j2 [] >>= fun l => wantS C.L l.1 [41] >>= fun c => pure (c, ((d : Int), l.2)))) := Lib.hid (by rw [HC2.out, hx3]; rfl)
          have HJ2 := Lib.hid (want_next HC.out.good hx3)
          have HJ22 : Hid (0 < j2 ∧ i ≤ j2) := Lib.hid (by have := (want_ok hx3).1; have := HJ11.out; have := HJ0.out; omega)
          clear hx3
          refine HWC.out.mono ?_; rintro e w6 ⟨rfl, hm6⟩
          have HM6 := Lib.hid (HM5.out.trans hm6)
          have HB6 := Lib.hid (hm6.kp.blk HB5.out (by have := HLT.out; omega))
          have HS6 := Lib.hid (hm6.kp.blk HS5.out (by have := HLT.out; omega))
          have HF6 := Lib.hid (hm6.kp.blk HF5.out (by have := HLT.out; have := HFB.out; omega))
          clear b0 hm6 HWC
          have b0 : w6.cell? ⟨S, 0, none⟩ = some (.pointer (some ⟨R, 0, none⟩)) := HB6.out.cell 0
          go_wp2_with fail
          obtain ⟨v, hv⟩ : ∃ v, wordAt C.L j2 [41] = v := ⟨_, rfl⟩
          have HEE := Lib.hid (HE.out j2 ⟨#[41]⟩ _ v rfl hv w6 HJ2.out (HR.out.mv HM6.out))
          rw [hv] at HC3
          clear hv
          refine HEE.out.mono ?_; rintro e w7 ⟨rfl, hm7⟩
          have HM7 := Lib.hid (HM6.out.trans hm7)
          have HB7 := Lib.hid (hm7.kp.blk HB6.out (by have := HLT.out; omega))
          have HRS := Lib.hid (hm7.kp.blk HS6.out (by have := HLT.out; omega))
          have HFS := Lib.hid (hm7.kp.blk HF6.out (by have := HLT.out; have := HFB.out; omega))
          clear b0 hm7 HEE
          rcases v with _ | _
          · rw [if_neg (by decide)] at HC3
            have HM7 : Hid (Mv C i j2 w w7) := HM7
            have b0 : w7.cell? ⟨S, 0, none⟩ = some (.pointer (some ⟨R, 0, none⟩)) := HB7.out.cell 0
            have HLIST := Lib.hid (plist_any C HC.out (cond_reads C HC.out w i S fb (S + 1) (d : Int) (by have := HFB.out; omega) (by have := HLT.out; omega) HR.out (by rw [HSS.out]; exact HLT.out) (by have := HLT.out; omega) (by have := HLT.out; have := HFB.out; omega)) ⟨#[44]⟩ [44] rfl j2 HJ2.out HJ22.out.1 ([] : List Int) w7 ⟨HJ22.out.2, HM7.out, by rw [HRR.out]; exact HB7.out, ⟨.slice none 0 0, HFS.out, World.ownsRow_nil _ _ _ _⟩, Nat.zero_le _, (fun _ h => nomatch h), by rw [HSS.out]; have := HFB.out; omega, HRS.out⟩)
            rw [HRR.out] at HLIST
            go_wp2_with fail
            rcases hx4 : listS (numOne C.L) C.L [44] C.L.length j2 [] with f4 | ⟨j3, l⟩
            · rw [hx4] at HLIST
              have HCX : Hid (condT (dimN C.s) C.L i = .error f4) := Lib.hid (by rw [HC3.out, hx4]; rfl)
              clear hx4
              refine HLIST.out.mono ?_; rintro e wz ⟨rfl, hbz⟩
              have HBZ := Lib.hid hbz
              clear hbz
              go_wp2_with fail
              rw [← HRN.out, HCX.out]
              exact ⟨rfl, rfl, HBZ.out⟩
            · rw [hx4] at HLIST
              have HC4 : Hid (condT (dimN C.s) C.L i = wantS C.L j3 [41] >>= fun c => pure (c, ((d : Int), l))) := Lib.hid (by rw [HC3.out, hx4]; rfl)
              have HJ3 := Lib.hid (list_next (cond_reads C HC.out w i S fb (S + 1) (d : Int) (by have := HFB.out; omega) (by have := HLT.out; omega) HR.out (by rw [HSS.out]; exact HLT.out) (by have := HLT.out; omega) (by have := HLT.out; have := HFB.out; omega)) [44] _ _ _ _ HJ2.out hx4)
              clear hx4
              refine HLIST.out.mono ?_; rintro e w8 ⟨rfl, -, hm8, hb8, ⟨vv, hf8, ho8⟩, -, ha8, -, hr8⟩
              have HM8 := Lib.hid hm8
              have HB8 : Hid (Blk w8 S 76 #[.pointer (some ⟨R, 0, none⟩)]) := Lib.hid (by rw [← HRR.out]; exact hb8)
              have HF8 := Lib.hid hf8
              have HO8 : Hid (w8.ownsRow w.heap.size 3 1 vv l.length (l.map (Value.int .i64))) := Lib.hid ho8
              have HA8 := Lib.hid ha8
              have HS8 : Hid (Blk w8 (S + 1) 69 #[.int .i64 0, .slice none 0 0]) := Lib.hid hr8
              have b1 : w8.cell? ⟨S, 0, none⟩ = some (.pointer (some ⟨R, 0, none⟩)) := HB8.out.cell 0
              clear b0 hm8 hb8 hf8 ho8 ha8 hr8 HLIST
              go_wp2_with fail
              have HWC := Lib.hid (HW.out j3 ⟨#[41]⟩ [41] _ rfl HJ3.out HM8.out)
              rcases hx5 : wantS C.L j3 [41] with f5 | j4
              · rw [hx5] at HWC
                have HCX : Hid (condT (dimN C.s) C.L i = .error f5) := Lib.hid (by rw [HC4.out, hx5]; rfl)
                clear hx5
                refine HWC.out.mono ?_; rintro e wz ⟨rfl, hbz⟩
                have HBZ := Lib.hid hbz
                clear hbz
                go_wp2_with fail
                rw [← HRN.out, HCX.out]
                exact ⟨rfl, rfl, HBZ.out⟩
              · rw [hx5] at HWC
                have HCX : Hid (condT (dimN C.s) C.L i = .ok (j4, ((d : Int), l))) := Lib.hid (by rw [HC4.out, hx5]; rfl)
                clear hx5
                refine HWC.out.mono ?_; rintro e w9 ⟨rfl, hm9⟩
                have HMS := Lib.hid (HM8.out.trans hm9)
                have HRS := Lib.hid (hm9.kp.blk HS8.out (by have := HLT.out; omega))
                have HFS := Lib.hid (hm9.kp.blk HF8.out (by have := HLT.out; have := HFB.out; omega))
                have HOS0 := Lib.hid (own_kp hm9.kp HO8.out HLW.out)
                obtain ⟨a3, c3, rfl⟩ := own_form HOS0.out
                have HOS := HOS0
                clear b1 hm9 HWC
                have x0 : w9.cell? ⟨fb, 0, none⟩ = some (.int .i64 (d : Int)) := HFS.out.cell 0
                have x1 : w9.cell? ⟨fb, 1, none⟩ = some (.slice a3 l.length c3) := HFS.out.cell 1
                have y0 : w9.cell? ⟨S + 1, 0, none⟩ = some (.int .i64 0) := HRS.out.cell 0
                have y1 : w9.cell? ⟨S + 1, 1, none⟩ = some (.slice none 0 0) := HRS.out.cell 1
                have f0 : w9.frozen? ⟨S + 1, 0, none⟩ = false := HRS.out.frozen 0
                have f1 : w9.frozen? ⟨S + 1, 1, none⟩ = false := HRS.out.frozen 1
                go_wp2_with fail
                have HRF := Lib.hid ((HRS.out.set_ 0 (.int .i64 (d : Int))).set_ 1 (.slice a3 l.length c3))
                have HMF : Hid (Mv C i j4 w ((w9.setCell ⟨S + 1, 0, none⟩ (.int .i64 (d : Int))).setCell ⟨S + 1, 1, none⟩ (.slice a3 l.length c3))) := Lib.hid ((HMS.out.far (by have := HSS.out; show w.heap.size ≤ S + 1; omega) HLW.out _).far (by have := HSS.out; show w.heap.size ≤ S + 1; omega) HLW.out _)
                have HOF := Lib.hid (own_setb (own_setb HOS.out HRS.out (by decide) 0 (.int .i64 (d : Int))) (HRS.out.set_ 0 _) (by decide) 1 (.slice a3 l.length c3))
                refine bodyPost_ret (v := .agg #[.int .i64 (d : Int), .slice a3 l.length c3]) ?_ rfl ?_
                · have z0 : ((w9.setCell ⟨S + 1, 0, none⟩ (.int .i64 (d : Int))).setCell ⟨S + 1, 1, none⟩ (.slice a3 l.length c3)).cell? ⟨S + 1, 0, none⟩ = some (.int .i64 (d : Int)) := HRF.out.cell 0
                  have z1 : ((w9.setCell ⟨S + 1, 0, none⟩ (.int .i64 (d : Int))).setCell ⟨S + 1, 1, none⟩ (.slice a3 l.length c3)).cell? ⟨S + 1, 1, none⟩ = some (.slice a3 l.length c3) := HRF.out.cell 1
                  simp [results, Try.results57, go_sem, z0, z1]
                · rw [← HRN.out, HCX.out]
                  exact ⟨a3, c3, rfl, HOF.out, HMF.out, HDI.out, HA8.out⟩
          · rw [if_pos rfl] at HC3
            have HMS : Hid (Mv C i (j2 + 1) w w7) := HM7
            have HCX : Hid (condT (dimN C.s) C.L i = .ok (j2 + 1, ((d : Int), []))) := Lib.hid (by rw [HC3.out]; rfl)
            have HOS : Hid (w7.ownsRow w.heap.size 3 1 (.slice none 0 0) 0 []) := Lib.hid (World.ownsRow_nil _ _ _ _)
            have x0 : w7.cell? ⟨fb, 0, none⟩ = some (.int .i64 (d : Int)) := HFS.out.cell 0
            have x1 : w7.cell? ⟨fb, 1, none⟩ = some (.slice none 0 0) := HFS.out.cell 1
            have y0 : w7.cell? ⟨S + 1, 0, none⟩ = some (.int .i64 0) := HRS.out.cell 0
            have y1 : w7.cell? ⟨S + 1, 1, none⟩ = some (.slice none 0 0) := HRS.out.cell 1
            have f0 : w7.frozen? ⟨S + 1, 0, none⟩ = false := HRS.out.frozen 0
            have f1 : w7.frozen? ⟨S + 1, 1, none⟩ = false := HRS.out.frozen 1
            go_wp2_with fail
            have HRF := Lib.hid ((HRS.out.set_ 0 (.int .i64 (d : Int))).set_ 1 (.slice none 0 0))
            have HMF : Hid (Mv C i (j2 + 1) w ((w7.setCell ⟨S + 1, 0, none⟩ (.int .i64 (d : Int))).setCell ⟨S + 1, 1, none⟩ (.slice none 0 0))) := Lib.hid ((HMS.out.far (by have := HSS.out; show w.heap.size ≤ S + 1; omega) HLW.out _).far (by have := HSS.out; show w.heap.size ≤ S + 1; omega) HLW.out _)
            have HOF := Lib.hid (own_setb (own_setb HOS.out HRS.out (by decide) 0 (.int .i64 (d : Int))) (HRS.out.set_ 0 _) (by decide) 1 (.slice none 0 0))
            refine bodyPost_ret (v := .agg #[.int .i64 (d : Int), .slice none 0 0]) ?_ rfl ?_
            · have z0 : ((w7.setCell ⟨S + 1, 0, none⟩ (.int .i64 (d : Int))).setCell ⟨S + 1, 1, none⟩ (.slice none 0 0)).cell? ⟨S + 1, 0, none⟩ = some (.int .i64 (d : Int)) := HRF.out.cell 0
              have z1 : ((w7.setCell ⟨S + 1, 0, none⟩ (.int .i64 (d : Int))).setCell ⟨S + 1, 1, none⟩ (.slice none 0 0)).cell? ⟨S + 1, 1, none⟩ = some (.slice none 0 0) := HRF.out.cell 1
              simp [results, Try.results57, go_sem, z0, z1]
            · rw [← HRN.out, HCX.out]
              exact ⟨none, 0, rfl, HOF.out, HMF.out, HDI.out, (fun _ h => nomatch h)⟩
    · rw [if_pos rfl] at HC1
      have HM4 : Hid (Mv C i (j + 1) w w4) := HM4
      have HJ1 := Lib.hid (word_next HC.out.good HV.out)
      go_wp2_with fail
      have HNN := Lib.hid (HNU.out (j + 1) _ HJ1.out HM4.out)
      rcases hx2 : numT C.L (j + 1) with f2 | ⟨j2, n⟩
      · rw [hx2] at HNN
        have HCX : Hid (condT (dimN C.s) C.L i = .error f2) := Lib.hid (by rw [HC1.out, hx2]; rfl)
        clear hx2
        refine HNN.out.mono ?_; rintro e wz ⟨rfl, hbz⟩
        have HBZ := Lib.hid hbz
        clear hbz
        go_wp2_with fail
        rw [← HRN.out, HCX.out]
        exact ⟨rfl, rfl, HBZ.out⟩
      · rw [hx2] at HNN
        have HCX : Hid (condT (dimN C.s) C.L i = .ok (j2, ((d : Int), [n]))) := Lib.hid (by rw [HC1.out, hx2]; rfl)
        have HNI := Lib.hid (numT_i64 HC.out.good HJ1.out hx2)
        clear hx2
        refine HNN.out.mono ?_; rintro e w5 ⟨rfl, hm5⟩
        dsimp only
        have hfl : Blk w5 fb 69 #[.int .i64 (d : Int), .slice none 0 0] := hm5.kp.blk HF4.out (by have := HLT.out; have := HFB.out; omega)
        have hsl : Blk w5 (S + 1) 69 #[.int .i64 0, .slice none 0 0] := hm5.kp.blk HS4.out (by have := HLT.out; omega)
        have HMS := Lib.hid (((HM4.out.trans hm5).far (p := ⟨fb, 1, none⟩) (by have := HSS.out; have := HFB.out; show w.heap.size ≤ fb; omega) HLW.out (.slice (some ⟨w5.heap.size, 0, none⟩) 1 1)).alloc (.cells #[.int .i64 n] 3))
        have HRS := Lib.hid ((hsl.far (p := ⟨fb, 1, none⟩) (by have := HFB.out; show S + 1 ≠ fb; omega) (.slice (some ⟨w5.heap.size, 0, none⟩) 1 1)).alloc (.cells #[.int .i64 n] 3))
        have HFS := Lib.hid ((hfl.set_ 1 (.slice (some ⟨w5.heap.size, 0, none⟩) 1 1)).alloc (.cells #[.int .i64 n] 3))
        have hos := own_one (w5.setCell ⟨fb, 1, none⟩ (.slice (some ⟨w5.heap.size, 0, none⟩) 1 1)) w.heap.size 3 (.int .i64 n) (by rw [World.size_setCell]; exact (HM4.out.trans hm5).kp.size)
        rw [World.size_setCell] at hos
        have HOS := Lib.hid hos
        have hflt : fb < w5.heap.size := hfl.lt
        have x1 : w5.cell? ⟨fb, 1, none⟩ = some (.slice none 0 0) := hfl.cell 1
        have f1 : w5.frozen? ⟨fb, 1, none⟩ = false := hfl.frozen 1
        clear hm5 HNN b0 hfl hsl hos
        go_upto_region 4 with fail
        clear x1 f1 hflt
        generalize (w5.setCell ⟨fb, 1, none⟩ (.slice (some ⟨w5.heap.size, 0, none⟩) 1 1)).alloc (.cells #[.int .i64 n] 3) = w6 at *
        generalize w5.heap.size = H5 at *
        have x0 : w6.cell? ⟨fb, 0, none⟩ = some (.int .i64 (d : Int)) := HFS.out.cell 0
        have x1 : w6.cell? ⟨fb, 1, none⟩ = some (.slice (some ⟨H5, 0, none⟩) 1 1) := HFS.out.cell 1
        have y0 : w6.cell? ⟨S + 1, 0, none⟩ = some (.int .i64 0) := HRS.out.cell 0
        have y1 : w6.cell? ⟨S + 1, 1, none⟩ = some (.slice none 0 0) := HRS.out.cell 1
        have f0 : w6.frozen? ⟨S + 1, 0, none⟩ = false := HRS.out.frozen 0
        have f1 : w6.frozen? ⟨S + 1, 1, none⟩ = false := HRS.out.frozen 1
        go_wp2_with fail
        have HRF := Lib.hid ((HRS.out.set_ 0 (.int .i64 (d : Int))).set_ 1 (.slice (some ⟨H5, 0, none⟩) 1 1))
        have HMF : Hid (Mv C i j2 w ((w6.setCell ⟨S + 1, 0, none⟩ (.int .i64 (d : Int))).setCell ⟨S + 1, 1, none⟩ (.slice (some ⟨H5, 0, none⟩) 1 1))) := Lib.hid ((HMS.out.far (by have := HSS.out; show w.heap.size ≤ S + 1; omega) HLW.out _).far (by have := HSS.out; show w.heap.size ≤ S + 1; omega) HLW.out _)
        have HOF := Lib.hid (own_setb (own_setb HOS.out HRS.out (by decide) 0 (.int .i64 (d : Int))) (HRS.out.set_ 0 _) (by decide) 1 (.slice (some ⟨H5, 0, none⟩) 1 1))
        refine bodyPost_ret (v := .agg #[.int .i64 (d : Int), .slice (some ⟨H5, 0, none⟩) 1 1]) ?_ rfl ?_
        · have z0 : ((w6.setCell ⟨S + 1, 0, none⟩ (.int .i64 (d : Int))).setCell ⟨S + 1, 1, none⟩ (.slice (some ⟨H5, 0, none⟩) 1 1)).cell? ⟨S + 1, 0, none⟩ = some (.int .i64 (d : Int)) := HRF.out.cell 0
          have z1 : ((w6.setCell ⟨S + 1, 0, none⟩ (.int .i64 (d : Int))).setCell ⟨S + 1, 1, none⟩ (.slice (some ⟨H5, 0, none⟩) 1 1)).cell? ⟨S + 1, 1, none⟩ = some (.slice (some ⟨H5, 0, none⟩) 1 1) := HRF.out.cell 1
          simp [results, Try.results57, go_sem, z0, z1]
        · rw [← HRN.out, HCX.out]
          exact ⟨some ⟨H5, 0, none⟩, 1, rfl, HOF.out, HMF.out, HDI.out, (fun y hy => by rw [List.mem_singleton.1 hy]; exact HNI.out.2)⟩
end Go.Proofs.Ytaofjnidniekjaa
