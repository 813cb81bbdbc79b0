/- The lists that the reader of package parse goes past: things with a word or a sign between. Conditions: those stated. -/
import Derived.Test.YtaofjnidniekjaaParR
import Derived.Recover
namespace Go.Proofs.Ytaofjnidniekjaa
open Go.RowKit

/-- a call's answer: nothing, the reading further on; or the fault -/
def RList {σ : Type} (C : RC) (I : Nat → σ → World → Prop) (r : Except (Nat × Nat) (Nat × σ)) (e : Ending) (w' : World) : Prop :=
  match r with
  | .ok x => e = .returned (.tuple #[]) ∧ I x.1 x.2 w'
  | .error f => Fails C f e w'
/-- a reading that is carried on by a list -/
structure Reads {σ : Type} (C : RC) (I : Nat → σ → World → Prop) (one : Nat → σ → Except (Nat × Nat) (Nat × σ)) (F : FuncId) (args : Array Value) : Prop where
  at' : ∀ i x w, I i x w → RAt C i w
  mv : ∀ i j x w w', i ≤ j → I i x w → Mv C i j w w' → I j x w'
  read : ∀ i x w, i < C.L.length → I i x w → Calls Try.prog F args w (RList C I (one i x))
  goes : Goes C.L one
  call : ∀ w, (callFunc F args).run Try.prog w = .ok (.enter F args) w
  next : ∀ i x y, i < C.L.length → one i x = .ok y → y.1 < C.L.length

theorem list_step {σ : Type} {L : List Tok} {one : Nat → σ → Except (Nat × Nat) (Nat × σ)} (hg : Goes L one) (b : List UInt8) (i : Nat) (x : σ) :
    listS one L b (L.length + 1) i x = (one i x >>= fun y => if wordAt L y.1 b = true then listS one L b (L.length + 1) (y.1 + 1) y.2 else pure (y.1, y.2)) := by
  show (one i x >>= fun y => if wordAt L y.1 b = true then listS one L b L.length (y.1 + 1) y.2 else pure (y.1, y.2)) = _
  rcases hx : one i x with e | y
  · rfl
  · show (if wordAt L y.1 b = true then listS one L b L.length (y.1 + 1) y.2 else pure (y.1, y.2)) = (if wordAt L y.1 b = true then listS one L b (L.length + 1) (y.1 + 1) y.2 else pure (y.1, y.2))
    obtain ⟨h1, h2⟩ := hg i x y hx
    rw [list_fuel hg b L.length (L.length + 1) (y.1 + 1) y.2 (by omega) (by omega) (by omega) (by omega)]

set_option maxRecDepth 100000 in
theorem plist_any {σ : Type} (C : RC) (hC : C.Ok) {I : Nat → σ → World → Prop} {one : Nat → σ → Except (Nat × Nat) (Nat × σ)} {F : FuncId} {first cap : Array Value} (H : Reads C I one F (first ++ cap)) (u : ByteArray) (b : List UInt8) (hu : u.data.toList = b)
    (i : Nat) (hi : i < C.L.length) (hi0 : 0 < i) (x : σ) (w : World) (hI : I i x w) :
    Calls Try.prog 51 #[.pointer (some ⟨C.R, 0, none⟩), .string u, .func (.func F) first cap] w (RList C I (listS one C.L b C.L.length i x)) := by
  have HG := Lib.hid hC.good
  have HH := Lib.hid H
  have HE : Hid (∀ (j : Nat) (v : Bool), wordAt C.L j b = v → ∀ w1, j < C.L.length → RAt C j w1 → Calls Try.prog 54 #[.pointer (some ⟨C.R, 0, none⟩), .string u] w1 fun e w' => e = .returned (.bool v) ∧ Mv C j (if v then j + 1 else j) w1 w') := Lib.hid (fun j v hb w1 hj hm => eat_any C hC j hj u v (by rw [hu]; exact hb) w1 hm)
  rw [list_fuel H.goes b C.L.length (C.L.length + 1) i x (by omega) (by omega) (by omega) (by omega)]
  have HST := Lib.hid (fun i x => list_step H.goes b i x)
  obtain ⟨r, hr⟩ : ∃ r, RList C I (listS one C.L b (C.L.length + 1) i x) = r := ⟨_, rfl⟩
  rw [hr]
  have HRN := Lib.hid hr
  have hcf := H.call
  have HO := Lib.hid (H.read i x w hi hI)
  have HI := Lib.hid hi
  have HNX := Lib.hid (H.next i x)
  clear hr hC hi0 hI hu H hi
  obtain ⟨R, hRR⟩ : ∃ r, C.R = r := ⟨_, rfl⟩
  rw [hRR] at HE ⊢
  clear hRR
  go_enter Try.func51, Try.ntmps51
  go_wp2_with fail
  rcases hx1 : one i x with f | ⟨j, y⟩
  · have HX1 := Lib.hid hx1
    rw [hx1] at HO
    clear hx1
    refine HO.out.mono ?_; rintro e w1 ⟨rfl, hb1⟩
    have HB1 := Lib.hid hb1
    have hcx : listS one C.L b (C.L.length + 1) i x = .error f := by rw [HST.out, HX1.out]; rfl
    rw [hcx] at HRN
    clear hb1 hcx hcf
    go_wp2_with fail
    rw [← HRN.out]
    exact ⟨rfl, rfl, HB1.out⟩
  · have HX1 := Lib.hid hx1
    have HN1 := Lib.hid (HNX.out _ HI.out hx1)
    rw [hx1] at HO
    clear hx1
    refine HO.out.mono ?_; rintro e w1 ⟨rfl, hi1⟩
    have HI1 := Lib.hid hi1
    have HS1 : Hid ((if wordAt C.L j b = true then listS one C.L b (C.L.length + 1) (j + 1) y else pure (j, y)) = listS one C.L b (C.L.length + 1) i x) := Lib.hid (by rw [HST.out i x, HX1.out]; rfl)
    clear hi1
    go_wp2_with fail
    go_loopg [] (C.L.length - j) (fun q wr => ∃ (j : Nat) (y : σ), j < C.L.length ∧ C.L.length - j = q ∧ I j y wr ∧ (if wordAt C.L j b = true then listS one C.L b (C.L.length + 1) (j + 1) y else pure (j, y)) = listS one C.L b (C.L.length + 1) i x)
    case atStart => exact ⟨j, y, HN1.out, rfl, HI1.out, HS1.out⟩
    case round =>
      obtain ⟨j, y, hj, hq, hi, hs⟩ := hrel
      have HJ := Lib.hid hj
      have HQ := Lib.hid hq
      have HI2 := Lib.hid hi
      have HS2 := Lib.hid hs
      clear hj hq hi hs
      obtain ⟨v, hv⟩ : ∃ v, wordAt C.L j b = v := ⟨_, rfl⟩
      have HV := Lib.hid hv
      have HEE := Lib.hid (HE.out j v hv wr HJ.out (HH.out.at' _ _ _ HI2.out))
      clear hv
      go_wp2_with fail
      refine HEE.out.mono ?_; rintro e w2 ⟨rfl, hm2⟩
      have HI3 := Lib.hid (HH.out.mv _ _ _ _ _ (by cases v <;> simp) HI2.out hm2)
      clear hm2 HEE
      rcases v with _ | _
      · have hcx : listS one C.L b (C.L.length + 1) i x = .ok (j, y) := by rw [← HS2.out, HV.out]; rfl
        rw [hcx] at HRN
        clear hcx hcf
        go_wp2_with fail
        go_end0
        rw [← HRN.out]
        exact ⟨rfl, HI3.out⟩
      · have HN3 := Lib.hid (word_next HG.out HV.out)
        have HO3 := Lib.hid (HH.out.read (j + 1) y w2 HN3.out HI3.out)
        have HNX3 := Lib.hid (HH.out.next (j + 1) y)
        have HS3 : Hid (listS one C.L b (C.L.length + 1) (j + 1) y = listS one C.L b (C.L.length + 1) i x) := Lib.hid (by rw [← HS2.out, HV.out]; rfl)
        go_wp2_with fail
        rcases hx1 : one (j + 1) y with f | ⟨j2, y2⟩
        · have hcx : listS one C.L b (C.L.length + 1) i x = .error f := by rw [← HS3.out, HST.out, hx1]; rfl
          rw [hx1] at HO3
          rw [hcx] at HRN
          clear hx1 hcx
          refine HO3.out.mono ?_; rintro e w3 ⟨rfl, hb1⟩
          have HB1 := Lib.hid hb1
          clear hb1 hcf
          go_wp2_with fail
          rw [← HRN.out]
          exact ⟨rfl, rfl, HB1.out⟩
        · have HN4 := Lib.hid (HNX3.out _ HN3.out hx1)
          have HGO := Lib.hid (HH.out.goes (j + 1) y _ hx1)
          have HS4 : Hid ((if wordAt C.L j2 b = true then listS one C.L b (C.L.length + 1) (j2 + 1) y2 else pure (j2, y2)) = listS one C.L b (C.L.length + 1) i x) := Lib.hid (by rw [← HS3.out, HST.out (j + 1) y, hx1]; rfl)
          rw [hx1] at HO3
          clear hx1
          refine HO3.out.mono ?_; rintro e w3 ⟨rfl, hi4⟩
          have HI4 := Lib.hid hi4
          clear hi4
          go_wp2_with fail
          go_roundg (C.L.length - j2)
          case measure => have h1 : j + 1 < j2 := HGO.out.1; have h2 := HQ.out; have h3 : j2 < C.L.length := HN4.out; omega
          case rel => exact ⟨j2, y2, HN4.out, rfl, HI4.out, HS4.out⟩
end Go.Proofs.Ytaofjnidniekjaa
