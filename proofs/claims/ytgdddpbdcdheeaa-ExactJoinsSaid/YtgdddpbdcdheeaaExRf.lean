/- The walk of the law ExactJoins. No conditions. -/
import Derived.Test.YtgdddpbdcdheeaaExRe
namespace Go.Proofs.Ytgdddpbdcdheeaa
open Go.RowKit Ieee

def Fine (b : Nat) (z : Int) : Prop := z.natAbs < ROOM ∧ b < 32 ∧ Plus b z
theorem Fine.join {b d : Nat} {z y : Int} (h : Fine b z) (k : Fine d y) : Fine (joinF b d z y) (putZ z y) := by
  unfold joinF putZ
  by_cases hr : (z + y).natAbs < ROOM
  · rw [if_pos hr, if_pos hr]
    refine ⟨hr, Nat.or_lt_two_pow (n := 5) h.2.1 k.2.1, fun hz => ?_⟩
    by_cases h0 : z = 0
    · have := k.2.2 (by omega)
      exact Nat.le_trans this Nat.right_le_or
    · exact Nat.le_trans (h.2.2 h0) Nat.left_le_or
  · rw [if_neg hr, if_neg hr]
    exact h
theorem Fine.add {b x : Nat} {z : Int} (h : Fine b z) : Fine (addF b z x) (addZ z x) :=
  ⟨(Okay.step (s := (b, z)) ⟨h.2.1, h.1⟩ x).2, (Okay.step (s := (b, z)) ⟨h.2.1, h.1⟩ x).1, Plus.step (s := (b, z)) h.2.2 x⟩
theorem Fine.read {bs : List Int} (hb : Byt bs) (h : codeN bs = 0) : Fine (bOf bs) (zOf bs) := by
  obtain ⟨-, h2, h3, h4, -⟩ := read_ok hb h
  exact ⟨h3, h2, h4⟩
/-- what a reading gave -/
def Rd (S : Nat) (bs : List Int) (w : World) (v : Value) : Prop :=
  (codeN bs = 0 ∧ ∃ g, v = .pointer (some ⟨g, 0, none⟩) ∧ SumAt w g (bOf bs) (zOf bs) ∧ S ≤ g) ∨ (codeN bs ≠ 0 ∧ v = .pointer none)
theorem RRead.rd {bs : List Int} {w w' : World} {e : Ending} (h : RRead bs w e w') : ∃ v, e = .returned (.tuple #[v, .int .i64 ((codeN bs : Nat) : Int)]) ∧ Rd w.heap.size bs w' v ∧ Below w.heap.size w w' := by
  obtain ⟨hb, ⟨hc, g, rfl, hs, hg⟩ | ⟨hc, rfl⟩⟩ := h
  · exact ⟨_, by rw [hc]; rfl, .inl ⟨hc, g, rfl, hs, hg⟩, hb⟩
  · exact ⟨_, rfl, .inr ⟨hc, rfl⟩, hb⟩
theorem Rd.below {S B : Nat} {bs : List Int} {w w' : World} {v : Value} (h : Rd S bs w v) (hb : Below B w w') (hB : w.heap.size ≤ B) : Rd S bs w' v := by
  rcases h with ⟨hc, g, h1, hs, hg⟩ | h
  · exact .inl ⟨hc, g, h1, hs.below hb hB, hg⟩
  · exact .inr h
/-- an older sum lies below -/
theorem Rd.old {S : Nat} {bs : List Int} {w : World} {v : Value} {g : Nat} (h : Rd S bs w v) (hv : v = .pointer (some ⟨g, 0, none⟩)) : g < w.heap.size ∧ S ≤ g := by
  rcases h with ⟨-, k, h1, hs, hk⟩ | ⟨-, h⟩
  · rw [hv] at h1; cases h1; exact ⟨hs.lt, hk⟩
  · rw [hv] at h; cases h

set_option maxRecDepth 100000 in
set_option maxHeartbeats 8000000 in
theorem walk_exjoins (a : Option Addr) (n c : Nat) (zs : List Int) (a0 : Option Addr) (m c0 : Nat) (ys : List Int) (x : Nat) (w : World) (hA : IsRow .u8 w a n c zs) (hB : IsRow .u8 w a0 m c0 ys) (w2 : (Lit.float .f64 x).wf = true) :
    Calls Try.prog 6 #[.slice a n c, .slice a0 m c0, .float .f64 x] w fun e w' => e = .returned (.bool true) ∧ Below w.heap.size w w' := by
  have hx : x < 18446744073709551616 := by
    have h2 : x < 2 ^ 64 := by simpa [Lit.wf] using w2
    exact h2
  have hr := hA.row
  have hb := byt_of hA
  have hr2 := hB.row
  have hb2 := byt_of hB
  obtain ⟨bs, hbs⟩ : ∃ bs, zs.take n = bs := ⟨_, rfl⟩
  obtain ⟨cs, hcs⟩ : ∃ cs, ys.take m = cs := ⟨_, rfl⟩
  rw [hbs] at hr hb
  rw [hcs] at hr2 hb2
  have HR := Lib.hid hr
  have HBY := Lib.hid hb
  have HR2 := Lib.hid hr2
  have HBY2 := Lib.hid hb2
  have HX := Lib.hid hx
  clear hA hr hb hbs hB hr2 hb2 hcs w2 hx
  obtain ⟨K, hK⟩ : ∃ K, codeN bs = K := ⟨_, rfl⟩
  obtain ⟨L, hL⟩ : ∃ L, codeN cs = L := ⟨_, rfl⟩
  have HK := Lib.hid hK
  have HL := Lib.hid hL
  clear hK hL
  go_enter Try.func6, Try.ntmps6
  go_wp2_with fail
  refine (read_any _ a n c bs HR.out HBY.out).mono ?_; rintro e w1 h
  obtain ⟨v1, rfl, hd1, hb1⟩ := h.rd
  rw [HK.out]
  have HB := Lib.hid hb1
  have HD1 := Lib.hid hd1
  clear h hb1 hd1
  go_wp2_with fail
  refine (read_any _ a0 m c0 cs (HR2.out.below HB.out (Nat.le_refl _)) HBY2.out).mono ?_; rintro e w2 h
  obtain ⟨v2, rfl, hd2, hb2⟩ := h.rd
  rw [HL.out]
  have HAP : Hid (∀ g k, v1 = .pointer (some ⟨g, 0, none⟩) → v2 = .pointer (some ⟨k, 0, none⟩) → g < k ∧ w.heap.size ≤ g) := Lib.hid (fun g k h1 h2 => ⟨Nat.lt_of_lt_of_le (HD1.out.old h1).1 (hd2.old h2).2, (HD1.out.old h1).2⟩)
  replace HB := Lib.hid (HB.out.trans (hb2.mono HB.out.size))
  replace HD1 := Lib.hid (HD1.out.below hb2 (Nat.le_refl _))
  have HD2 := Lib.hid hd2
  clear h hb2 hd2
  go_wp2_with fail
  refine (rsread_any _ a n c bs (HR.out.below HB.out (Nat.le_refl _)) HBY.out).mono ?_; rintro e w3 ⟨hb3, b1, z1, ng1, p1, l1, c1, rfl, hN, hz1⟩
  rw [HK.out]
  rw [HK.out] at hz1
  have HZ1 := Lib.hid hz1
  clear hz1
  obtain ⟨q10, q11, q12, q13, q14, hq1⟩ : ∃ q0 q1 q2 q3 q4 : Bool, rsCells (b1) = fun ng a l c => #[.bool q0, .bool q1, .bool q2, .bool q3, .bool q4, .bool ng, .slice a l c] := ⟨_, _, _, _, _, rfl⟩
  rw [hq1]
  have HQ1 := Lib.hid hq1
  obtain ⟨hk, hbk⟩ := put_box w3 q10 q11 q12 q13 q14 ng1 p1 l1 c1
  have HK1 := Lib.hid hk
  have HBX := Lib.hid (HB.out.trans (hb3.mono HB.out.size))
  clear HB
  have HB := Lib.hid (HBX.out.trans (hbk.mono HBX.out.size))
  have HN1 := Lib.hid (hN.below hbk (Nat.le_refl _))
  replace HD1 := Lib.hid ((HD1.out.below hb3 (Nat.le_refl _)).below hbk (Nat.le_refl _))
  replace HD2 := Lib.hid ((HD2.out.below hb3 (Nat.le_refl _)).below hbk (Nat.le_refl _))
  clear hk hbk hb3 hN hq1 HBX
  go_upto_region 4 with fail
  generalize (w3.alloc (.cells #[.bool q10, .bool q11, .bool q12, .bool q13, .bool q14, .bool ng1, .slice p1 l1 c1] 30)) = w4 at *
  generalize w3.heap.size = B1 at *
  go_wp2_with fail
  refine (rsread_any _ a0 m c0 cs (HR2.out.below HB.out (Nat.le_refl _)) HBY2.out).mono ?_; rintro e w5 ⟨hb5, b2, z2, ng2, p2, l2, c2, rfl, hN, hz2⟩
  rw [HL.out]
  rw [HL.out] at hz2
  have HZ2 := Lib.hid hz2
  clear hz2
  obtain ⟨q20, q21, q22, q23, q24, hq2⟩ : ∃ q0 q1 q2 q3 q4 : Bool, rsCells (b2) = fun ng a l c => #[.bool q0, .bool q1, .bool q2, .bool q3, .bool q4, .bool ng, .slice a l c] := ⟨_, _, _, _, _, rfl⟩
  rw [hq2]
  have HQ2 := Lib.hid hq2
  have HAP2 : Hid (∀ g, v1 = .pointer (some ⟨g, 0, none⟩) → g < w5.heap.size) := Lib.hid (fun g h => ((HD1.out.below hb5 (Nat.le_refl _)).old h).1)
  obtain ⟨hk, hbk⟩ := put_box w5 q20 q21 q22 q23 q24 ng2 p2 l2 c2
  have HK2 := Lib.hid hk
  have HBX := Lib.hid (HB.out.trans (hb5.mono HB.out.size))
  clear HB
  have HB := Lib.hid (HBX.out.trans (hbk.mono HBX.out.size))
  have HN2 := Lib.hid (hN.below hbk (Nat.le_refl _))
  replace HD1 := Lib.hid ((HD1.out.below hb5 (Nat.le_refl _)).below hbk (Nat.le_refl _))
  replace HD2 := Lib.hid ((HD2.out.below hb5 (Nat.le_refl _)).below hbk (Nat.le_refl _))
  replace HN1 := Lib.hid ((HN1.out.below hb5 (Nat.le_refl _)).below hbk (Nat.le_refl _))
  replace HK1 := Lib.hid ((HK1.out.below hb5 HK1.out.lt).below hbk (Nat.lt_of_lt_of_le HK1.out.lt hb5.size))
  clear hk hbk hb5 hN hq2 HBX
  go_upto_region 5 with fail
  generalize (w5.alloc (.cells #[.bool q20, .bool q21, .bool q22, .bool q23, .bool q24, .bool ng2, .slice p2 l2 c2] 30)) = w6 at *
  generalize w5.heap.size = B2 at *
  clear HR HR2
  rcases HD1.out with ⟨hk0, g, rfl, hs1, hg⟩ | ⟨hk0, rfl⟩
  · obtain rfl : K = 0 := by rw [← HK.out]; exact hk0
    rcases HD2.out with ⟨hl0, k, rfl, hs2, hk⟩ | ⟨hl0, rfl⟩
    · obtain rfl : L = 0 := by rw [← HL.out]; exact hl0
      obtain ⟨hgk, hwg⟩ := HAP.out g k rfl rfl
      have HGK := Lib.hid hgk
      have HGB2 := Lib.hid (HAP2.out g rfl)
      have HWG := Lib.hid hwg
      obtain ⟨e1, e2⟩ := HZ1.out rfl
      obtain ⟨e3, e4⟩ := HZ2.out rfl
      have F1 := Fine.read HBY.out HK.out
      have F2 := Fine.read HBY2.out HL.out
      rw [← e1, ← e2] at hs1 F1
      rw [← e3, ← e4] at hs2 F2
      have HS1 := Lib.hid hs1
      have HS2 := Lib.hid hs2
      have hq1 := HQ1.out
      have hq2 := HQ2.out
      clear hk0 hl0 hs1 hs2 hg hk hgk hwg e1 e2 e3 e4 HD1 HD2 HAP HAP2 HZ1 HZ2 HK HL HBY HBY2 HQ1 HQ2
      obtain ⟨b3, hb3⟩ : ∃ b, joinF b1 b2 z1 z2 = b := ⟨_, rfl⟩
      obtain ⟨z3, hz3⟩ : ∃ z, putZ z1 z2 = z := ⟨_, rfl⟩
      obtain ⟨o3, ho3⟩ : ∃ o, decide ((z1 + z2).natAbs < ROOM) = o := ⟨_, rfl⟩
      have F3 : Fine b3 z3 := by rw [← hb3, ← hz3]; exact F1.join F2
      obtain ⟨q30, q31, q32, q33, q34, hq3⟩ : ∃ q0 q1 q2 q3 q4 : Bool, rsCells (b3) = fun ng a l c => #[.bool q0, .bool q1, .bool q2, .bool q3, .bool q4, .bool ng, .slice a l c] := ⟨_, _, _, _, _, rfl⟩
      obtain ⟨b4, hb4⟩ : ∃ b, addF b3 z3 x = b := ⟨_, rfl⟩
      obtain ⟨z4, hz4⟩ : ∃ z, addZ z3 x = z := ⟨_, rfl⟩
      obtain ⟨o4, ho4⟩ : ∃ o, addOk z3 x = o := ⟨_, rfl⟩
      have F4 : Fine b4 z4 := by rw [← hb4, ← hz4]; exact F3.add
      obtain ⟨q40, q41, q42, q43, q44, hq4⟩ : ∃ q0 q1 q2 q3 q4 : Bool, rsCells (b4) = fun ng a l c => #[.bool q0, .bool q1, .bool q2, .bool q3, .bool q4, .bool ng, .slice a l c] := ⟨_, _, _, _, _, rfl⟩
      obtain ⟨b5, hb5⟩ : ∃ b, joinF b4 b4 z4 z4 = b := ⟨_, rfl⟩
      obtain ⟨z5, hz5⟩ : ∃ z, putZ z4 z4 = z := ⟨_, rfl⟩
      obtain ⟨o5, ho5⟩ : ∃ o, decide ((z4 + z4).natAbs < ROOM) = o := ⟨_, rfl⟩
      have F5 : Fine b5 z5 := by rw [← hb5, ← hz5]; exact F4.join F4
      obtain ⟨q50, q51, q52, q53, q54, hq5⟩ : ∃ q0 q1 q2 q3 q4 : Bool, rsCells (b5) = fun ng a l c => #[.bool q0, .bool q1, .bool q2, .bool q3, .bool q4, .bool ng, .slice a l c] := ⟨_, _, _, _, _, rfl⟩
      have HRJ : Hid (∀ w' ng a l c nb a2 l2 c2, NumC w' ng a l c z1 → NumC w' nb a2 l2 c2 z2 → Calls Try.prog 25 #[.agg #[.bool q10, .bool q11, .bool q12, .bool q13, .bool q14, .bool ng, .slice a l c], .agg #[.bool q20, .bool q21, .bool q22, .bool q23, .bool q24, .bool nb, .slice a2 l2 c2]] w' fun e w'' => ∃ ng a l c, e = .returned (.tuple #[.agg #[.bool q30, .bool q31, .bool q32, .bool q33, .bool q34, .bool ng, .slice a l c], .bool o3]) ∧ NumC w'' ng a l c z3 ∧ Below w'.heap.size w' w'') := Lib.hid (fun w' ng a l c nb a2 l2 c2 h1 h2 => by
        have h := rsjoin_any w' b1 b2 z1 z2 ng nb a l c a2 l2 c2 h1 h2 F1.1 F2.1
        unfold RRS at h
        rw [hb3, hz3, ho3, hq3, hq1, hq2] at h
        exact h)
      have HJ : Hid (∀ w', SumAt w' g b1 z1 → SumAt w' k b2 z2 → Calls Try.prog 20 #[.pointer (some ⟨g, 0, none⟩), .pointer (some ⟨k, 0, none⟩)] w' fun e w'' => e = .returned (.bool o3) ∧ SumAt w'' g b3 z3 ∧ But g w' w'') := Lib.hid (fun w' h1 h2 => by
        have h := sumjoin_any w' g k b1 b2 z1 z2 h1 h2 F1.1 F2.1 F1.2.1 F2.2.1
        unfold RSJoin at h
        rw [hb3, hz3, ho3] at h
        exact h)
      have HIS3 : Hid (∀ w' ng a l c, SumAt w' g b3 z3 → NumC w' ng a l c z3 → Calls Try.prog 16 #[.pointer (some ⟨g, 0, none⟩), .agg #[.bool q30, .bool q31, .bool q32, .bool q33, .bool q34, .bool ng, .slice a l c]] w' fun e w'' => e = .returned (.bool true) ∧ Below w'.heap.size w' w'') := Lib.hid (fun w' ng a l c h1 h2 => by
        have h := is_any w' g b3 z3 ng a l c h1 h2 F3.1 F3.2.1 F3.2.2
        rw [hq3] at h
        exact h)
      have HIS2 : Hid (∀ w' ng a l c, SumAt w' k b2 z2 → NumC w' ng a l c z2 → Calls Try.prog 16 #[.pointer (some ⟨k, 0, none⟩), .agg #[.bool q20, .bool q21, .bool q22, .bool q23, .bool q24, .bool ng, .slice a l c]] w' fun e w'' => e = .returned (.bool true) ∧ Below w'.heap.size w' w'') := Lib.hid (fun w' ng a l c h1 h2 => by
        have h := is_any w' k b2 z2 ng a l c h1 h2 F2.1 F2.2.1 F2.2.2
        rw [hq2] at h
        exact h)
      have HRA : Hid (∀ w' ng a l c, NumC w' ng a l c z3 → Calls Try.prog 14 #[.agg #[.bool q30, .bool q31, .bool q32, .bool q33, .bool q34, .bool ng, .slice a l c], .float .f64 x] w' fun e w'' => ∃ ng a l c, e = .returned (.tuple #[.agg #[.bool q40, .bool q41, .bool q42, .bool q43, .bool q44, .bool ng, .slice a l c], .bool o4]) ∧ NumC w'' ng a l c z4 ∧ Below w'.heap.size w' w'') := Lib.hid (fun w' ng a l c h1 => by
        have h := rsadd_any w' b3 x z3 ng a l c h1 F3.1 HX.out
        unfold RRS at h
        rw [hb4, hz4, ho4, hq4, hq3] at h
        exact h)
      have HA : Hid (∀ w', SumAt w' g b3 z3 → Calls Try.prog 15 #[.pointer (some ⟨g, 0, none⟩), .float .f64 x] w' fun e w'' => e = .returned (.bool o4) ∧ SumAt w'' g b4 z4 ∧ But g w' w'') := Lib.hid (fun w' h1 => by
        have h := sumadd_any w' g b3 z3 x h1 F3.1 F3.2.1 HX.out
        unfold RAdd at h
        rw [hb4, hz4, ho4] at h
        exact h)
      have HIS4 : Hid (∀ w' ng a l c, SumAt w' g b4 z4 → NumC w' ng a l c z4 → Calls Try.prog 16 #[.pointer (some ⟨g, 0, none⟩), .agg #[.bool q40, .bool q41, .bool q42, .bool q43, .bool q44, .bool ng, .slice a l c]] w' fun e w'' => e = .returned (.bool true) ∧ Below w'.heap.size w' w'') := Lib.hid (fun w' ng a l c h1 h2 => by
        have h := is_any w' g b4 z4 ng a l c h1 h2 F4.1 F4.2.1 F4.2.2
        rw [hq4] at h
        exact h)
      have HRJ2 : Hid (∀ w' ng a l c nb a2 l2 c2, NumC w' ng a l c z4 → NumC w' nb a2 l2 c2 z4 → Calls Try.prog 25 #[.agg #[.bool q40, .bool q41, .bool q42, .bool q43, .bool q44, .bool ng, .slice a l c], .agg #[.bool q40, .bool q41, .bool q42, .bool q43, .bool q44, .bool nb, .slice a2 l2 c2]] w' fun e w'' => ∃ ng a l c, e = .returned (.tuple #[.agg #[.bool q50, .bool q51, .bool q52, .bool q53, .bool q54, .bool ng, .slice a l c], .bool o5]) ∧ NumC w'' ng a l c z5 ∧ Below w'.heap.size w' w'') := Lib.hid (fun w' ng a l c nb a2 l2 c2 h1 h2 => by
        have h := rsjoin_any w' b4 b4 z4 z4 ng nb a l c a2 l2 c2 h1 h2 F4.1 F4.1
        unfold RRS at h
        rw [hb5, hz5, ho5, hq5, hq4] at h
        exact h)
      have HJ2 : Hid (∀ w', SumAt w' g b4 z4 → SumAt w' g b4 z4 → Calls Try.prog 20 #[.pointer (some ⟨g, 0, none⟩), .pointer (some ⟨g, 0, none⟩)] w' fun e w'' => e = .returned (.bool o5) ∧ SumAt w'' g b5 z5 ∧ But g w' w'') := Lib.hid (fun w' h1 h2 => by
        have h := sumjoin_any w' g g b4 b4 z4 z4 h1 h2 F4.1 F4.1 F4.2.1 F4.2.1
        unfold RSJoin at h
        rw [hb5, hz5, ho5] at h
        exact h)
      have HIS5 : Hid (∀ w' ng a l c, SumAt w' g b5 z5 → NumC w' ng a l c z5 → Calls Try.prog 16 #[.pointer (some ⟨g, 0, none⟩), .agg #[.bool q50, .bool q51, .bool q52, .bool q53, .bool q54, .bool ng, .slice a l c]] w' fun e w'' => e = .returned (.bool true) ∧ Below w'.heap.size w' w'') := Lib.hid (fun w' ng a l c h1 h2 => by
        have h := is_any w' g b5 z5 ng a l c h1 h2 F5.1 F5.2.1 F5.2.2
        rw [hq5] at h
        exact h)
      clear hq1 hq2 hq3 hq4 hq5 hb3 hz3 ho3 hb4 hz4 ho4 hb5 hz5 ho5 F1 F2 F3 F4 F5 HX
      have hkx := HK1.out
      have y0 : w6.cell? ⟨B1, 0, none⟩ = some (.bool q10) := hkx.cell 0
      have y1 : w6.cell? ⟨B1, 1, none⟩ = some (.bool q11) := hkx.cell 1
      have y2 : w6.cell? ⟨B1, 2, none⟩ = some (.bool q12) := hkx.cell 2
      have y3 : w6.cell? ⟨B1, 3, none⟩ = some (.bool q13) := hkx.cell 3
      have y4 : w6.cell? ⟨B1, 4, none⟩ = some (.bool q14) := hkx.cell 4
      have y5 : w6.cell? ⟨B1, 5, none⟩ = some (.bool ng1) := hkx.cell 5
      have y6 : w6.cell? ⟨B1, 6, none⟩ = some (.slice p1 l1 c1) := hkx.cell 6
      clear hkx
      have hkx := HK2.out
      have x0 : w6.cell? ⟨B2, 0, none⟩ = some (.bool q20) := hkx.cell 0
      have x1 : w6.cell? ⟨B2, 1, none⟩ = some (.bool q21) := hkx.cell 1
      have x2 : w6.cell? ⟨B2, 2, none⟩ = some (.bool q22) := hkx.cell 2
      have x3 : w6.cell? ⟨B2, 3, none⟩ = some (.bool q23) := hkx.cell 3
      have x4 : w6.cell? ⟨B2, 4, none⟩ = some (.bool q24) := hkx.cell 4
      have x5 : w6.cell? ⟨B2, 5, none⟩ = some (.bool ng2) := hkx.cell 5
      have x6 : w6.cell? ⟨B2, 6, none⟩ = some (.slice p2 l2 c2) := hkx.cell 6
      clear hkx
      go_wp2_with fail
      refine (HRJ.out _ _ _ _ _ _ _ _ _ HN1.out HN2.out).mono ?_; rintro e w7 ⟨ng3, p3, l3, c3, rfl, hN, hb7⟩
      clear y0 y1 y2 y3 y4 y5 y6 x0 x1 x2 x3 x4 x5 x6
      clear HRJ HK1 HN1
      have HGB3 : Hid (g < w7.heap.size) := Lib.hid (Nat.lt_of_lt_of_le HS1.out.lt hb7.size)
      obtain ⟨hk, hbk⟩ := put_box w7 q30 q31 q32 q33 q34 ng3 p3 l3 c3
      have HK3 := Lib.hid hk
      have HBX := Lib.hid (HB.out.trans (hb7.mono HB.out.size))
      clear HB
      have HB := Lib.hid (HBX.out.trans (hbk.mono HBX.out.size))
      have HN3 := Lib.hid (hN.below hbk (Nat.le_refl _))
      replace HS1 := Lib.hid ((HS1.out.below hb7 (Nat.le_refl _)).below hbk (Nat.le_refl _))
      replace HS2 := Lib.hid ((HS2.out.below hb7 (Nat.le_refl _)).below hbk (Nat.le_refl _))
      replace HN2 := Lib.hid ((HN2.out.below hb7 (Nat.le_refl _)).below hbk (Nat.le_refl _))
      replace HK2 := Lib.hid ((HK2.out.below hb7 HK2.out.lt).below hbk (Nat.lt_of_lt_of_le HK2.out.lt hb7.size))
      clear hk hbk hb7 hN HBX
      go_upto_region 10 with fail
      generalize (w7.alloc (.cells #[.bool q30, .bool q31, .bool q32, .bool q33, .bool q34, .bool ng3, .slice p3 l3 c3] 30)) = w8 at *
      generalize w7.heap.size = B3 at *
      go_wp2_with fail
      refine (HJ.out _ HS1.out HS2.out).mono ?_; rintro e w9 ⟨rfl, hs, hbt⟩
      clear HJ
      replace HB := Lib.hid (HB.out.trans (hbt.below HWG.out HB.out.size))
      replace HS2 := Lib.hid (HS2.out.other HS1.out hbt (by have := HGK.out; omega))
      replace HK2 := Lib.hid (hbt.blk HK2.out (by have := HGB2.out; omega))
      replace HK3 := Lib.hid (hbt.blk HK3.out (by have := HGB3.out; omega))
      replace HN2 := Lib.hid (HN2.out.sum HS1.out hbt)
      replace HN3 := Lib.hid (HN3.out.sum HS1.out hbt)
      replace HS1 := Lib.hid hs
      clear hs hbt
      have hkx := HK3.out
      have y0 : w9.cell? ⟨B3, 0, none⟩ = some (.bool q30) := hkx.cell 0
      have y1 : w9.cell? ⟨B3, 1, none⟩ = some (.bool q31) := hkx.cell 1
      have y2 : w9.cell? ⟨B3, 2, none⟩ = some (.bool q32) := hkx.cell 2
      have y3 : w9.cell? ⟨B3, 3, none⟩ = some (.bool q33) := hkx.cell 3
      have y4 : w9.cell? ⟨B3, 4, none⟩ = some (.bool q34) := hkx.cell 4
      have y5 : w9.cell? ⟨B3, 5, none⟩ = some (.bool ng3) := hkx.cell 5
      have y6 : w9.cell? ⟨B3, 6, none⟩ = some (.slice p3 l3 c3) := hkx.cell 6
      clear hkx
      go_wp2_with fail
      refine (HIS3.out _ _ _ _ _ HS1.out HN3.out).mono ?_; rintro e w10 ⟨rfl, hb10⟩
      clear y0 y1 y2 y3 y4 y5 y6
      replace HB := Lib.hid (HB.out.trans (hb10.mono HB.out.size))
      replace HS1 := Lib.hid (HS1.out.below hb10 (Nat.le_refl _))
      replace HS2 := Lib.hid (HS2.out.below hb10 (Nat.le_refl _))
      replace HK2 := Lib.hid (HK2.out.below hb10 HK2.out.lt)
      replace HK3 := Lib.hid (HK3.out.below hb10 HK3.out.lt)
      replace HN2 := Lib.hid (HN2.out.below hb10 (Nat.le_refl _))
      replace HN3 := Lib.hid (HN3.out.below hb10 (Nat.le_refl _))
      clear hb10
      have hkx := HK2.out
      have x0 : w10.cell? ⟨B2, 0, none⟩ = some (.bool q20) := hkx.cell 0
      have x1 : w10.cell? ⟨B2, 1, none⟩ = some (.bool q21) := hkx.cell 1
      have x2 : w10.cell? ⟨B2, 2, none⟩ = some (.bool q22) := hkx.cell 2
      have x3 : w10.cell? ⟨B2, 3, none⟩ = some (.bool q23) := hkx.cell 3
      have x4 : w10.cell? ⟨B2, 4, none⟩ = some (.bool q24) := hkx.cell 4
      have x5 : w10.cell? ⟨B2, 5, none⟩ = some (.bool ng2) := hkx.cell 5
      have x6 : w10.cell? ⟨B2, 6, none⟩ = some (.slice p2 l2 c2) := hkx.cell 6
      clear hkx
      go_wp2_with fail
      refine (HIS2.out _ _ _ _ _ HS2.out HN2.out).mono ?_; rintro e w11 ⟨rfl, hb11⟩
      clear x0 x1 x2 x3 x4 x5 x6
      clear HIS3 HIS2 HS2 HK2 HN2
      replace HB := Lib.hid (HB.out.trans (hb11.mono HB.out.size))
      replace HS1 := Lib.hid (HS1.out.below hb11 (Nat.le_refl _))
      replace HK3 := Lib.hid (HK3.out.below hb11 HK3.out.lt)
      replace HN3 := Lib.hid (HN3.out.below hb11 (Nat.le_refl _))
      clear hb11
      have hkx := HK3.out
      have y0 : w11.cell? ⟨B3, 0, none⟩ = some (.bool q30) := hkx.cell 0
      have y1 : w11.cell? ⟨B3, 1, none⟩ = some (.bool q31) := hkx.cell 1
      have y2 : w11.cell? ⟨B3, 2, none⟩ = some (.bool q32) := hkx.cell 2
      have y3 : w11.cell? ⟨B3, 3, none⟩ = some (.bool q33) := hkx.cell 3
      have y4 : w11.cell? ⟨B3, 4, none⟩ = some (.bool q34) := hkx.cell 4
      have y5 : w11.cell? ⟨B3, 5, none⟩ = some (.bool ng3) := hkx.cell 5
      have y6 : w11.cell? ⟨B3, 6, none⟩ = some (.slice p3 l3 c3) := hkx.cell 6
      clear hkx
      go_wp2_with fail
      refine (HRA.out _ _ _ _ _ HN3.out).mono ?_; rintro e w12 ⟨ng4, p4, l4, c4, rfl, hN, hb12⟩
      clear y0 y1 y2 y3 y4 y5 y6
      clear HRA HK3 HN3
      have HGB4 : Hid (g < w12.heap.size) := Lib.hid (Nat.lt_of_lt_of_le HS1.out.lt hb12.size)
      obtain ⟨hk, hbk⟩ := put_box w12 q40 q41 q42 q43 q44 ng4 p4 l4 c4
      have HK4 := Lib.hid hk
      have HBX := Lib.hid (HB.out.trans (hb12.mono HB.out.size))
      clear HB
      have HB := Lib.hid (HBX.out.trans (hbk.mono HBX.out.size))
      have HN4 := Lib.hid (hN.below hbk (Nat.le_refl _))
      replace HS1 := Lib.hid ((HS1.out.below hb12 (Nat.le_refl _)).below hbk (Nat.le_refl _))
      clear hk hbk hb12 hN HBX
      go_upto_region 13 with fail
      generalize (w12.alloc (.cells #[.bool q40, .bool q41, .bool q42, .bool q43, .bool q44, .bool ng4, .slice p4 l4 c4] 30)) = w13 at *
      generalize w12.heap.size = B4 at *
      go_wp2_with fail
      refine (HA.out _ HS1.out).mono ?_; rintro e w14 ⟨rfl, hs, hbt⟩
      clear HA
      replace HB := Lib.hid (HB.out.trans (hbt.below HWG.out HB.out.size))
      replace HK4 := Lib.hid (hbt.blk HK4.out (by have := HGB4.out; omega))
      replace HN4 := Lib.hid (HN4.out.sum HS1.out hbt)
      replace HS1 := Lib.hid hs
      clear hs hbt
      have hkx := HK4.out
      have y0 : w14.cell? ⟨B4, 0, none⟩ = some (.bool q40) := hkx.cell 0
      have y1 : w14.cell? ⟨B4, 1, none⟩ = some (.bool q41) := hkx.cell 1
      have y2 : w14.cell? ⟨B4, 2, none⟩ = some (.bool q42) := hkx.cell 2
      have y3 : w14.cell? ⟨B4, 3, none⟩ = some (.bool q43) := hkx.cell 3
      have y4 : w14.cell? ⟨B4, 4, none⟩ = some (.bool q44) := hkx.cell 4
      have y5 : w14.cell? ⟨B4, 5, none⟩ = some (.bool ng4) := hkx.cell 5
      have y6 : w14.cell? ⟨B4, 6, none⟩ = some (.slice p4 l4 c4) := hkx.cell 6
      clear hkx
      go_wp2_with fail
      refine (HIS4.out _ _ _ _ _ HS1.out HN4.out).mono ?_; rintro e w15 ⟨rfl, hb15⟩
      clear y0 y1 y2 y3 y4 y5 y6
      clear HIS4
      replace HB := Lib.hid (HB.out.trans (hb15.mono HB.out.size))
      replace HS1 := Lib.hid (HS1.out.below hb15 (Nat.le_refl _))
      replace HK4 := Lib.hid (HK4.out.below hb15 HK4.out.lt)
      replace HN4 := Lib.hid (HN4.out.below hb15 (Nat.le_refl _))
      clear hb15
      have hkx := HK4.out
      have y0 : w15.cell? ⟨B4, 0, none⟩ = some (.bool q40) := hkx.cell 0
      have y1 : w15.cell? ⟨B4, 1, none⟩ = some (.bool q41) := hkx.cell 1
      have y2 : w15.cell? ⟨B4, 2, none⟩ = some (.bool q42) := hkx.cell 2
      have y3 : w15.cell? ⟨B4, 3, none⟩ = some (.bool q43) := hkx.cell 3
      have y4 : w15.cell? ⟨B4, 4, none⟩ = some (.bool q44) := hkx.cell 4
      have y5 : w15.cell? ⟨B4, 5, none⟩ = some (.bool ng4) := hkx.cell 5
      have y6 : w15.cell? ⟨B4, 6, none⟩ = some (.slice p4 l4 c4) := hkx.cell 6
      clear hkx
      go_wp2_with fail
      refine (HRJ2.out _ _ _ _ _ _ _ _ _ HN4.out HN4.out).mono ?_; rintro e w16 ⟨ng5, p5, l5, c5, rfl, hN, hb16⟩
      clear y0 y1 y2 y3 y4 y5 y6
      clear HRJ2 HK4 HN4
      have HGB5 : Hid (g < w16.heap.size) := Lib.hid (Nat.lt_of_lt_of_le HS1.out.lt hb16.size)
      obtain ⟨hk, hbk⟩ := put_box w16 q50 q51 q52 q53 q54 ng5 p5 l5 c5
      have HK5 := Lib.hid hk
      have HBX := Lib.hid (HB.out.trans (hb16.mono HB.out.size))
      clear HB
      have HB := Lib.hid (HBX.out.trans (hbk.mono HBX.out.size))
      have HN5 := Lib.hid (hN.below hbk (Nat.le_refl _))
      replace HS1 := Lib.hid ((HS1.out.below hb16 (Nat.le_refl _)).below hbk (Nat.le_refl _))
      clear hk hbk hb16 hN HBX
      go_upto_region 16 with fail
      generalize (w16.alloc (.cells #[.bool q50, .bool q51, .bool q52, .bool q53, .bool q54, .bool ng5, .slice p5 l5 c5] 30)) = w17 at *
      generalize w16.heap.size = B5 at *
      go_wp2_with fail
      refine (HJ2.out _ HS1.out HS1.out).mono ?_; rintro e w18 ⟨rfl, hs, hbt⟩
      clear HJ2
      replace HB := Lib.hid (HB.out.trans (hbt.below HWG.out HB.out.size))
      replace HK5 := Lib.hid (hbt.blk HK5.out (by have := HGB5.out; omega))
      replace HN5 := Lib.hid (HN5.out.sum HS1.out hbt)
      replace HS1 := Lib.hid hs
      clear hs hbt
      have hkx := HK5.out
      have y0 : w18.cell? ⟨B5, 0, none⟩ = some (.bool q50) := hkx.cell 0
      have y1 : w18.cell? ⟨B5, 1, none⟩ = some (.bool q51) := hkx.cell 1
      have y2 : w18.cell? ⟨B5, 2, none⟩ = some (.bool q52) := hkx.cell 2
      have y3 : w18.cell? ⟨B5, 3, none⟩ = some (.bool q53) := hkx.cell 3
      have y4 : w18.cell? ⟨B5, 4, none⟩ = some (.bool q54) := hkx.cell 4
      have y5 : w18.cell? ⟨B5, 5, none⟩ = some (.bool ng5) := hkx.cell 5
      have y6 : w18.cell? ⟨B5, 6, none⟩ = some (.slice p5 l5 c5) := hkx.cell 6
      clear hkx
      go_wp2_with fail
      refine (HIS5.out _ _ _ _ _ HS1.out HN5.out).mono ?_; rintro e w19 ⟨rfl, hb19⟩
      clear y0 y1 y2 y3 y4 y5 y6
      clear HIS5 HK5 HN5 HS1
      replace HB := Lib.hid (HB.out.trans (hb19.mono HB.out.size))
      clear hb19
      go_wp2_with fail
      refine (awake_ex _).mono ?_; rintro e w20 ⟨rfl, hb20⟩
      replace HB := Lib.hid (HB.out.trans (hb20.mono HB.out.size))
      clear hb20
      go_wp2_with fail
      go_ret
      exact ⟨rfl, HB.out⟩
    · have hL1 : ((L : Int) != 0) = true := by
        have : L ≠ 0 := fun e => hl0 (by rw [HL.out, e])
        simp; omega
      have HS1 := Lib.hid hs1
      clear hk0 hl0 hs1 hg HD1 HD2 HAP HAP2 HZ1 HZ2 HQ1 HQ2 HK1 HK2 HN1 HN2
      go_wp2_with fail
      refine (join_bad2 _ g (bOf bs) (zOf bs) (.pointer none) HS1.out (.inl rfl)).mono ?_; rintro e w7 ⟨rfl, hb7⟩
      replace HB := Lib.hid (HB.out.trans (hb7.mono HB.out.size))
      clear hb7 HS1
      go_wp2_with fail
      refine (awake_ex _).mono ?_; rintro e w8 ⟨rfl, hb8⟩
      replace HB := Lib.hid (HB.out.trans (hb8.mono HB.out.size))
      clear hb8
      go_wp2_with fail
      go_ret
      exact ⟨rfl, HB.out⟩
  · have hK1 : ((K : Int) != 0) = true := by
      have : K ≠ 0 := fun e => hk0 (by rw [HK.out, e])
      simp; omega
    clear hk0 HD1 HD2 HAP HAP2 HZ1 HZ2 HQ1 HQ2 HK1 HK2 HN1 HN2
    go_wp2_with fail
    refine (join_bad1 _ (.pointer none) v2 (.inl rfl)).mono ?_; rintro e w7 ⟨rfl, hb7⟩
    replace HB := Lib.hid (HB.out.trans (hb7.mono HB.out.size))
    clear hb7
    go_wp2_with fail
    refine (awake_ex _).mono ?_; rintro e w8 ⟨rfl, hb8⟩
    replace HB := Lib.hid (HB.out.trans (hb8.mono HB.out.size))
    clear hb8
    go_wp2_with fail
    go_ret
    exact ⟨rfl, HB.out⟩
end Go.Proofs.Ytgdddpbdcdheeaa
