/- The walk of the law ExactSums. No conditions. -/
import Derived.Test.YtgdddpbdcdheeaaExU
namespace Go.Proofs.Ytgdddpbdcdheeaa
open Go.RowKit Ieee

set_option maxRecDepth 100000 in
set_option maxHeartbeats 4000000 in
theorem walk_exsums (a : Option Addr) (n c : Nat) (zs : List Nat) (w : World) (hA : IsFloats w a n c zs) :
    Calls Try.prog 3 #[.slice a n c] w fun e w' => e = .returned (.bool true) ∧ Below w.heap.size w w' := by
  obtain ⟨hlen, hcap, hmax, hw⟩ := hA.len
  have hn : n ≤ 9223372036854775807 := by unfold maxLen at hmax; omega
  by_cases hl : n ≤ 40
  · have t1 : decide ((40 : Int) < (n : Int)) = false := by simp; omega
    have HFR := Lib.hid hA.frow
    have HLEN := Lib.hid hlen
    have HW := Lib.hid hw
    have HL := Lib.hid hl
    clear hA hlen hw hmax hl hcap
    go_enter Try.func3, Try.ntmps3
    go_wp2_with fail
    refine (sumnew_at _).mono ?_; rintro e w1 ⟨g, rfl, hs1, hb1, hg1⟩
    have hbk := Blk.new w1 30 #[.bool false, .bool false, .bool false, .bool false, .bool false, .bool false, .slice none 0 0]
    have hbw : Below w1.heap.size w1 (w1.alloc (.cells #[.bool false, .bool false, .bool false, .bool false, .bool false, .bool false, .slice none 0 0] 30)) := (Below.refl _ _).alloc (Nat.le_refl _) _
    have HG : Hid (w.heap.size ≤ g ∧ w.heap.size ≤ w1.heap.size ∧ g ≠ w1.heap.size) := Lib.hid ⟨hg1, hb1.size, Nat.ne_of_lt hs1.lt⟩
    have HS1 := Lib.hid (hs1.below hbw (Nat.le_refl _))
    have HB1 := Lib.hid (hb1.trans (hbw.mono hb1.size))
    have HF1 := Lib.hid (HFR.out.below HB1.out (Nat.le_refl _))
    have HK1 := Lib.hid hbk
    go_upto_region 5 with fail
    generalize (w1.alloc (.cells #[.bool false, .bool false, .bool false, .bool false, .bool false, .bool false, .slice none 0 0] 30)) = w2 at *
    generalize w1.heap.size = B at *
    clear hs1 hb1 hbk hbw hg1
    go_wp2_with fail
    go_loopg [5] n (fun gg i wr => ∃ (k : Nat) (ng : Bool) (a2 : Option Addr) (l2 c2 : Nat), i = .int .i64 (k : Int) ∧ k + gg = n ∧ SumAt wr g (foldS (zs.take k)).1 (foldS (zs.take k)).2 ∧ Blk wr B 30 (rsCells (foldS (zs.take k)).1 ng a2 l2 c2) ∧ NumC wr ng a2 l2 c2 (foldS (zs.take k)).2 ∧ FRow wr a n c zs ∧ Below w.heap.size w wr)
    case atStart => exact ⟨0, false, none, 0, 0, rfl, by omega, HS1.out, HK1.out.to (show _ = rsCells 0 false none 0 0 from by simp [rsCells, fN, fU, fD, fM, fP]), NumC.zero, HF1.out, HB1.out⟩
    case round =>
      obtain ⟨k, ng, a2, l2, c2, rfl, hk, hs, hkb, hN, hr, hb⟩ := hrel
      have HB := Lib.hid hb
      have HK := Lib.hid hk
      have HS := Lib.hid hs
      have HNN := Lib.hid hN
      have HRR := Lib.hid hr
      clear hb HS1 HK1 HF1 HB1 HFR
      by_cases hlt : k < n
      · have hok : Okay (foldS (zs.take k)) := Okay.fold _ _ okay0
        obtain ⟨q0, q1, q2, q3, q4, hq⟩ : ∃ q0 q1 q2 q3 q4 : Bool, rsCells (foldS (zs.take k)).1 = fun ng a l c => #[.bool q0, .bool q1, .bool q2, .bool q3, .bool q4, .bool ng, .slice a l c] := ⟨_, _, _, _, _, rfl⟩
        have HQ := Lib.hid hq
        rw [hq] at hkb
        have x0 : wr.cell? ⟨B, 0, none⟩ = some (.bool q0) := hkb.cell 0
        have x1 : wr.cell? ⟨B, 1, none⟩ = some (.bool q1) := hkb.cell 1
        have x2 : wr.cell? ⟨B, 2, none⟩ = some (.bool q2) := hkb.cell 2
        have x3 : wr.cell? ⟨B, 3, none⟩ = some (.bool q3) := hkb.cell 3
        have x4 : wr.cell? ⟨B, 4, none⟩ = some (.bool q4) := hkb.cell 4
        have x5 : wr.cell? ⟨B, 5, none⟩ = some (.bool ng) := hkb.cell 5
        have x6 : wr.cell? ⟨B, 6, none⟩ = some (.slice a2 l2 c2) := hkb.cell 6
        have HKB := Lib.hid hkb
        obtain ⟨ba, oa, rfl, hba, cx⟩ := hr.lt hlt
        have hlk : k < zs.length := by have := HLEN.out; omega
        obtain ⟨x, hx⟩ : ∃ x, zs.getD k 0 = x := ⟨_, rfl⟩
        have hxw : x < 18446744073709551616 := by
          rw [← hx]
          exact HW.out _ (by simp [hlk])
        have hao := add_ok hlk (by have := HLEN.out; have := HL.out; omega)
        have hft := foldS_take hlk
        rw [hx] at cx hft hao
        have HADD : Hid (∀ w', Below wr.heap.size wr w' → Calls Try.prog 14 #[.agg #[.bool q0, .bool q1, .bool q2, .bool q3, .bool q4, .bool ng, .slice a2 l2 c2], .float .f64 x] w' (RRS (addF (foldS (zs.take k)).1 (foldS (zs.take k)).2 x) (addZ (foldS (zs.take k)).2 x) (addOk (foldS (zs.take k)).2 x) w')) := Lib.hid (fun w' hb' => by
          have h := rsadd_any w' (foldS (zs.take k)).1 x (foldS (zs.take k)).2 ng a2 l2 c2 (HNN.out.below hb' (Nat.le_refl _)) hok.2 hxw
          rw [HQ.out] at h
          exact h)
        have HADS : Hid (∀ w', SumAt w' g (foldS (zs.take k)).1 (foldS (zs.take k)).2 → Calls Try.prog 15 #[.pointer (some ⟨g, 0, none⟩), .float .f64 x] w' (RAdd g (foldS (zs.take k)).1 (foldS (zs.take k)).2 x w')) := Lib.hid (fun w' h => sumadd_any w' g _ _ x h hok.2 hok.1 hxw)
        have HFT := Lib.hid hft
        have HX := Lib.hid hx
        have HAO := Lib.hid hao
        have hki : (k : Int) < (n : Int) := by omega
        have hkd : decide (k < n) = true := by simpa using hlt
        have hg1 : 1 ≤ gk := by omega
        clear hs hN hr hkb hx hft hok hk hlk hxw hq hao
        go_wp2_with fail
        refine wp_regionN (fun w' => w'.cell? ⟨B, 0, none⟩ = some (.bool q0) ∧ w'.cell? ⟨B, 1, none⟩ = some (.bool q1) ∧ w'.cell? ⟨B, 2, none⟩ = some (.bool q2) ∧ w'.cell? ⟨B, 3, none⟩ = some (.bool q3) ∧ w'.cell? ⟨B, 4, none⟩ = some (.bool q4) ∧ w'.cell? ⟨B, 5, none⟩ = some (.bool ng) ∧ w'.cell? ⟨B, 6, none⟩ = some (.slice a2 l2 c2) ∧ w'.cell? ⟨ba, oa + k, none⟩ = some (.float .f64 x)) [7, 8, 9] (by kernel_rfl) (by exact ⟨x0, x1, x2, x3, x4, x5, x6, cx⟩) (fun hHeld => ?_)
        refine wpAnyN_take (i := 0) (oi := ⟨some 19, _, _, _, _, _⟩) (v := ?_) rfl (by kernel_rfl) (by kernel_rfl) (by kernel_rfl) (by kernel_rfl) (by kernel_rfl) (fun _ _ _ h => h) (Or.inl ⟨by rfl, ?_⟩) (by assumption) ?_
        rotate_left 1
        · (intro w hSw; (try dsimp only at hSw); go_simp; try with_reducible rfl)
        try simp only [Act.put, List.setIfInBounds_toArray, List.set_cons_zero, List.set_cons_succ]
        refine wpAnyN_take (i := 1) (oi := ⟨some 20, _, _, _, _, _⟩) (v := ?_) rfl (by kernel_rfl) (by kernel_rfl) (by kernel_rfl) (by kernel_rfl) (by kernel_rfl) (fun _ _ _ h => h) (Or.inl ⟨by rfl, ?_⟩) (by assumption) ?_
        rotate_left 1
        · (intro w hSw; (try dsimp only at hSw); go_simp; try with_reducible rfl)
        try simp only [Act.put, List.setIfInBounds_toArray, List.set_cons_zero, List.set_cons_succ]
        refine wpAnyN_take (i := 2) (oi := ⟨some 21, _, _, _, _, _⟩) (v := ?_) rfl (by kernel_rfl) (by kernel_rfl) (by kernel_rfl) (by kernel_rfl) (by kernel_rfl) (fun _ _ _ h => h) (Or.inl ⟨by rfl, ?_⟩) (by assumption) ?_
        rotate_left 1
        · (intro w hSw; (try dsimp only at hSw); go_simp; try with_reducible rfl)
        try simp only [Act.put, List.setIfInBounds_toArray, List.set_cons_zero, List.set_cons_succ]
        refine wpAnyN_take (i := 3) (oi := ⟨some 22, _, _, _, _, _⟩) (v := ?_) rfl (by kernel_rfl) (by kernel_rfl) (by kernel_rfl) (by kernel_rfl) (by kernel_rfl) (fun _ _ _ h => h) (Or.inl ⟨by rfl, ?_⟩) (by assumption) ?_
        rotate_left 1
        · (intro w hSw; (try dsimp only at hSw); go_simp; try with_reducible rfl)
        try simp only [Act.put, List.setIfInBounds_toArray, List.set_cons_zero, List.set_cons_succ]
        refine wpAnyN_take (i := 4) (oi := ⟨some 23, _, _, _, _, _⟩) (v := ?_) rfl (by kernel_rfl) (by kernel_rfl) (by kernel_rfl) (by kernel_rfl) (by kernel_rfl) (fun _ _ _ h => h) (Or.inl ⟨by rfl, ?_⟩) (by assumption) ?_
        rotate_left 1
        · (intro w hSw; (try dsimp only at hSw); go_simp; try with_reducible rfl)
        try simp only [Act.put, List.setIfInBounds_toArray, List.set_cons_zero, List.set_cons_succ]
        refine wpAnyN_one (i := 5) (o := ⟨some 24, _, _, _, _, _⟩) (by kernel_rfl) rfl (fun K hK => ?_)
        go_simp
        refine (HADD.out _ (Below.refl _ _).drew).mono ?_
        rintro e w2 ⟨n5, p5, l5, c5, rfl, hM6, hb5⟩
        replace hb5 : Below wr.heap.size wr w2 := ((Below.refl _ _).drew).trans (hb5.mono (by simp))
        obtain ⟨t0, t1, t2, t3, t4, hq2⟩ : ∃ t0 t1 t2 t3 t4 : Bool, rsCells (addF (foldS (zs.take k)).1 (foldS (zs.take k)).2 x) = fun ng a l c => #[.bool t0, .bool t1, .bool t2, .bool t3, .bool t4, .bool ng, .slice a l c] := ⟨_, _, _, _, _, rfl⟩
        rw [hq2]
        have HQ2 := Lib.hid hq2
        have hk2 := HKB.out.below hb5 HKB.out.lt
        have HS2 := Lib.hid (HS.out.below hb5 (Nat.le_refl _))
        have HRR2 := Lib.hid (HRR.out.below hb5 (Nat.le_refl _))
        have HB2 := Lib.hid (HB.out.trans (hb5.mono HB.out.size))
        have HM6 := Lib.hid hM6
        have x0' : w2.cell? ⟨B, 0, none⟩ = some (.bool q0) := hk2.cell 0
        have x1' : w2.cell? ⟨B, 1, none⟩ = some (.bool q1) := hk2.cell 1
        have x2' : w2.cell? ⟨B, 2, none⟩ = some (.bool q2) := hk2.cell 2
        have x3' : w2.cell? ⟨B, 3, none⟩ = some (.bool q3) := hk2.cell 3
        have x4' : w2.cell? ⟨B, 4, none⟩ = some (.bool q4) := hk2.cell 4
        have x5' : w2.cell? ⟨B, 5, none⟩ = some (.bool ng) := hk2.cell 5
        have x6' : w2.cell? ⟨B, 6, none⟩ = some (.slice a2 l2 c2) := hk2.cell 6
        have rf' : ∀ o, w2.frozen? ⟨B, o, none⟩ = false := fun o => hk2.frozen o
        have cx' : w2.cell? ⟨ba, oa + k, none⟩ = some (.float .f64 x) := by rw [(bcell hb5).1 _ _ hba]; exact cx
        have HKB2 := Lib.hid hk2
        clear hb5 hM6 hk2 hq2
        refine hK.out _ _ (by exact ⟨x0', x1', x2', x3', x4', x5', x6', cx'⟩) ?_
        clear hK K hHeld
        intro hHeld
        refine wpAnyN_take (i := 6) (oi := ⟨some 18, _, _, _, _, _⟩) (v := ?_) rfl (by kernel_rfl) (by kernel_rfl) (by kernel_rfl) (by kernel_rfl) (by kernel_rfl) (fun _ _ _ h => h) (Or.inl ⟨by rfl, ?_⟩) (by assumption) ?_
        rotate_left 1
        · (intro w hSw; (try dsimp only at hSw); go_simp; try with_reducible rfl)
        try simp only [Act.put, List.setIfInBounds_toArray, List.set_cons_zero, List.set_cons_succ]
        refine wpAnyN_free (i := 7) (oi := ⟨some 25, _, _, _, _, _⟩) (v := ?_) rfl (by kernel_rfl) (by kernel_rfl) (by kernel_rfl) (by kernel_rfl) (by kernel_rfl) (fun _ _ _ h => h) (Or.inl ⟨by rfl, ?_⟩) ?_
        rotate_left 1
        · (intro w hSw; clear hSw; go_simp; try with_reducible rfl)
        try simp only [Act.put, List.setIfInBounds_toArray, List.set_cons_zero, List.set_cons_succ]
        refine wpAnyN_free (i := 8) (oi := ⟨some 26, _, _, _, _, _⟩) (v := ?_) rfl (by kernel_rfl) (by kernel_rfl) (by kernel_rfl) (by kernel_rfl) (by kernel_rfl) (fun _ _ _ h => h) (Or.inl ⟨by rfl, ?_⟩) ?_
        rotate_left 1
        · (intro w hSw; clear hSw; go_simp; try with_reducible rfl)
        try simp only [Act.put, List.setIfInBounds_toArray, List.set_cons_zero, List.set_cons_succ]
        refine wpAnyN_late (i := 9) (o := ⟨none, _, _, _, _, _⟩) (by kernel_rfl) (by kernel_rfl) rfl (fun K hK => ?_)
        go_simp
        refine hK.out _ _ ?_
        clear hK K
        try simp only [Act.put, List.setIfInBounds_toArray, List.set_cons_zero, List.set_cons_succ]
        refine wpAnyN_end (by kernel_rfl) ?_
        have HSZ2 := Lib.hid (HS2.out.seven HKB2.out HG.out.2.2 (.bool t0) (.bool t1) (.bool t2) (.bool t3) (.bool t4) (.bool n5) (.slice p5 l5 c5))
        have HKZ := Lib.hid (Blk.seven HKB2.out t0 t1 t2 t3 t4 n5 p5 l5 c5)
        have HNZ := Lib.hid (NumC.seven HKB2.out HM6.out t0 t1 t2 t3 t4 n5 p5 l5 c5)
        have HRZ := Lib.hid (HRR2.out.seven HKB2.out t0 t1 t2 t3 t4 n5 p5 l5 c5)
        have HBZ := Lib.hid (below_set7 HB2.out HG.out.2.1 (.bool t0) (.bool t1) (.bool t2) (.bool t3) (.bool t4) (.bool n5) (.slice p5 l5 c5))
        generalize (((((((w2.setCell ⟨B, 0, none⟩ (.bool t0)).setCell ⟨B, 1, none⟩ (.bool t1)).setCell ⟨B, 2, none⟩ (.bool t2)).setCell ⟨B, 3, none⟩ (.bool t3)).setCell ⟨B, 4, none⟩ (.bool t4)).setCell ⟨B, 5, none⟩ (.bool n5)).setCell ⟨B, 6, none⟩ (.slice p5 l5 c5)) = wz at *
        have cz : wz.cell? ⟨ba, oa + k, none⟩ = some (.float .f64 x) := by
          obtain ⟨b', o', he, -, h4⟩ := HRZ.out.lt hlt
          cases he
          rw [h4, HX.out]
        clear x0' x1' x2' x3' x4' x5' x6' rf' cx' HKB2 HM6 HRR2 HB2 HS2 x0 x1 x2 x3 x4 x5 x6 cx hba hlt
        go_wp2_with fail
        refine (HADS.out _ HSZ2.out).mono ?_; rintro e w5 ⟨rfl, hA5, hB5⟩
        rw [HAO.out]
        have HS5 := Lib.hid hA5
        have HK5 := Lib.hid (hB5.blk HKZ.out HG.out.2.2.symm)
        have HN5 := Lib.hid (HNZ.out.sum HSZ2.out hB5)
        have HR5 := Lib.hid (HRZ.out.sum HSZ2.out hB5)
        have HB5 := Lib.hid (HBZ.out.trans (hB5.below HG.out.1 HBZ.out.size))
        clear hA5 hB5 cz HSZ2 HKZ HNZ HRZ HBZ
        go_wp2_with fail
        go_roundg (gk - 1)
        case measure => omega
        case rel => exact ⟨k + 1, n5, p5, l5, c5, by go_num, by have := HK.out; omega, by rw [HFT.out]; exact HS5.out, HK5.out.to (by rw [HFT.out]; exact (congrFun (congrFun (congrFun (congrFun HQ2.out n5) p5) l5) c5).symm), (by rw [HFT.out]; exact HN5.out), HR5.out, HB5.out⟩
      · have hkn : k = n := by omega
        have hkd : decide (k < n) = false := by simpa using hlt
        have htk : zs.take k = zs := List.take_of_length_le (by have := HLEN.out; omega)
        rw [htk] at hs hkb hN
        have HOK : Hid (Okay (foldS zs)) := Lib.hid (Okay.fold _ _ okay0)
        have HPL := Lib.hid (Plus.of zs)
        obtain ⟨b, hfb⟩ : ∃ b, (foldS zs).1 = b := ⟨_, rfl⟩
        obtain ⟨z, hfz⟩ : ∃ z, (foldS zs).2 = z := ⟨_, rfl⟩
        have HOK : Hid (b < 32 ∧ z.natAbs < ROOM) := Lib.hid (by rw [← hfb, ← hfz]; exact HOK.out)
        rw [hfb, hfz] at HPL
        rw [hfb] at hs hkb
        rw [hfz] at hs hN
        have HFB := Lib.hid hfb
        have HFZ := Lib.hid hfz
        have HS := Lib.hid hs
        have HKB := Lib.hid hkb
        have HN := Lib.hid hN
        clear hs hkb hN hr htk hkn hk hlt HNN hfb hfz HK
        go_wp2_with fail
        have hk : Blk wr.drew B 30 #[.bool (fN b), .bool (fU b), .bool (fD b), .bool (fM b), .bool (fP b), .bool ng, .slice a2 l2 c2] := HKB.out.drew
        have hs := HS.out.below ((Below.refl _ _).drew) (Nat.le_refl _)
        have hN := HN.out.below ((Below.refl _ _).drew) (Nat.le_refl _)
        have hR := HRR.out.below ((Below.refl _ _).drew) (Nat.le_refl _)
        have hB := HB.out.drew
        refine wp_regionN (fun w' => w'.cell? ⟨B, 0, none⟩ = some (.bool (fN b)) ∧ w'.cell? ⟨B, 1, none⟩ = some (.bool (fU b)) ∧ w'.cell? ⟨B, 2, none⟩ = some (.bool (fD b)) ∧ w'.cell? ⟨B, 3, none⟩ = some (.bool (fM b)) ∧ w'.cell? ⟨B, 4, none⟩ = some (.bool (fP b)) ∧ w'.cell? ⟨B, 5, none⟩ = some (.bool ng) ∧ w'.cell? ⟨B, 6, none⟩ = some (.slice a2 l2 c2)) [] (by kernel_rfl) (by exact ⟨hk.cell 0, hk.cell 1, hk.cell 2, hk.cell 3, hk.cell 4, hk.cell 5, hk.cell 6⟩) (fun hHeld => ?_)
        refine wpAnyN_take (i := 0) (oi := ⟨some 38, _, _, _, _, _⟩) (v := ?_) rfl (by kernel_rfl) (by kernel_rfl) (by kernel_rfl) (by kernel_rfl) (by kernel_rfl) (fun _ _ _ h => h) (Or.inl ⟨by rfl, ?_⟩) (by assumption) ?_
        rotate_left 1
        · (intro w hSw; (try dsimp only at hSw); go_simp; try with_reducible rfl)
        try simp only [Act.put, List.setIfInBounds_toArray, List.set_cons_zero, List.set_cons_succ]
        refine wpAnyN_take (i := 1) (oi := ⟨some 39, _, _, _, _, _⟩) (v := ?_) rfl (by kernel_rfl) (by kernel_rfl) (by kernel_rfl) (by kernel_rfl) (by kernel_rfl) (fun _ _ _ h => h) (Or.inl ⟨by rfl, ?_⟩) (by assumption) ?_
        rotate_left 1
        · (intro w hSw; (try dsimp only at hSw); go_simp; try with_reducible rfl)
        try simp only [Act.put, List.setIfInBounds_toArray, List.set_cons_zero, List.set_cons_succ]
        refine wpAnyN_one (i := 2) (o := ⟨some 40, _, _, _, _, _⟩) (by kernel_rfl) rfl (fun K hK => ?_)
        go_simp
        refine (is_any _ g b z ng a2 l2 c2 hs hN HOK.out.2 HOK.out.1 HPL.out).mono ?_
        rintro e w1 ⟨rfl, hbb⟩
        have hk := hk.below hbb hk.lt
        have hN := hN.below hbb (Nat.le_refl _)
        have hR := hR.below hbb (Nat.le_refl _)
        have hB := hB.trans (hbb.mono hB.size)
        clear hbb
        refine hK.out _ _ (by exact ⟨hk.cell 0, hk.cell 1, hk.cell 2, hk.cell 3, hk.cell 4, hk.cell 5, hk.cell 6⟩) ?_
        clear hK K hHeld
        intro hHeld
        try simp only [Act.put, List.setIfInBounds_toArray, List.set_cons_zero, List.set_cons_succ]
        refine wpAnyN_take (i := 3) (oi := ⟨some 41, _, _, _, _, _⟩) (v := ?_) rfl (by kernel_rfl) (by kernel_rfl) (by kernel_rfl) (by kernel_rfl) (by kernel_rfl) (fun _ _ _ h => h) (Or.inl ⟨by rfl, ?_⟩) (by assumption) ?_
        rotate_left 1
        · (intro w hSw; (try dsimp only at hSw); go_simp; try with_reducible rfl)
        try simp only [Act.put, List.setIfInBounds_toArray, List.set_cons_zero, List.set_cons_succ]
        refine wpAnyN_take (i := 4) (oi := ⟨some 42, _, _, _, _, _⟩) (v := ?_) rfl (by kernel_rfl) (by kernel_rfl) (by kernel_rfl) (by kernel_rfl) (by kernel_rfl) (fun _ _ _ h => h) (Or.inl ⟨by rfl, ?_⟩) (by assumption) ?_
        rotate_left 1
        · (intro w hSw; (try dsimp only at hSw); go_simp; try with_reducible rfl)
        try simp only [Act.put, List.setIfInBounds_toArray, List.set_cons_zero, List.set_cons_succ]
        refine wpAnyN_take (i := 6) (oi := ⟨some 44, _, _, _, _, _⟩) (v := ?_) rfl (by kernel_rfl) (by kernel_rfl) (by kernel_rfl) (by kernel_rfl) (by kernel_rfl) (fun _ _ _ h => h) (Or.inl ⟨by rfl, ?_⟩) (by assumption) ?_
        rotate_left 1
        · (intro w hSw; (try dsimp only at hSw); go_simp; try with_reducible rfl)
        try simp only [Act.put, List.setIfInBounds_toArray, List.set_cons_zero, List.set_cons_succ]
        refine wpAnyN_one (i := 5) (o := ⟨some 43, _, _, _, _, _⟩) (by kernel_rfl) rfl (fun K hK => ?_)
        go_simp
        refine (total_any _ a n c zs hR HW.out).mono ?_
        rintro e w2 ⟨v1, rfl, hv1, hbb⟩
        rw [HFB.out, HFZ.out] at hv1
        have hk := hk.below hbb hk.lt
        have hN := hN.below hbb (Nat.le_refl _)
        have hR := hR.below hbb (Nat.le_refl _)
        have hB := hB.trans (hbb.mono hB.size)
        clear hbb
        refine hK.out _ _ (by exact ⟨hk.cell 0, hk.cell 1, hk.cell 2, hk.cell 3, hk.cell 4, hk.cell 5, hk.cell 6⟩) ?_
        clear hK K hHeld
        intro hHeld
        try simp only [Act.put, List.setIfInBounds_toArray, List.set_cons_zero, List.set_cons_succ]
        refine wpAnyN_one (i := 7) (o := ⟨some 45, _, _, _, _, _⟩) (by kernel_rfl) rfl (fun K hK => ?_)
        go_simp
        refine (rsval_any _ b z ng a2 l2 c2 hN HOK.out.2 HOK.out.1 HPL.out).mono ?_
        rintro e w3 ⟨v2, rfl, hv2, hbb⟩
        have hk := hk.below hbb hk.lt
        have hN := hN.below hbb (Nat.le_refl _)
        have hR := hR.below hbb (Nat.le_refl _)
        have hB := hB.trans (hbb.mono hB.size)
        clear hbb
        refine hK.out _ _ (by exact ⟨hk.cell 0, hk.cell 1, hk.cell 2, hk.cell 3, hk.cell 4, hk.cell 5, hk.cell 6⟩) ?_
        clear hK K hHeld
        intro hHeld
        try simp only [Act.put, List.setIfInBounds_toArray, List.set_cons_zero, List.set_cons_succ]
        refine wpAnyN_one (i := 8) (o := ⟨some 46, _, _, _, _, _⟩) (by kernel_rfl) rfl (fun K hK => ?_)
        go_simp
        refine (rsame_key hv1.1 hv2.1 (hv1.one hv2) _).mono ?_
        rintro e w4 ⟨rfl, hbb⟩
        have hk := hk.below hbb hk.lt
        have hN := hN.below hbb (Nat.le_refl _)
        have hR := hR.below hbb (Nat.le_refl _)
        have hB := hB.trans (hbb.mono hB.size)
        clear hbb
        refine hK.out _ _ (by exact ⟨hk.cell 0, hk.cell 1, hk.cell 2, hk.cell 3, hk.cell 4, hk.cell 5, hk.cell 6⟩) ?_
        clear hK K hHeld
        intro hHeld
        try simp only [Act.put, List.setIfInBounds_toArray, List.set_cons_zero, List.set_cons_succ]
        refine wpAnyN_take (i := 9) (oi := ⟨some 47, _, _, _, _, _⟩) (v := ?_) rfl (by kernel_rfl) (by kernel_rfl) (by kernel_rfl) (by kernel_rfl) (by kernel_rfl) (fun _ _ _ h => h) (Or.inl ⟨by rfl, ?_⟩) (by assumption) ?_
        rotate_left 1
        · (intro w hSw; (try dsimp only at hSw); go_simp; try with_reducible rfl)
        try simp only [Act.put, List.setIfInBounds_toArray, List.set_cons_zero, List.set_cons_succ]
        refine wpAnyN_take (i := 10) (oi := ⟨some 48, _, _, _, _, _⟩) (v := ?_) rfl (by kernel_rfl) (by kernel_rfl) (by kernel_rfl) (by kernel_rfl) (by kernel_rfl) (fun _ _ _ h => h) (Or.inl ⟨by rfl, ?_⟩) (by assumption) ?_
        rotate_left 1
        · (intro w hSw; (try dsimp only at hSw); go_simp; try with_reducible rfl)
        try simp only [Act.put, List.setIfInBounds_toArray, List.set_cons_zero, List.set_cons_succ]
        refine wpAnyN_one (i := 11) (o := ⟨some 49, _, _, _, _, _⟩) (by kernel_rfl) rfl (fun K hK => ?_)
        go_simp
        refine (awake_ex _).mono ?_
        rintro e w5 ⟨rfl, hbb⟩
        have hk := hk.below hbb hk.lt
        have hN := hN.below hbb (Nat.le_refl _)
        have hR := hR.below hbb (Nat.le_refl _)
        have hB := hB.trans (hbb.mono hB.size)
        clear hbb
        refine hK.out _ _ (by exact ⟨hk.cell 0, hk.cell 1, hk.cell 2, hk.cell 3, hk.cell 4, hk.cell 5, hk.cell 6⟩) ?_
        clear hK K hHeld
        intro hHeld
        try simp only [Act.put, List.setIfInBounds_toArray, List.set_cons_zero, List.set_cons_succ]
        refine wpAnyN_take (i := 12) (oi := ⟨some 50, _, _, _, _, _⟩) (v := ?_) rfl (by kernel_rfl) (by kernel_rfl) (by kernel_rfl) (by kernel_rfl) (by kernel_rfl) (fun _ _ _ h => h) (Or.inl ⟨by rfl, ?_⟩) (by assumption) ?_
        rotate_left 1
        · (intro w hSw; (try dsimp only at hSw); go_simp; try with_reducible rfl)
        try simp only [Act.put, List.setIfInBounds_toArray, List.set_cons_zero, List.set_cons_succ]
        refine wpAnyN_take (i := 13) (oi := ⟨some 2, _, _, _, _, _⟩) (v := ?_) rfl (by kernel_rfl) (by kernel_rfl) (by kernel_rfl) (by kernel_rfl) (by kernel_rfl) (fun _ _ _ h => h) (Or.inl ⟨by rfl, ?_⟩) (by assumption) ?_
        rotate_left 1
        · (intro w hSw; (try dsimp only at hSw); go_simp; try with_reducible rfl)
        try simp only [Act.put, List.setIfInBounds_toArray, List.set_cons_zero, List.set_cons_succ]
        refine wpAnyN_end (by kernel_rfl) ?_
        go_wp2_with fail
        go_ret
        exact ⟨rfl, hB⟩
  · have t1 : decide ((40 : Int) < (n : Int)) = true := by simp; omega
    clear hA hlen hw hmax hl
    go_enter Try.func3, Try.ntmps3
    go_wp2_with fail
    refine (awake_ex _).mono ?_; rintro e w6 ⟨rfl, hb6⟩
    have HB6 := Lib.hid hb6
    clear hb6
    go_wp2_with fail
    go_ret
    exact ⟨rfl, HB6.out⟩
end Go.Proofs.Ytgdddpbdcdheeaa
