/- The walk of the law DeriveSame. Conditions: floats are 64 bits. -/
import Derived.Test.YtdbkgpakpadloaaDerF
import Derived.Test.YtdbkgpakpadloaaMReg
import Derived.Test.YtdbkgpakpadloaaOpnV
namespace Go.Proofs.Ytdbkgpakpadloaa
open Go.RowKit Ieee

set_option maxRecDepth 100000 in
set_option maxHeartbeats 4000000 in
theorem walk_dersame (r1 : Bool) (n1 : Int) (x1 : Nat) (r2 : Bool) (n2 : Int) (x2 : Nat) (w : World) (h1 : x1 < 18446744073709551616) (h2 : x2 < 18446744073709551616) :
    Calls Try.prog 3 #[.agg #[.bool r1, .int .i64 n1, .float .f64 x1], .agg #[.bool r2, .int .i64 n2, .float .f64 x2]] w fun e w' => e = .returned (.bool true) ∧ Below w.heap.size w w' := by
  obtain ⟨hbx, hby, hbw, hsz⟩ := two_pbox w 24 24 #[.bool r1, .int .i64 n1, .float .f64 x1] #[.bool r2, .int .i64 n2, .float .f64 x2]
  have HBW := Lib.hid hbw
  have HSZ := Lib.hid hsz
  have e0 := hbx 0
  have e1 := hbx 1
  have e2 := hbx 2
  have y0 := hby 0
  have y1 := hby 1
  have y2 := hby 2
  simp only [List.getElem?_toArray, List.getElem?_cons_zero, List.getElem?_cons_succ] at e0 e1 e2 y0 y1 y2
  have HE := Lib.hid (And.intro (And.intro e0 (And.intro e1 e2)) (And.intro y0 (And.intro y1 y2)))
  obtain ⟨B, hB⟩ : ∃ b, vSame r1 r2 n1 n2 x1 x2 = b := ⟨_, rfl⟩
  have HC1 := Lib.hid (fun w => dsame_any r1 r2 n1 n2 x1 x2 w h1 h2)
  have HC2 := Lib.hid (fun w => vsame_any r1 r2 n1 n2 x1 x2 w h1 h2)
  have HC3 := Lib.hid (fun w => dsame_any r1 r1 n1 n1 x1 x1 w h1 h1)
  rw [hB] at HC1 HC2
  rw [vSame_self] at HC3
  have hBB : (B == B) = true := by simp
  clear hbw hbx hby hsz e0 e1 e2 y0 y1 y2 h1 h2 hB
  go_enter Try.func3, Try.ntmps3
  go_upto_region 1 with fail
  generalize ((w.alloc (.cells #[.bool r1, .int .i64 n1, .float .f64 x1] 24)).alloc (.cells #[.bool r2, .int .i64 n2, .float .f64 x2] 24)) = w0 at *
  generalize hS : w.heap.size = s at *
  have HS := Lib.hid hS
  have HS0 : Hid (s < w0.heap.size ∧ s + 1 < w0.heap.size) := Lib.hid (by have := HSZ.out; omega)
  clear hS
  refine wp_regionN (fun w' => w'.cell? ⟨s, 0, none⟩ = some (.bool r1) ∧ w'.cell? ⟨s, 1, none⟩ = some (.int .i64 n1) ∧ w'.cell? ⟨s, 2, none⟩ = some (.float .f64 x1) ∧ w'.cell? ⟨s + 1, 0, none⟩ = some (.bool r2) ∧ w'.cell? ⟨s + 1, 1, none⟩ = some (.int .i64 n2) ∧ w'.cell? ⟨s + 1, 2, none⟩ = some (.float .f64 x2)) [] (by kernel_rfl) (by exact ⟨HE.out.1.1, HE.out.1.2.1, HE.out.1.2.2, HE.out.2.1, HE.out.2.2.1, HE.out.2.2.2⟩) (fun hHeld => ?_)
  refine wpAnyN_take (i := 0) (oi := ⟨some 5, _, _, _, _, _⟩) (v := ?_) rfl (by kernel_rfl) (by kernel_rfl) (by kernel_rfl) (by kernel_rfl) (by kernel_rfl) (fun _ _ _ h => h) (Or.inl ⟨by rfl, ?_⟩) (by assumption) ?_
  rotate_left 1
  · (intro w hSw; (try dsimp only at hSw); go_simp; try with_reducible rfl)
  try simp only [Act.put, List.setIfInBounds_toArray, List.set_cons_zero, List.set_cons_succ]
  refine wpAnyN_take (i := 1) (oi := ⟨some 6, _, _, _, _, _⟩) (v := ?_) rfl (by kernel_rfl) (by kernel_rfl) (by kernel_rfl) (by kernel_rfl) (by kernel_rfl) (fun _ _ _ h => h) (Or.inl ⟨by rfl, ?_⟩) (by assumption) ?_
  rotate_left 1
  · (intro w hSw; (try dsimp only at hSw); go_simp; try with_reducible rfl)
  try simp only [Act.put, List.setIfInBounds_toArray, List.set_cons_zero, List.set_cons_succ]
  refine wpAnyN_take (i := 3) (oi := ⟨some 8, _, _, _, _, _⟩) (v := ?_) rfl (by kernel_rfl) (by kernel_rfl) (by kernel_rfl) (by kernel_rfl) (by kernel_rfl) (fun _ _ _ h => h) (Or.inl ⟨by rfl, ?_⟩) (by assumption) ?_
  rotate_left 1
  · (intro w hSw; (try dsimp only at hSw); go_simp; try with_reducible rfl)
  try simp only [Act.put, List.setIfInBounds_toArray, List.set_cons_zero, List.set_cons_succ]
  refine wpAnyN_take (i := 4) (oi := ⟨some 9, _, _, _, _, _⟩) (v := ?_) rfl (by kernel_rfl) (by kernel_rfl) (by kernel_rfl) (by kernel_rfl) (by kernel_rfl) (fun _ _ _ h => h) (Or.inl ⟨by rfl, ?_⟩) (by assumption) ?_
  rotate_left 1
  · (intro w hSw; (try dsimp only at hSw); go_simp; try with_reducible rfl)
  try simp only [Act.put, List.setIfInBounds_toArray, List.set_cons_zero, List.set_cons_succ]
  refine wpAnyN_one (i := 2) (o := ⟨some 7, _, _, _, _, _⟩) (by kernel_rfl) rfl (fun K hK => ?_)
  go_simp
  refine (HC1.out _).mono ?_
  rintro e w2 ⟨rfl, hbb⟩
  have HB2 := Lib.hid (hbb)
  clear hbb
  refine hK.out _ _ (by exact ⟨by rw [HB2.out.cell (p := ⟨s, 0, none⟩) HS0.out.1]; exact HE.out.1.1, by rw [HB2.out.cell (p := ⟨s, 1, none⟩) HS0.out.1]; exact HE.out.1.2.1, by rw [HB2.out.cell (p := ⟨s, 2, none⟩) HS0.out.1]; exact HE.out.1.2.2, by rw [HB2.out.cell (p := ⟨s + 1, 0, none⟩) HS0.out.2]; exact HE.out.2.1, by rw [HB2.out.cell (p := ⟨s + 1, 1, none⟩) HS0.out.2]; exact HE.out.2.2.1, by rw [HB2.out.cell (p := ⟨s + 1, 2, none⟩) HS0.out.2]; exact HE.out.2.2.2⟩) ?_
  clear hK K hHeld
  intro hHeld
  try simp only [Act.put, List.setIfInBounds_toArray, List.set_cons_zero, List.set_cons_succ]
  refine wpAnyN_one (i := 5) (o := ⟨some 10, _, _, _, _, _⟩) (by kernel_rfl) rfl (fun K hK => ?_)
  go_simp
  refine (HC2.out _).mono ?_
  rintro e w3 ⟨rfl, hbb⟩
  have HB3 := Lib.hid (HB2.out.trans (hbb.mono HB2.out.size))
  clear hbb
  refine hK.out _ _ (by exact ⟨by rw [HB3.out.cell (p := ⟨s, 0, none⟩) HS0.out.1]; exact HE.out.1.1, by rw [HB3.out.cell (p := ⟨s, 1, none⟩) HS0.out.1]; exact HE.out.1.2.1, by rw [HB3.out.cell (p := ⟨s, 2, none⟩) HS0.out.1]; exact HE.out.1.2.2, by rw [HB3.out.cell (p := ⟨s + 1, 0, none⟩) HS0.out.2]; exact HE.out.2.1, by rw [HB3.out.cell (p := ⟨s + 1, 1, none⟩) HS0.out.2]; exact HE.out.2.2.1, by rw [HB3.out.cell (p := ⟨s + 1, 2, none⟩) HS0.out.2]; exact HE.out.2.2.2⟩) ?_
  clear hK K hHeld
  intro hHeld
  try simp only [Act.put, List.setIfInBounds_toArray, List.set_cons_zero, List.set_cons_succ]
  refine wpAnyN_take (i := 6) (oi := ⟨some 11, _, _, _, _, _⟩) (v := ?_) rfl (by kernel_rfl) (by kernel_rfl) (by kernel_rfl) (by kernel_rfl) (by kernel_rfl) (fun _ _ _ h => h) (Or.inl ⟨by rfl, ?_⟩) (by assumption) ?_
  rotate_left 1
  · (intro w hSw; (try dsimp only at hSw); go_simp; try with_reducible rfl)
  try simp only [Act.put, List.setIfInBounds_toArray, List.set_cons_zero, List.set_cons_succ]
  refine wpAnyN_take (i := 7) (oi := ⟨some 12, _, _, _, _, _⟩) (v := ?_) rfl (by kernel_rfl) (by kernel_rfl) (by kernel_rfl) (by kernel_rfl) (by kernel_rfl) (fun _ _ _ h => h) (Or.inl ⟨by rfl, ?_⟩) (by assumption) ?_
  rotate_left 1
  · (intro w hSw; (try dsimp only at hSw); go_simp; try with_reducible rfl)
  try simp only [Act.put, List.setIfInBounds_toArray, List.set_cons_zero, List.set_cons_succ]
  refine wpAnyN_take (i := 8) (oi := ⟨some 13, _, _, _, _, _⟩) (v := ?_) rfl (by kernel_rfl) (by kernel_rfl) (by kernel_rfl) (by kernel_rfl) (by kernel_rfl) (fun _ _ _ h => h) (Or.inl ⟨by rfl, ?_⟩) (by assumption) ?_
  rotate_left 1
  · (intro w hSw; (try dsimp only at hSw); go_simp; try with_reducible rfl)
  try simp only [Act.put, List.setIfInBounds_toArray, List.set_cons_zero, List.set_cons_succ]
  refine wpAnyN_take (i := 9) (oi := ⟨some 14, _, _, _, _, _⟩) (v := ?_) rfl (by kernel_rfl) (by kernel_rfl) (by kernel_rfl) (by kernel_rfl) (by kernel_rfl) (fun _ _ _ h => h) (Or.inl ⟨by rfl, ?_⟩) (by assumption) ?_
  rotate_left 1
  · (intro w hSw; (try dsimp only at hSw); go_simp; try with_reducible rfl)
  try simp only [Act.put, List.setIfInBounds_toArray, List.set_cons_zero, List.set_cons_succ]
  refine wpAnyN_one (i := 10) (o := ⟨some 15, _, _, _, _, _⟩) (by kernel_rfl) rfl (fun K hK => ?_)
  go_simp
  refine (HC3.out _).mono ?_
  rintro e w4 ⟨rfl, hbb⟩
  have HB4 := Lib.hid (HB3.out.trans (hbb.mono HB3.out.size))
  clear hbb
  refine hK.out _ _ (by exact ⟨by rw [HB4.out.cell (p := ⟨s, 0, none⟩) HS0.out.1]; exact HE.out.1.1, by rw [HB4.out.cell (p := ⟨s, 1, none⟩) HS0.out.1]; exact HE.out.1.2.1, by rw [HB4.out.cell (p := ⟨s, 2, none⟩) HS0.out.1]; exact HE.out.1.2.2, by rw [HB4.out.cell (p := ⟨s + 1, 0, none⟩) HS0.out.2]; exact HE.out.2.1, by rw [HB4.out.cell (p := ⟨s + 1, 1, none⟩) HS0.out.2]; exact HE.out.2.2.1, by rw [HB4.out.cell (p := ⟨s + 1, 2, none⟩) HS0.out.2]; exact HE.out.2.2.2⟩) ?_
  clear hK K hHeld
  intro hHeld
  try simp only [Act.put, List.setIfInBounds_toArray, List.set_cons_zero, List.set_cons_succ]
  refine wpAnyN_take (i := 11) (oi := ⟨some 16, _, _, _, _, _⟩) (v := ?_) rfl (by kernel_rfl) (by kernel_rfl) (by kernel_rfl) (by kernel_rfl) (by kernel_rfl) (fun _ _ _ h => h) (Or.inl ⟨by rfl, ?_⟩) (by assumption) ?_
  rotate_left 1
  · (intro w hSw; (try dsimp only at hSw); go_simp; try with_reducible rfl)
  try simp only [Act.put, List.setIfInBounds_toArray, List.set_cons_zero, List.set_cons_succ]
  refine wpAnyN_take (i := 12) (oi := ⟨some 17, _, _, _, _, _⟩) (v := ?_) rfl (by kernel_rfl) (by kernel_rfl) (by kernel_rfl) (by kernel_rfl) (by kernel_rfl) (fun _ _ _ h => h) (Or.inl ⟨by rfl, ?_⟩) (by assumption) ?_
  rotate_left 1
  · (intro w hSw; (try dsimp only at hSw); go_simp; try with_reducible rfl)
  try simp only [Act.put, List.setIfInBounds_toArray, List.set_cons_zero, List.set_cons_succ]
  refine wpAnyN_one (i := 13) (o := ⟨some 18, _, _, _, _, _⟩) (by kernel_rfl) rfl (fun K hK => ?_)
  go_simp
  refine (awake_der _).mono ?_
  rintro e w5 ⟨rfl, hbb⟩
  have HB5 := Lib.hid (HB4.out.trans (hbb.mono HB4.out.size))
  clear hbb
  refine hK.out _ _ (by exact ⟨by rw [HB5.out.cell (p := ⟨s, 0, none⟩) HS0.out.1]; exact HE.out.1.1, by rw [HB5.out.cell (p := ⟨s, 1, none⟩) HS0.out.1]; exact HE.out.1.2.1, by rw [HB5.out.cell (p := ⟨s, 2, none⟩) HS0.out.1]; exact HE.out.1.2.2, by rw [HB5.out.cell (p := ⟨s + 1, 0, none⟩) HS0.out.2]; exact HE.out.2.1, by rw [HB5.out.cell (p := ⟨s + 1, 1, none⟩) HS0.out.2]; exact HE.out.2.2.1, by rw [HB5.out.cell (p := ⟨s + 1, 2, none⟩) HS0.out.2]; exact HE.out.2.2.2⟩) ?_
  clear hK K hHeld
  intro hHeld
  try simp only [Act.put, List.setIfInBounds_toArray, List.set_cons_zero, List.set_cons_succ]
  refine wpAnyN_take (i := 14) (oi := ⟨some 19, _, _, _, _, _⟩) (v := ?_) rfl (by kernel_rfl) (by kernel_rfl) (by kernel_rfl) (by kernel_rfl) (by kernel_rfl) (fun _ _ _ h => h) (Or.inl ⟨by rfl, ?_⟩) (by assumption) ?_
  rotate_left 1
  · (intro w hSw; (try dsimp only at hSw); go_simp; try with_reducible rfl)
  try simp only [Act.put, List.setIfInBounds_toArray, List.set_cons_zero, List.set_cons_succ]
  refine wpAnyN_take (i := 15) (oi := ⟨some 4, _, _, _, _, _⟩) (v := ?_) rfl (by kernel_rfl) (by kernel_rfl) (by kernel_rfl) (by kernel_rfl) (by kernel_rfl) (fun _ _ _ h => h) (Or.inl ⟨by rfl, ?_⟩) (by assumption) ?_
  rotate_left 1
  · (intro w hSw; (try dsimp only at hSw); go_simp; try with_reducible rfl)
  try simp only [Act.put, List.setIfInBounds_toArray, List.set_cons_zero, List.set_cons_succ]
  refine wpAnyN_end (by kernel_rfl) ?_
  go_wp2_with fail
  go_ret
  exact ⟨rfl, by rw [HS.out]; exact HBW.out.drew.trans (HB5.out.mono (Nat.le_of_lt HS0.out.1))⟩
end Go.Proofs.Ytdbkgpakpadloaa
