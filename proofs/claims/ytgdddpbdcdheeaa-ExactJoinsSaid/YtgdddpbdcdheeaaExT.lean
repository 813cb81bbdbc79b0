/- Contract of bushellaw05's is: a sum tells what the reference's sum of the same value tells. Conditions: below 2^2240 units; units come with their flag. -/
import Derived.Test.YtgdddpbdcdheeaaExS
import Derived.Test.YtgdddpbdcdheeaaExM
namespace Go.Proofs.Ytgdddpbdcdheeaa
open Go.RowKit Ieee

theorem rsbytes_any (w : World) (b : Nat) (z : Int) (ng : Bool) (a : Option Addr) (l c : Nat) (hN : NumC w ng a l c z) (hz : z.natAbs < ROOM) (hb : b < 32) :
    Calls Try.prog 52 #[.agg (rsCells b ng a l c)] w (RBytes b z w) :=
  rsbytes_b w b z _ _ _ _ _ ng a l c hN hz hb rfl rfl rfl rfl rfl

set_option maxRecDepth 100000 in
set_option maxHeartbeats 2000000 in
theorem is_any (w : World) (g b : Nat) (z : Int) (ng : Bool) (a : Option Addr) (l c : Nat) (hs : SumAt w g b z) (hN : NumC w ng a l c z) (hz : z.natAbs < ROOM) (hb : b < 32) (hp : Plus b z) :
    Calls Try.prog 16 #[.pointer (some ⟨g, 0, none⟩), .agg (rsCells b ng a l c)] w fun e w' => e = .returned (.bool true) ∧ Below w.heap.size w w' := by
  obtain ⟨hk, hbw⟩ := one_box w 30 (rsCells b ng a l c)
  have HS := Lib.hid (hs.below hbw (Nat.le_refl _))
  have HN := Lib.hid (hN.below hbw (Nat.le_refl _))
  have HB := Lib.hid hbw
  have HZ := Lib.hid hz
  have HP := Lib.hid hp
  have HBB := Lib.hid hb
  clear hs hN hz hp hb hbw
  go_enter Try.func16, Try.ntmps16
  go_upto_region 1 with fail
  have hk : Blk (w.alloc (.cells (rsCells b ng a l c) 30)) w.heap.size 30 #[.bool (fN b), .bool (fU b), .bool (fD b), .bool (fM b), .bool (fP b), .bool ng, .slice a l c] := hk
  generalize hwx : (w.alloc (.cells (rsCells b ng a l c) 30)) = wx at *
  generalize hsz : w.heap.size = s at *
  have HSZ := Lib.hid hsz
  clear hwx hsz
  replace hk := hk.drew
  have hs := HS.out.below ((Below.refl _ _).drew) (Nat.le_refl _)
  have hN := HN.out.below ((Below.refl _ _).drew) (Nat.le_refl _)
  have hB := HB.out.drew
  have hz := HZ.out
  have hb := HBB.out
  have hp := HP.out
  clear HS HN HB HZ HBB HP
  refine wp_regionN (fun w' => w'.cell? ⟨s, 0, none⟩ = some (.bool (fN b)) ∧ w'.cell? ⟨s, 1, none⟩ = some (.bool (fU b)) ∧ w'.cell? ⟨s, 2, none⟩ = some (.bool (fD b)) ∧ w'.cell? ⟨s, 3, none⟩ = some (.bool (fM b)) ∧ w'.cell? ⟨s, 4, none⟩ = some (.bool (fP b)) ∧ w'.cell? ⟨s, 5, none⟩ = some (.bool ng) ∧ w'.cell? ⟨s, 6, none⟩ = some (.slice a l c)) [] (by kernel_rfl) (by exact ⟨hk.cell 0, hk.cell 1, hk.cell 2, hk.cell 3, hk.cell 4, hk.cell 5, hk.cell 6⟩) (fun hHeld => ?_)
  refine wpAnyN_take (i := 0) (oi := ⟨some 5, _, _, _, _, _⟩) (v := ?_) rfl (by kernel_rfl) (by kernel_rfl) (by kernel_rfl) (by kernel_rfl) (by kernel_rfl) (fun _ _ _ h => h) (Or.inl ⟨by rfl, ?_⟩) (by assumption) ?_
  rotate_left 1
  · (intro w hSw; (try dsimp only at hSw); go_simp; try with_reducible rfl)
  try simp only [Act.put, List.setIfInBounds_toArray, List.set_cons_zero, List.set_cons_succ]
  refine wpAnyN_take (i := 1) (oi := ⟨some 6, _, _, _, _, _⟩) (v := ?_) rfl (by kernel_rfl) (by kernel_rfl) (by kernel_rfl) (by kernel_rfl) (by kernel_rfl) (fun _ _ _ h => h) (Or.inl ⟨by rfl, ?_⟩) (by assumption) ?_
  rotate_left 1
  · (intro w hSw; (try dsimp only at hSw); go_simp; try with_reducible rfl)
  try simp only [Act.put, List.setIfInBounds_toArray, List.set_cons_zero, List.set_cons_succ]
  refine wpAnyN_take (i := 2) (oi := ⟨some 7, _, _, _, _, _⟩) (v := ?_) rfl (by kernel_rfl) (by kernel_rfl) (by kernel_rfl) (by kernel_rfl) (by kernel_rfl) (fun _ _ _ h => h) (Or.inl ⟨by rfl, ?_⟩) (by assumption) ?_
  rotate_left 1
  · (intro w hSw; (try dsimp only at hSw); go_simp; try with_reducible rfl)
  try simp only [Act.put, List.setIfInBounds_toArray, List.set_cons_zero, List.set_cons_succ]
  refine wpAnyN_take (i := 3) (oi := ⟨some 8, _, _, _, _, _⟩) (v := ?_) rfl (by kernel_rfl) (by kernel_rfl) (by kernel_rfl) (by kernel_rfl) (by kernel_rfl) (fun _ _ _ h => h) (Or.inl ⟨by rfl, ?_⟩) (by assumption) ?_
  rotate_left 1
  · (intro w hSw; (try dsimp only at hSw); go_simp; try with_reducible rfl)
  try simp only [Act.put, List.setIfInBounds_toArray, List.set_cons_zero, List.set_cons_succ]
  refine wpAnyN_take (i := 5) (oi := ⟨some 10, _, _, _, _, _⟩) (v := ?_) rfl (by kernel_rfl) (by kernel_rfl) (by kernel_rfl) (by kernel_rfl) (by kernel_rfl) (fun _ _ _ h => h) (Or.inl ⟨by rfl, ?_⟩) (by assumption) ?_
  rotate_left 1
  · (intro w hSw; (try dsimp only at hSw); go_simp; try with_reducible rfl)
  try simp only [Act.put, List.setIfInBounds_toArray, List.set_cons_zero, List.set_cons_succ]
  refine wpAnyN_one (i := 4) (o := ⟨some 9, _, _, _, _, _⟩) (by kernel_rfl) rfl (fun K hK => ?_)
  go_simp
  refine (sumval_any _ g b z hs hz hb).mono ?_
  rintro e w1 ⟨v1, rfl, hv1, hbb⟩
  have hk := hk.below hbb hk.lt
  have hs := hs.below hbb (Nat.le_refl _)
  have hN := hN.below hbb (Nat.le_refl _)
  have hB := hB.trans (hbb.mono (Nat.le_trans (Nat.le_of_eq HSZ.out.symm) hB.size))
  clear hbb
  refine hK.out _ _ (by exact ⟨hk.cell 0, hk.cell 1, hk.cell 2, hk.cell 3, hk.cell 4, hk.cell 5, hk.cell 6⟩) ?_
  clear hK K hHeld
  intro hHeld
  try simp only [Act.put, List.setIfInBounds_toArray, List.set_cons_zero, List.set_cons_succ]
  refine wpAnyN_one (i := 6) (o := ⟨some 11, _, _, _, _, _⟩) (by kernel_rfl) rfl (fun K hK => ?_)
  go_simp
  refine (rsval_any _ b z ng a l c hN hz hb hp).mono ?_
  rintro e w2 ⟨v2, rfl, hv2, hbb⟩
  have hk := hk.below hbb hk.lt
  have hs := hs.below hbb (Nat.le_refl _)
  have hN := hN.below hbb (Nat.le_refl _)
  have hB := hB.trans (hbb.mono (Nat.le_trans (Nat.le_of_eq HSZ.out.symm) hB.size))
  clear hbb
  refine hK.out _ _ (by exact ⟨hk.cell 0, hk.cell 1, hk.cell 2, hk.cell 3, hk.cell 4, hk.cell 5, hk.cell 6⟩) ?_
  clear hK K hHeld
  intro hHeld
  try simp only [Act.put, List.setIfInBounds_toArray, List.set_cons_zero, List.set_cons_succ]
  refine wpAnyN_one (i := 7) (o := ⟨some 12, _, _, _, _, _⟩) (by kernel_rfl) rfl (fun K hK => ?_)
  go_simp
  refine (rsame_key hv1.1 hv2.1 (hv1.one hv2) _).mono ?_
  rintro e w3 ⟨rfl, hbb⟩
  have hk := hk.below hbb hk.lt
  have hs := hs.below hbb (Nat.le_refl _)
  have hN := hN.below hbb (Nat.le_refl _)
  have hB := hB.trans (hbb.mono (Nat.le_trans (Nat.le_of_eq HSZ.out.symm) hB.size))
  clear hbb hv1 hv2
  refine hK.out _ _ (by exact ⟨hk.cell 0, hk.cell 1, hk.cell 2, hk.cell 3, hk.cell 4, hk.cell 5, hk.cell 6⟩) ?_
  clear hK K hHeld
  intro hHeld
  try simp only [Act.put, List.setIfInBounds_toArray, List.set_cons_zero, List.set_cons_succ]
  refine wpAnyN_take (i := 8) (oi := ⟨some 13, _, _, _, _, _⟩) (v := ?_) rfl (by kernel_rfl) (by kernel_rfl) (by kernel_rfl) (by kernel_rfl) (by kernel_rfl) (fun _ _ _ h => h) (Or.inl ⟨by rfl, ?_⟩) (by assumption) ?_
  rotate_left 1
  · (intro w hSw; (try dsimp only at hSw); go_simp; try with_reducible rfl)
  try simp only [Act.put, List.setIfInBounds_toArray, List.set_cons_zero, List.set_cons_succ]
  refine wpAnyN_take (i := 9) (oi := ⟨some 14, _, _, _, _, _⟩) (v := ?_) rfl (by kernel_rfl) (by kernel_rfl) (by kernel_rfl) (by kernel_rfl) (by kernel_rfl) (fun _ _ _ h => h) (Or.inl ⟨by rfl, ?_⟩) (by assumption) ?_
  rotate_left 1
  · (intro w hSw; (try dsimp only at hSw); go_simp; try with_reducible rfl)
  try simp only [Act.put, List.setIfInBounds_toArray, List.set_cons_zero, List.set_cons_succ]
  refine wpAnyN_take (i := 10) (oi := ⟨some 15, _, _, _, _, _⟩) (v := ?_) rfl (by kernel_rfl) (by kernel_rfl) (by kernel_rfl) (by kernel_rfl) (by kernel_rfl) (fun _ _ _ h => h) (Or.inl ⟨by rfl, ?_⟩) (by assumption) ?_
  rotate_left 1
  · (intro w hSw; (try dsimp only at hSw); go_simp; try with_reducible rfl)
  try simp only [Act.put, List.setIfInBounds_toArray, List.set_cons_zero, List.set_cons_succ]
  refine wpAnyN_take (i := 13) (oi := ⟨some 18, _, _, _, _, _⟩) (v := ?_) rfl (by kernel_rfl) (by kernel_rfl) (by kernel_rfl) (by kernel_rfl) (by kernel_rfl) (fun _ _ _ h => h) (Or.inl ⟨by rfl, ?_⟩) (by assumption) ?_
  rotate_left 1
  · (intro w hSw; (try dsimp only at hSw); go_simp; try with_reducible rfl)
  try simp only [Act.put, List.setIfInBounds_toArray, List.set_cons_zero, List.set_cons_succ]
  refine wpAnyN_one (i := 11) (o := ⟨some 16, _, _, _, _, _⟩) (by kernel_rfl) rfl (fun K hK => ?_)
  go_simp
  refine (sumbytes_any _ g b z hs hz hb).mono ?_
  rintro e w4 ⟨a1, n1, c1, bs, rfl, hr1, hbs, hbb, -⟩
  have hk := hk.below hbb hk.lt
  have hs := hs.below hbb (Nat.le_refl _)
  have hN := hN.below hbb (Nat.le_refl _)
  have hB := hB.trans (hbb.mono (Nat.le_trans (Nat.le_of_eq HSZ.out.symm) hB.size))
  clear hbb
  have R1 := BRow.mk hr1 hbs
  refine hK.out _ _ (by exact ⟨hk.cell 0, hk.cell 1, hk.cell 2, hk.cell 3, hk.cell 4, hk.cell 5, hk.cell 6⟩) ?_
  clear hK K hHeld
  intro hHeld
  try simp only [Act.put, List.setIfInBounds_toArray, List.set_cons_zero, List.set_cons_succ]
  clear hHeld
  refine wpAnyN_mono (S' := fun w' => BRow w' a1 n1 c1 bs ∧ w'.cell? ⟨s, 0, none⟩ = some (.bool (fN b)) ∧ w'.cell? ⟨s, 1, none⟩ = some (.bool (fU b)) ∧ w'.cell? ⟨s, 2, none⟩ = some (.bool (fD b)) ∧ w'.cell? ⟨s, 3, none⟩ = some (.bool (fM b)) ∧ w'.cell? ⟨s, 4, none⟩ = some (.bool (fP b)) ∧ w'.cell? ⟨s, 5, none⟩ = some (.bool ng) ∧ w'.cell? ⟨s, 6, none⟩ = some (.slice a l c)) (fun _ h => h.2) ?_
  have hHeld : (fun w' => BRow w' a1 n1 c1 bs ∧ w'.cell? ⟨s, 0, none⟩ = some (.bool (fN b)) ∧ w'.cell? ⟨s, 1, none⟩ = some (.bool (fU b)) ∧ w'.cell? ⟨s, 2, none⟩ = some (.bool (fD b)) ∧ w'.cell? ⟨s, 3, none⟩ = some (.bool (fM b)) ∧ w'.cell? ⟨s, 4, none⟩ = some (.bool (fP b)) ∧ w'.cell? ⟨s, 5, none⟩ = some (.bool ng) ∧ w'.cell? ⟨s, 6, none⟩ = some (.slice a l c)) w4 := ⟨R1, hk.cell 0, hk.cell 1, hk.cell 2, hk.cell 3, hk.cell 4, hk.cell 5, hk.cell 6⟩
  refine wpAnyN_take (i := 12) (oi := ⟨some 17, _, _, _, _, _⟩) (v := ?_) rfl (by kernel_rfl) (by kernel_rfl) (by kernel_rfl) (by kernel_rfl) (by kernel_rfl) (fun _ _ _ h => h) (Or.inl ⟨by rfl, ?_⟩) (by assumption) ?_
  rotate_left 1
  · (intro w hSw; have hcv := bytes_str (hSw.1); go_simp; try with_reducible rfl)
  try simp only [Act.put, List.setIfInBounds_toArray, List.set_cons_zero, List.set_cons_succ]
  refine wpAnyN_one (i := 14) (o := ⟨some 19, _, _, _, _, _⟩) (by kernel_rfl) rfl (fun K hK => ?_)
  go_simp
  refine (rsbytes_any _ b z ng a l c hN hz hb).mono ?_
  rintro e w5 ⟨a2, n2, c2, bs2, rfl, hr2, hbs2, hbb, -⟩
  have R1 := R1.below hbb (Nat.le_refl _)
  rw [hbs2.one hbs] at hr2
  have R2 := BRow.mk hr2 hbs
  have hk := hk.below hbb hk.lt
  have hs := hs.below hbb (Nat.le_refl _)
  have hN := hN.below hbb (Nat.le_refl _)
  have hB := hB.trans (hbb.mono (Nat.le_trans (Nat.le_of_eq HSZ.out.symm) hB.size))
  clear hbb
  refine hK.out _ _ (by exact ⟨R1, hk.cell 0, hk.cell 1, hk.cell 2, hk.cell 3, hk.cell 4, hk.cell 5, hk.cell 6⟩) ?_
  clear hK K hHeld
  intro hHeld
  try simp only [Act.put, List.setIfInBounds_toArray, List.set_cons_zero, List.set_cons_succ]
  clear hHeld
  refine wpAnyN_mono (S' := fun w' => BRow w' a2 n2 c2 bs ∧ BRow w' a1 n1 c1 bs ∧ w'.cell? ⟨s, 0, none⟩ = some (.bool (fN b)) ∧ w'.cell? ⟨s, 1, none⟩ = some (.bool (fU b)) ∧ w'.cell? ⟨s, 2, none⟩ = some (.bool (fD b)) ∧ w'.cell? ⟨s, 3, none⟩ = some (.bool (fM b)) ∧ w'.cell? ⟨s, 4, none⟩ = some (.bool (fP b)) ∧ w'.cell? ⟨s, 5, none⟩ = some (.bool ng) ∧ w'.cell? ⟨s, 6, none⟩ = some (.slice a l c)) (fun _ h => h.2) ?_
  have hHeld : (fun w' => BRow w' a2 n2 c2 bs ∧ BRow w' a1 n1 c1 bs ∧ w'.cell? ⟨s, 0, none⟩ = some (.bool (fN b)) ∧ w'.cell? ⟨s, 1, none⟩ = some (.bool (fU b)) ∧ w'.cell? ⟨s, 2, none⟩ = some (.bool (fD b)) ∧ w'.cell? ⟨s, 3, none⟩ = some (.bool (fM b)) ∧ w'.cell? ⟨s, 4, none⟩ = some (.bool (fP b)) ∧ w'.cell? ⟨s, 5, none⟩ = some (.bool ng) ∧ w'.cell? ⟨s, 6, none⟩ = some (.slice a l c)) w5 := ⟨R2, R1, hk.cell 0, hk.cell 1, hk.cell 2, hk.cell 3, hk.cell 4, hk.cell 5, hk.cell 6⟩
  refine wpAnyN_take (i := 15) (oi := ⟨some 20, _, _, _, _, _⟩) (v := ?_) rfl (by kernel_rfl) (by kernel_rfl) (by kernel_rfl) (by kernel_rfl) (by kernel_rfl) (fun _ _ _ h => h) (Or.inl ⟨by rfl, ?_⟩) (by assumption) ?_
  rotate_left 1
  · (intro w hSw; have hcv := bytes_str (hSw.1); go_simp; try with_reducible rfl)
  try simp only [Act.put, List.setIfInBounds_toArray, List.set_cons_zero, List.set_cons_succ]
  refine wpAnyN_take (i := 16) (oi := ⟨some 21, _, _, _, _, _⟩) (v := ?_) rfl (by kernel_rfl) (by kernel_rfl) (by kernel_rfl) (by kernel_rfl) (by kernel_rfl) (fun _ _ _ h => h) (Or.inl ⟨by rfl, ?_⟩) (by assumption) ?_
  rotate_left 1
  · (intro w hSw; (try dsimp only at hSw); go_simp; try with_reducible rfl)
  try simp only [Act.put, List.setIfInBounds_toArray, List.set_cons_zero, List.set_cons_succ]
  refine wpAnyN_take (i := 17) (oi := ⟨some 22, _, _, _, _, _⟩) (v := ?_) rfl (by kernel_rfl) (by kernel_rfl) (by kernel_rfl) (by kernel_rfl) (by kernel_rfl) (fun _ _ _ h => h) (Or.inl ⟨by rfl, ?_⟩) (by assumption) ?_
  rotate_left 1
  · (intro w hSw; (try dsimp only at hSw); go_simp; try with_reducible rfl)
  try simp only [Act.put, List.setIfInBounds_toArray, List.set_cons_zero, List.set_cons_succ]
  refine wpAnyN_take (i := 18) (oi := ⟨some 4, _, _, _, _, _⟩) (v := ?_) rfl (by kernel_rfl) (by kernel_rfl) (by kernel_rfl) (by kernel_rfl) (by kernel_rfl) (fun _ _ _ h => h) (Or.inl ⟨by rfl, ?_⟩) (by assumption) ?_
  rotate_left 1
  · (intro w hSw; (try dsimp only at hSw); go_simp; try with_reducible rfl)
  try simp only [Act.put, List.setIfInBounds_toArray, List.set_cons_zero, List.set_cons_succ]
  refine wpAnyN_end (by kernel_rfl) ?_
  go_wp2_with fail
  go_ret
  exact ⟨rfl, by rw [HSZ.out]; exact hB⟩
end Go.Proofs.Ytgdddpbdcdheeaa
