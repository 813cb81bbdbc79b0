/- Contract of package bushelref03's below. Conditions: the number that is multiplied fits; at most 100000 places apart. -/
import Derived.Test.YtfanjmgbkmdmfaaFloT
import Derived.Test.YtfanjmgbkmdmfaaMRef02
import Derived.IntWalk
namespace Go.Proofs.Ytfanjmgbkmdmfaa
open Go.RowKit Ieee

set_option maxRecDepth 100000 in
set_option maxHeartbeats 4000000 in
theorem rbelow_hi (na nb : Bool) (a b : Option Addr) (n c m d : Nat) (x y r : Int) (e k : Int) (g : Nat) (w : World) (hx : NumC w na a n c x) (hy : NumC w nb b m d y) (fy : Fit y) (hk : k = e + (g : Int)) (hg : g ≤ 100000)
    (hr : cmpZ x (y * 2 ^ g) = r) :
    Calls Try.prog 100 #[.agg #[.bool na, .slice a n c], .agg #[.bool nb, .slice b m d], .int .i64 e, .int .i64 k] w fun z w' => z = .returned (.bool (decide (r < 0))) ∧ Below w.heap.size w w' := by
  have HR := Lib.hid hr
  have FY := Lib.hid fy
  have FG := Lib.hid (fit_two (n := g) (by omega))
  have HT := Lib.hid (fun w => two_any g w (by omega))
  obtain ⟨hk0, hk1, hbw, -⟩ := two_bx w 30 #[.bool na, .slice a n c] #[.bool nb, .slice b m d]
  have HB7 := Lib.hid hbw
  have HP7 := Lib.hid (hx.below hbw (Nat.le_refl _))
  have HQ7 := Lib.hid (hy.below hbw (Nat.le_refl _))
  have hc : decide (e ≤ k) = true := by simp; omega
  have hsub : IntKind.i64.wrap (k - e) = (g : Int) := by rw [IntWalk.i64_in _ (by omega)]; omega
  clear hr fy hx hy hbw hk
  go_enter Try.func100, Try.ntmps100
  go_upto_region 2 with fail
  generalize ((w.alloc (.cells #[.bool na, .slice a n c] 30)).alloc (.cells #[.bool nb, .slice b m d] 30)) = w7 at *
  generalize hsz0 : w.heap.size = s at *
  have HSZ := Lib.hid hsz0
  clear hsz0
  have x0 : w7.cell? ⟨s, 0, none⟩ = some (.bool na) := hk0.cell 0
  have x1 : w7.cell? ⟨s, 1, none⟩ = some (.slice a n c) := hk0.cell 1
  have y0 : w7.cell? ⟨s + 1, 0, none⟩ = some (.bool nb) := hk1.cell 0
  have y1 : w7.cell? ⟨s + 1, 1, none⟩ = some (.slice b m d) := hk1.cell 1
  have hs0 : s < w7.heap.size := hk0.lt
  have hs1 : s + 1 < w7.heap.size := hk1.lt
  clear hk0 hk1
  have hbA : Below w7.heap.size w7 w7.drew := (Below.refl _ _).drew
  go_region_held3 (fun w' => w'.cell? ⟨s, 0, none⟩ = some (.bool na) ∧ w'.cell? ⟨s, 1, none⟩ = some (.slice a n c) ∧ w'.cell? ⟨s + 1, 0, none⟩ = some (.bool nb) ∧ w'.cell? ⟨s + 1, 1, none⟩ = some (.slice b m d)) (go_keep)
    (first
      | (go_at_call 57; refine (HT.out _).mono ?_; rintro e w8 ⟨m8, b8, l8, d8, rfl, hM8, hb8, -⟩; replace hbA := hbA.trans (hb8.mono (Nat.le_trans (by simp) hbA.size)); clear hb8; (try clear bc8 bf8); obtain ⟨bc8, bf8⟩ := bcell hbA)
      | (go_at_call 22; refine (mul_any _ _ _ _ _ _ _ _ y (2 ^ g) _ (HQ7.out.below hbA (Nat.le_refl _)) hM8 FY.out FG.out).mono ?_; rintro e w9 ⟨m9, b9, l9, d9, rfl, hM9, hb9, -⟩; clear hM8; replace hbA := hbA.trans (hb9.mono (Nat.le_trans (by simp) hbA.size)); clear hb9; (try clear bc8 bf8); obtain ⟨bc8, bf8⟩ := bcell hbA)
      | (go_at_call 66; refine (cmp_at _ _ _ _ _ _ _ _ x (y * 2 ^ g) r _ HR.out (HP7.out.below hbA (Nat.le_refl _)) hM9).mono ?_; rintro e w9 ⟨rfl, hb9⟩; clear hM9 bc8 bf8; replace hbA := hbA.trans (hb9.mono (Nat.le_trans (by simp) hbA.size)); clear hb9; obtain ⟨bc8, bf8⟩ := bcell hbA))
  all_goals
    clear bc8 bf8
    have HBE := Lib.hid (HB7.out.trans (hbA.mono (by rw [← HSZ.out]; exact HB7.out.size)))
    clear hbA
    go_wp2_with fail
    go_ret
    exact ⟨rfl, by rw [HSZ.out]; exact HBE.out⟩

set_option maxRecDepth 100000 in
set_option maxHeartbeats 4000000 in
theorem rbelow_lo (na nb : Bool) (a b : Option Addr) (n c m d : Nat) (x y r : Int) (e k : Int) (g : Nat) (w : World) (hx : NumC w na a n c x) (hy : NumC w nb b m d y) (fy : Fit x) (hk : e = k + (g : Int) ∧ 0 < g) (hg : g ≤ 100000)
    (hr : cmpZ (x * 2 ^ g) y = r) :
    Calls Try.prog 100 #[.agg #[.bool na, .slice a n c], .agg #[.bool nb, .slice b m d], .int .i64 e, .int .i64 k] w fun z w' => z = .returned (.bool (decide (r < 0))) ∧ Below w.heap.size w w' := by
  have HR := Lib.hid hr
  have FY := Lib.hid fy
  have FG := Lib.hid (fit_two (n := g) (by omega))
  have HT := Lib.hid (fun w => two_any g w (by omega))
  obtain ⟨hk0, hk1, hbw, -⟩ := two_bx w 30 #[.bool na, .slice a n c] #[.bool nb, .slice b m d]
  have HB7 := Lib.hid hbw
  have HP7 := Lib.hid (hx.below hbw (Nat.le_refl _))
  have HQ7 := Lib.hid (hy.below hbw (Nat.le_refl _))
  have hc : decide (e ≤ k) = false := by simp; omega
  have hsub : IntKind.i64.wrap (e - k) = (g : Int) := by rw [IntWalk.i64_in _ (by omega)]; omega
  clear hr fy hx hy hbw hk
  go_enter Try.func100, Try.ntmps100
  go_upto_region 3 with fail
  generalize ((w.alloc (.cells #[.bool na, .slice a n c] 30)).alloc (.cells #[.bool nb, .slice b m d] 30)) = w7 at *
  generalize hsz0 : w.heap.size = s at *
  have HSZ := Lib.hid hsz0
  clear hsz0
  have x0 : w7.cell? ⟨s, 0, none⟩ = some (.bool na) := hk0.cell 0
  have x1 : w7.cell? ⟨s, 1, none⟩ = some (.slice a n c) := hk0.cell 1
  have y0 : w7.cell? ⟨s + 1, 0, none⟩ = some (.bool nb) := hk1.cell 0
  have y1 : w7.cell? ⟨s + 1, 1, none⟩ = some (.slice b m d) := hk1.cell 1
  have hs0 : s < w7.heap.size := hk0.lt
  have hs1 : s + 1 < w7.heap.size := hk1.lt
  clear hk0 hk1
  have hbA : Below w7.heap.size w7 w7.drew := (Below.refl _ _).drew
  go_region_held3 (fun w' => w'.cell? ⟨s, 0, none⟩ = some (.bool na) ∧ w'.cell? ⟨s, 1, none⟩ = some (.slice a n c) ∧ w'.cell? ⟨s + 1, 0, none⟩ = some (.bool nb) ∧ w'.cell? ⟨s + 1, 1, none⟩ = some (.slice b m d)) (go_keep)
    (first
      | (go_at_call 57; refine (HT.out _).mono ?_; rintro e w8 ⟨m8, b8, l8, d8, rfl, hM8, hb8, -⟩; replace hbA := hbA.trans (hb8.mono (Nat.le_trans (by simp) hbA.size)); clear hb8; (try clear bc8 bf8); obtain ⟨bc8, bf8⟩ := bcell hbA)
      | (go_at_call 22; refine (mul_any _ _ _ _ _ _ _ _ x (2 ^ g) _ (HP7.out.below hbA (Nat.le_refl _)) hM8 FY.out FG.out).mono ?_; rintro e w9 ⟨m9, b9, l9, d9, rfl, hM9, hb9, -⟩; clear hM8; replace hbA := hbA.trans (hb9.mono (Nat.le_trans (by simp) hbA.size)); clear hb9; (try clear bc8 bf8); obtain ⟨bc8, bf8⟩ := bcell hbA)
      | (go_at_call 66; refine (cmp_at _ _ _ _ _ _ _ _ (x * 2 ^ g) y r _ HR.out hM9 (HQ7.out.below hbA (Nat.le_refl _))).mono ?_; rintro e w9 ⟨rfl, hb9⟩; clear hM9 bc8 bf8; replace hbA := hbA.trans (hb9.mono (Nat.le_trans (by simp) hbA.size)); clear hb9; obtain ⟨bc8, bf8⟩ := bcell hbA))
  all_goals
    clear bc8 bf8
    have HBE := Lib.hid (HB7.out.trans (hbA.mono (by rw [← HSZ.out]; exact HB7.out.size)))
    clear hbA
    go_wp2_with fail
    go_ret
    exact ⟨rfl, by rw [HSZ.out]; exact HBE.out⟩
end Go.Proofs.Ytfanjmgbkmdmfaa
