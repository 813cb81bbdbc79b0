/- Contracts of package bushelref04's none, infinity, long and Quot. Conditions: numbers below 2^3000. -/
import Derived.Test.YtfanjmgbkmdmfaaRatE
import Derived.Test.YtfanjmgbkmdmfaaFloY
namespace Go.Proofs.Ytfanjmgbkmdmfaa
open Go.RowKit Ieee

theorem rnone_any (w : World) :
    Calls Try.prog 54 #[] w fun e w' => ∃ z, e = .returned (.float .f64 z) ∧ z < 18446744073709551616 ∧ INF < z % S63 ∧ Below w.heap.size w w' := by
  obtain ⟨r, hr0, hr1, hrun⟩ := run_float_nan .quo 25 0 0 (by decide) (by simp) w
  have H0 := Lib.hid hr0
  have H1 := Lib.hid hr1
  clear hr0 hr1
  go_enter Try.func54, Try.ntmps54
  go_wp2_with fail
  go_ret
  exact ⟨r, rfl, H0.out, H1.out, (Below.refl _ _).drew⟩
theorem rinfinity_any (w : World) :
    Calls Try.prog 55 #[] w fun e w' => e = .returned (.float .f64 INF) ∧ w = w' := by
  have hd2 := quo_zero (b := 0) (by decide) (by decide)
  rw [if_neg (by decide)] at hd2
  have hd := run_float_arith (P := Try.prog) w .quo 25 .f64 _ _ _ hd2
  clear hd2
  go_enter Try.func55, Try.ntmps55
  go_wp2_with fail
  go_ret
  exact ⟨rfl, rfl⟩

theorem cmp_small {p K k : Nat} (hp : p < 2 ^ K) (hk : K ≤ k) : cmpZ (p : Int) (2 ^ k) = -1 := by
  apply cmpZ_lt
  have h1 : p < 2 ^ k := Nat.lt_of_lt_of_le hp (Nat.pow_le_pow_right (by decide) hk)
  have h2 := Int.ofNat_lt.2 h1
  rw [Int.natCast_pow] at h2
  exact h2

set_option maxRecDepth 100000 in
set_option maxHeartbeats 2000000 in
theorem rlong_no (na nb : Bool) (a b : Option Addr) (n c m d p q K : Nat) (w : World) (hx : NumC w na a n c (p : Int)) (hy : NumC w nb b m d (q : Int)) (hp : p < 2 ^ K) (hq : q < 2 ^ K) (hK : K ≤ 3000) :
    Calls Try.prog 53 #[.agg #[.bool na, .slice a n c], .agg #[.bool nb, .slice b m d]] w fun e w' => e = .returned (.bool false) ∧ Below w.heap.size w w' := by
  obtain ⟨k, hk⟩ : ∃ k : Nat, k = 3000 := ⟨_, rfl⟩
  have HT : Hid (∀ w, Calls Try.prog 57 #[.int .i64 3000] w (RetNum w (2 ^ k))) := Lib.hid (fun w => by
    have h := two_any k w (by omega)
    rw [show (k : Int) = 3000 from by omega] at h
    exact h)
  have HCP := Lib.hid (cmp_small (k := k) hp (by omega))
  have HCQ := Lib.hid (cmp_small (k := k) hq (by omega))
  obtain ⟨hk0, hk1, hbw, -⟩ := two_bx w 30 #[.bool na, .slice a n c] #[.bool nb, .slice b m d]
  have HB7 := Lib.hid hbw
  have HP7 := Lib.hid (hx.below hbw (Nat.le_refl _))
  have HQ7 := Lib.hid (hy.below hbw (Nat.le_refl _))
  clear hx hy hbw hk hp hq
  go_enter Try.func53, Try.ntmps53
  go_upto_region 1 with fail
  generalize ((w.alloc (.cells #[.bool na, .slice a n c] 30)).alloc (.cells #[.bool nb, .slice b m d] 30)) = w7 at *
  generalize hsz0 : w.heap.size = s at *
  have HSZ := Lib.hid hsz0
  clear hsz0
  have x0 : w7.cell? ⟨s, 0, none⟩ = some (.bool na) := hk0.cell 0
  have x1 : w7.cell? ⟨s, 1, none⟩ = some (.slice a n c) := hk0.cell 1
  have y0 : w7.cell? ⟨s + 1, 0, none⟩ = some (.bool nb) := hk1.cell 0
  have y1 : w7.cell? ⟨s + 1, 1, none⟩ = some (.slice b m d) := hk1.cell 1
  have hs0 : s < w7.heap.size := hk0.lt
  have hs1 : s + 1 < w7.heap.size := hk1.lt
  clear hk0 hk1
  have hbA : Below w7.heap.size w7 w7.drew := (Below.refl _ _).drew
  go_region_held3 (fun w' => w'.cell? ⟨s, 0, none⟩ = some (.bool na) ∧ w'.cell? ⟨s, 1, none⟩ = some (.slice a n c) ∧ w'.cell? ⟨s + 1, 0, none⟩ = some (.bool nb) ∧ w'.cell? ⟨s + 1, 1, none⟩ = some (.slice b m d)) (go_keep)
    (first
      | (go_at_call 57; refine (HT.out _).mono ?_; rintro e w8 ⟨m8, b8, l8, d8, rfl, hM8, hb8, -⟩; replace hbA := hbA.trans (hb8.mono (Nat.le_trans (by simp) hbA.size)); clear hb8; (try clear bc8 bf8); obtain ⟨bc8, bf8⟩ := bcell hbA)
      | (go_at_call 66; (with_reducible refine (cmp_at _ _ _ _ _ _ _ _ (p : Int) (2 ^ k) (-1) _ HCP.out (HP7.out.below hbA (Nat.le_refl _)) hM8).mono ?_); rintro e w9 ⟨rfl, hb9⟩; clear hM8 bc8 bf8; replace hbA := hbA.trans (hb9.mono (Nat.le_trans (by simp) hbA.size)); clear hb9; obtain ⟨bc8, bf8⟩ := bcell hbA)
      | (go_at_call 66; (with_reducible refine (cmp_at _ _ _ _ _ _ _ _ (q : Int) (2 ^ k) (-1) _ HCQ.out (HQ7.out.below hbA (Nat.le_refl _)) hM8).mono ?_); rintro e w9 ⟨rfl, hb9⟩; clear hM8 bc8 bf8; replace hbA := hbA.trans (hb9.mono (Nat.le_trans (by simp) hbA.size)); clear hb9; obtain ⟨bc8, bf8⟩ := bcell hbA))
  all_goals
    clear bc8 bf8
    have HBE := Lib.hid (HB7.out.trans (hbA.mono (by rw [← HSZ.out]; exact HB7.out.size)))
    clear hbA
    go_wp2_with fail
    go_ret
    exact ⟨rfl, by rw [HSZ.out]; exact HBE.out⟩
end Go.Proofs.Ytfanjmgbkmdmfaa
