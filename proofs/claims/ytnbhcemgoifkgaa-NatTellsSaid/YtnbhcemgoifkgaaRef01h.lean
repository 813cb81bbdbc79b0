/- Contract of package bushelref01's Power. Conditions: the count is not below 0; all powers up to it lie below 1000^1000000. -/
import Derived.Test.YtnbhcemgoifkgaaRef01u
namespace Go.Proofs.Ytnbhcemgoifkgaa
open Go.RowKit

theorem pow_half (x : Int) (n : Nat) (h : n % 2 = 0) : x ^ (n / 2) * x ^ (n / 2) = x ^ n := by
  rw [← Int.pow_add]; congr 1; omega
theorem pow_half1' (x : Int) (n : Nat) (h : n % 2 = 1) : x ^ (n / 2) * x ^ (n / 2) = x ^ (n - 1) := by
  rw [← Int.pow_add]; congr 1; omega
theorem pow_half1 (x : Int) (n : Nat) (h : n % 2 = 1) : x ^ (n / 2) * x ^ (n / 2) * x = x ^ n := by
  rw [← Int.pow_add, ← Int.pow_succ]; congr 1; omega

set_option maxHeartbeats 1000000 in
theorem power_any : ∀ (n : Nat) (na : Bool) (a : Option Addr) (l c : Nat) (x : Int) (w : World), NumC w na a l c x → (∀ m, m ≤ n → Fit (x ^ m)) → (n : Int) ≤ 9223372036854775807 →
    Calls Try.prog 74 #[.agg #[.bool na, .slice a l c], .int .i64 n] w (RetNum w (x ^ n)) := by
  intro n
  induction n using Nat.strongRecOn with | ind n ih => ?_
  intro na a l c x w hx hf hn
  have HX := Lib.hid hx
  have HF := Lib.hid hf
  clear hx hf
  by_cases h0 : n = 0
  · subst h0
    clear ih
    rw [Int.pow_zero]
    go_enter Try.func74, Try.ntmps74
    go_wp2_with fail
    refine (nat_any 1 _ (by omega) (by omega)).mono ?_; rintro e w1 ⟨n1, a1, l1, c1, rfl, hN1, hb1, hf1⟩
    obtain ⟨bc1, bf1⟩ := bcell hb1
    have hB := (((Below.refl w.heap.size w).alloc (Nat.le_refl _) (.cells #[.bool na, .slice a l c] 27)).alloc (by simp) (.cells #[.bool false, .slice none 0 0] 27)).trans (hb1.mono (by simp; omega))
    have q0 : w.heap.size + 1 < w.heap.size + 1 + 1 := by omega
    go_wp2_with fail
    exact bodyPost_ret (v := .agg #[.bool n1, .slice a1 l1 c1]) (by simp [results, Try.results74, go_sem, bc1]) rfl
      (RetNum.stored hN1 (by omega) hB (by simp [go_sem, bc1]) (by simp [go_sem, bc1]) (hf1.mono (by simp; omega)))
  · have hk : n / 2 < n := by omega
    have IH := Lib.hid (ih (n / 2) hk)
    have hq : (n : Int) / 2 = ((n / 2 : Nat) : Int) := by omega
    clear ih
    have hn0 : ¬ ((n : Int) ≤ 0) := by omega
    have FX : Hid (Fit x) := Lib.hid (by have h := HF.out 1 (by omega); rw [Int.pow_succ, Int.pow_zero, Int.one_mul] at h; exact h)
    have FH : Hid (Fit (x ^ (n / 2))) := Lib.hid (HF.out (n / 2) (by omega))
    have hk2 : ((n / 2 : Nat) : Int) ≤ 9223372036854775807 := by omega
    have HQ := Lib.hid hq
    clear hq
    go_enter Try.func74, Try.ntmps74
    go_wp2_with fail
    rw [HQ.out]
    refine (IH.out na a l c x _ (HX.out.below (((Below.refl _ _).alloc (Nat.le_refl _) _).alloc (by simp) _) (Nat.le_refl _)) (fun m hm => HF.out m (by omega)) hk2).mono ?_
    rintro e w1 ⟨n1, a1, l1, c1, rfl, hN1, hb1, -⟩
    obtain ⟨bc, bf⟩ := bcell hb1
    have hs1 : w.heap.size + 1 < w1.heap.size := by have := hb1.size; simp at this; omega
    have hs0 : w.heap.size < w1.heap.size := by omega
    have f0 : w1.cell? ⟨w.heap.size, 0, none⟩ = some (.bool na) := by rw [bc _ _ (by simp; omega)]; simp [go_sem]
    have f1 : w1.cell? ⟨w.heap.size, 1, none⟩ = some (.slice a l c) := by rw [bc _ _ (by simp; omega)]; simp [go_sem]
    have g0 : w1.cell? ⟨w.heap.size + 1, 0, none⟩ = some (.bool false) := by rw [bc _ _ (by simp)]; simp [go_sem]
    have g1 : w1.cell? ⟨w.heap.size + 1, 1, none⟩ = some (.slice none 0 0) := by rw [bc _ _ (by simp)]; simp [go_sem]
    have gf : ∀ o, w1.frozen? ⟨w.heap.size + 1, o, none⟩ = false := fun o => by rw [bf _ _ (by simp)]; simp [go_sem]
    have HBw := Lib.hid ((((Below.refl w.heap.size w).alloc (Nat.le_refl _) (.cells #[.bool na, .slice a l c] 27)).alloc (by simp) (.cells #[.bool false, .slice none 0 0] 27)).trans (hb1.mono (by simp; omega)))
    have HN1 := Lib.hid hN1
    clear bc bf hb1 hN1 HQ IH
    have al : ∀ p u o, w1.cell? p = some u → (w1.alloc o).cell? p = some u := fun p u o h => by rw [World.cell?_alloc_some _ _ _ (by rw [h]; rfl)]; exact h
    have f0' := al _ _ (.cells #[.bool n1, .slice a1 l1 c1] 27) f0
    have f1' := al _ _ (.cells #[.bool n1, .slice a1 l1 c1] 27) f1
    have g0' := al _ _ (.cells #[.bool n1, .slice a1 l1 c1] 27) g0
    have g1' := al _ _ (.cells #[.bool n1, .slice a1 l1 c1] 27) g1
    have gf' : ∀ o, (w1.alloc (.cells #[.bool n1, .slice a1 l1 c1] 27)).frozen? ⟨w.heap.size + 1, o, none⟩ = false := fun o => by rw [World.frozen?_of_block (w := w1) (Below.heap_alloc _ _ _ hs1)]; exact gf o
    have h0' : (w1.alloc (.cells #[.bool n1, .slice a1 l1 c1] 27)).cell? ⟨w1.heap.size, 0, none⟩ = some (.bool n1) := by simp [go_sem]
    have h1' : (w1.alloc (.cells #[.bool n1, .slice a1 l1 c1] 27)).cell? ⟨w1.heap.size, 1, none⟩ = some (.slice a1 l1 c1) := by simp [go_sem]
    have hz : w1.heap.size < (w1.alloc (.cells #[.bool n1, .slice a1 l1 c1] 27)).heap.size := by simp
    have HN2 := Lib.hid (HN1.out.below ((Below.refl _ _).alloc (Nat.le_refl _) (.cells #[.bool n1, .slice a1 l1 c1] 27)) (Nat.le_refl _))
    have HX2 := Lib.hid (HX.out.below (HBw.out.alloc (by omega) (.cells #[.bool n1, .slice a1 l1 c1] 27)) (Nat.le_refl _))
    have HBv := Lib.hid (HBw.out.alloc (by omega) (.cells #[.bool n1, .slice a1 l1 c1] 27))
    have AB := Lib.hid al
    clear al f0 f1 g0 g1 gf HN1 HBw HX
    have P1 : n % 2 = 1 → x ^ (n / 2) * x ^ (n / 2) * x = x ^ n := pow_half1 x n
    have P2 : n % 2 = 1 → Fit (x ^ (n / 2) * x ^ (n / 2)) := fun hp => by rw [pow_half1' x n hp]; exact HF.out (n - 1) (by omega)
    have P3 : n % 2 = 0 → x ^ (n / 2) * x ^ (n / 2) = x ^ n := pow_half x n
    generalize x ^ (n / 2) = h at *
    generalize x ^ n = z at *
    have PP1 := Lib.hid P1
    have PP2 := Lib.hid P2
    have PP3 := Lib.hid P3
    clear P1 P2 P3 HF hk
    by_cases hp : n % 2 = 1
    · have hp2 : ((n : Int) % 2 == 1) = true := by simp; omega
      have FHH := Lib.hid (PP2.out hp)
      go_wp2_with fail
      generalize (w1.alloc (.cells #[.bool n1, .slice a1 l1 c1] 27)) = wb at *
      have hbA : Below wb.heap.size wb wb.drew := (Below.refl _ _).drew
      have q0 : w.heap.size < wb.heap.size := by omega
      have q1 : w.heap.size + 1 < wb.heap.size := by omega
      have r1 : ¬ (w.heap.size + 1 = w1.heap.size) := by omega
      go_region_held3 (fun w' => w'.cell? ⟨w1.heap.size, 0, none⟩ = some (.bool n1) ∧ w'.cell? ⟨w1.heap.size, 1, none⟩ = some (.slice a1 l1 c1) ∧ w'.cell? ⟨w.heap.size, 0, none⟩ = some (.bool na) ∧ w'.cell? ⟨w.heap.size, 1, none⟩ = some (.slice a l c)) (go_keep)
        (first
          | (go_at_call 29; refine (mul_any _ _ _ _ _ _ _ _ _ x _ hN2 (HX2.out.below hbA (Nat.le_refl _)) FHH.out FX.out).mono ?_; rintro e w3 ⟨n3, a3, l3, c3, rfl, hN3, hb3, hf3⟩; replace hbA := hbA.trans (hb3.mono (Nat.le_trans (by simp) hbA.size)); clear bc2 bf2; obtain ⟨bc3, bf3⟩ := bcell hbA)
          | (go_at_call 29; refine (mul_any _ _ _ _ _ _ _ _ h h _ (HN2.out.below hbA (Nat.le_refl _)) (HN2.out.below hbA (Nat.le_refl _)) FH.out FH.out).mono ?_; rintro e w2 ⟨n2, a2, l2, c2, rfl, hN2, hb2, -⟩; replace hbA := hbA.trans (hb2.mono (Nat.le_trans (by simp) hbA.size)); obtain ⟨bc2, bf2⟩ := bcell hbA))
      go_wp2_with fail
      rw [PP1.out hp] at hN3
      have hw2 : w.heap.size ≤ w2.heap.size := by have := hb2.size; simp at this; omega
      exact bodyPost_ret (v := .agg #[.bool n3, .slice a3 l3 c3]) (by simp [results, Try.results74, go_sem, bc3, q1, g0', g1']) rfl
        (RetNum.stored hN3 (by omega) (HBv.out.trans (hbA.mono (by omega))) (by rw [bc3 _ _ q1]; exact g0') (by rw [bc3 _ _ q1]; exact g1') (hf3.mono hw2))
    · have hp2 : ((n : Int) % 2 == 1) = false := by simp; omega
      go_wp2_with fail
      generalize (w1.alloc (.cells #[.bool n1, .slice a1 l1 c1] 27)) = wb at *
      have q0 : w.heap.size < wb.heap.size := by omega
      have q1 : w.heap.size + 1 < wb.heap.size := by omega
      refine (mul_any _ _ _ _ _ _ _ _ h h _ HN2.out HN2.out FH.out FH.out).mono ?_; rintro e w3 ⟨n3, a3, l3, c3, rfl, hN3, hb3, hf3⟩
      obtain ⟨bc3, bf3⟩ := bcell hb3
      go_wp2_with fail
      rw [PP3.out (by omega)] at hN3
      exact bodyPost_ret (v := .agg #[.bool n3, .slice a3 l3 c3]) (by simp [results, Try.results74, go_sem, bc3, q1, g0', g1']) rfl
        (RetNum.stored hN3 (by omega) (HBv.out.trans (hb3.mono (by omega))) (by rw [bc3 _ _ q1]; exact g0') (by rw [bc3 _ _ q1]; exact g1') (hf3.mono (by omega)))
end Go.Proofs.Ytnbhcemgoifkgaa
