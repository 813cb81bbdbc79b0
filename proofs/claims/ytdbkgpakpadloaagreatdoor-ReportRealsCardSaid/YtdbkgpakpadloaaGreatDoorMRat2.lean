/- Contracts of package bushelref04's none, infinity, long and Quot. Conditions: numbers below 2^3000. -/
import Derived.Test.YtdbkgpakpadloaaGreatDoorMRat1
import Derived.Test.YtdbkgpakpadloaaGreatDoorMFloC
import Derived.Test.YtdbkgpakpadloaaGreatDoorMNum
namespace Go.Proofs.YtdbkgpakpadloaaGreatDoor
open Go.RowKit Ieee

theorem cmp_small {p K k : Nat} (hp : p < 2 ^ K) (hk : K ≤ k) : cmpZ (p : Int) (2 ^ k) = -1 := by
  apply cmpZ_lt
  have h1 : p < 2 ^ k := Nat.lt_of_lt_of_le hp (Nat.pow_le_pow_right (by decide) hk)
  have h2 := Int.ofNat_lt.2 h1
  rw [Int.natCast_pow] at h2
  exact h2

end Go.Proofs.YtdbkgpakpadloaaGreatDoor
/- Contract of package bushelref01's Of. No conditions but int64's range. -/
namespace Go.Proofs.YtdbkgpakpadloaaGreatDoor
open Go.RowKit

theorem of_any (x : Int) (w : World) (h0 : -9223372036854775808 ≤ x) (h1 : x ≤ 9223372036854775807) :
    Calls Tryz.prog 57 #[.int .i64 x] w (RetNum w x) := by
  by_cases hx : x < 0
  · have HB : Hid (Below w.heap.size w (w.alloc (.cells #[.bool false, .slice none 0 0] 61))) := Lib.hid ((Below.refl _ _).alloc (Nat.le_refl _) _)
    go_enter Tryz.func57, Tryz.ntmps57
    go_wp2_with fail
    refine (nat_any _ _ (by omega) (by omega)).mono ?_; rintro e w1 ⟨neg1, a1, n1, c1, rfl, hN1, hb1, hf1⟩
    simp only [World.size_alloc] at hb1
    have HN1 := Lib.hid hN1
    clear hN1
    go_wp2_with fail
    refine (nat_any _ _ (by omega) (by omega)).mono ?_; rintro e w2 ⟨neg2, a2, n2, c2, rfl, hN2, hb2, hf2⟩
    have hz1 := hb1.size
    simp only [World.size_alloc] at hz1
    have hz2 := hb2.size
    have hb2' := hb1.trans (hb2.mono hz1)
    have HN2 := Lib.hid hN2
    clear hN2
    go_wp2_with fail
    refine (add_any _ _ _ _ _ _ _ _ _ _ _ (HN1.out.below hb2 (Nat.le_refl _)) HN2.out (Fit.i64 (by omega) (by omega)) (Fit.i64 (by omega) (by omega))).mono ?_; rintro e w3 ⟨neg3, a3, n3, c3, rfl, hN3, hb3, hf3⟩
    have hb3' := hb2'.trans (hb3.mono (by omega))
    have hz3 := hb3.size
    have HN3 := Lib.hid hN3
    clear hN3
    go_wp2_with fail
    refine (neg_any _ _ _ _ _ _ HN3.out).mono ?_; rintro e w4 ⟨neg4, a4, n4, c4, rfl, hN4, hb4, hf4⟩
    have hb4' := hb3'.trans (hb4.mono (by omega))
    rw [show -(-(x + 1) + 1) = x from by omega] at hN4
    obtain ⟨bc, bf⟩ := bcell hb4'
    have HN4 := Lib.hid hN4
    clear hN4
    go_wp2_with fail
    exact bodyPost_ret (v := .agg #[.bool neg4, .slice a4 n4 c4]) (by simp [results, Tryz.results57, go_sem, bc]) rfl
      (RetNum.stored HN4.out (Nat.le_refl _) (HB.out.trans (hb4'.mono (by omega))) (by simp [go_sem, bc]) (by simp [go_sem, bc]) ((hf3.mono (by omega)).same hf4))
  · have HB : Hid (Below w.heap.size w (w.alloc (.cells #[.bool false, .slice none 0 0] 61))) := Lib.hid ((Below.refl _ _).alloc (Nat.le_refl _) _)
    go_enter Tryz.func57, Tryz.ntmps57
    go_wp2_with fail
    refine (nat_any _ _ (by omega) (by omega)).mono ?_; rintro e w1 ⟨neg1, a1, n1, c1, rfl, hN1, hb1, hf1⟩
    simp only [World.size_alloc] at hb1
    obtain ⟨bc, bf⟩ := bcell hb1
    have HN1 := Lib.hid hN1
    clear hN1
    go_wp2_with fail
    exact bodyPost_ret (v := .agg #[.bool neg1, .slice a1 n1 c1]) (by simp [results, Tryz.results57, go_sem, bc]) rfl
      (RetNum.stored HN1.out (Nat.le_refl _) (HB.out.trans (hb1.mono (by omega))) (by simp [go_sem, bc]) (by simp [go_sem, bc]) (hf1.mono (by simp)))
end Go.Proofs.YtdbkgpakpadloaaGreatDoor
/- Contracts of package bushelref04's Quot, size, Mean and of package ratio's Mean. Conditions: numbers below 2^3000 (Quot). -/
namespace Go.Proofs.YtdbkgpakpadloaaGreatDoor
open Go.RowKit Ieee

theorem NumC.lenb {w : World} {neg : Bool} {a : Option Addr} {n c p : Nat} (h : NumC w neg a n c (p : Int)) : (((n : Int) == 0) = true ∧ p = 0 ∧ n = 0) ∨ (((n : Int) == 0) = false ∧ 0 < p) := by
  rcases Nat.eq_zero_or_pos p with h0 | h0
  · subst h0
    have := h.len0
    subst this
    exact .inl ⟨rfl, rfl, rfl⟩
  · have := h.lenp (by omega)
    exact .inr ⟨by simp; omega, h0⟩
theorem near_of_r {p q z : Nat} (h : IsNear (p * 2 ^ K1074) (q * 2 ^ 0) z) : IsNear (p * 2 ^ K1074) q z := by
  rw [Nat.pow_zero, Nat.mul_one] at h
  exact h
theorem flip_sgn (neg : Bool) {z : Nat} (h : z ≤ INF) : (if neg then flipS z else z) = sgnW neg z := by
  unfold sgnW flipS
  cases neg
  · rfl
  · rw [if_pos rfl, if_pos rfl, if_pos (by unfold INF at h; unfold S63; omega)]
    omega
theorem rsign_sgn (neg : Bool) (z : Nat) (w : World) (h : z ≤ INF) :
    Calls Tryz.prog 23 #[.bool neg, .float .f64 z] w fun x w' => x = .returned (.float .f64 (sgnW neg z)) ∧ w = w' := by
  have h1 := rsign_any neg z w (by unfold INF at h; omega)
  rw [flip_sgn neg h] at h1
  exact h1

end Go.Proofs.YtdbkgpakpadloaaGreatDoor
/- Contracts of package bushelref04's size and Mean and of package ratio's Mean. No conditions but the types' own. -/
namespace Go.Proofs.YtdbkgpakpadloaaGreatDoor
open Go.RowKit Ieee

theorem NumC.abs {w : World} {neg : Bool} {a : Option Addr} {n c : Nat} {z : Int} (h : NumC w neg a n c z) : NumC w false a n c ((z.natAbs : Nat) : Int) := by
  obtain ⟨xs, h1, h2, h3, h4, h5⟩ := h
  refine ⟨xs, h1, h2, h3, ?_, fun h => by cases h⟩
  have h6 := (V_bd (B := 1000) (by decide) h2).1
  cases neg <;> simp at h4 <;> simp <;> omega
theorem pow64 {k : Nat} (h : k ≤ 18446744073709551615) : k < 2 ^ 64 := by omega
theorem wf_i64r {n : Int} (h : (Lit.int .i64 n).wf = true) : -9223372036854775808 ≤ n ∧ n ≤ 9223372036854775807 := by
  simpa [Lit.wf, IntKind.min, IntKind.max, IntKind.bits, IntKind.signed] using h

def IsMean (s n : Int) (z : Nat) : Prop := (s = 0 ∧ n ≠ 0 ∧ z = 0) ∨ (¬ (s = 0 ∧ n ≠ 0) ∧ IsQuot (decide (s < 0) != decide (n < 0)) s.natAbs n.natAbs z)
theorem IsMean.one {s n : Int} {z y : Nat} (h : IsMean s n z) (k : IsMean s n y) : keyN z = keyN y := by
  rcases h with ⟨h1, h2, h3⟩ | ⟨h1, h2⟩ <;> rcases k with ⟨k1, k2, k3⟩ | ⟨k1, k2⟩
  · rw [h3, k3]
  · exact absurd ⟨h1, h2⟩ k1
  · exact absurd ⟨k1, k2⟩ h1
  · exact h2.one k2
theorem IsMean.lt {s n : Int} {z : Nat} (h : IsMean s n z) : z < 18446744073709551616 := by
  rcases h with ⟨h1, h2, h3⟩ | ⟨h1, h2⟩
  · omega
  · exact h2.1
def RMean (s n : Int) (w : World) (e : Ending) (w' : World) : Prop := ∃ z, e = .returned (.float .f64 z) ∧ IsMean s n z ∧ Below w.heap.size w w'

end Go.Proofs.YtdbkgpakpadloaaGreatDoor
/- Contract of package ratio's Dev. Conditions: squares below 2^1000, at most 80000 words. -/
namespace Go.Proofs.YtdbkgpakpadloaaGreatDoor
open Go.RowKit Ieee

def IsDev (n s : Int) (S z : Nat) : Prop := z < 18446744073709551616 ∧ (((n < 1 ∨ n * S - s * s < 0) ∧ INF < z % S63) ∨ (1 ≤ n ∧ 0 ≤ n * S - s * s ∧ IsRootQ (n * S - s * s).toNat (n.toNat * n.toNat) z))
theorem IsDev.one {n s : Int} {S z y : Nat} (h : IsDev n s S z) (k : IsDev n s S y) : keyN z = keyN y := by
  obtain ⟨-, h⟩ := h
  obtain ⟨-, k⟩ := k
  rcases h with ⟨h1, h2⟩ | ⟨h1, h2, h3⟩ <;> rcases k with ⟨k1, k2⟩ | ⟨k1, k2, k3⟩
  · rw [key_nan h2, key_nan k2]
  · rcases h1 with h1 | h1 <;> omega
  · rcases k1 with k1 | k1 <;> omega
  · exact h3.one k3
def RDev (n s : Int) (S : Nat) (w : World) (e : Ending) (w' : World) : Prop := ∃ z, e = .returned (.float .f64 z) ∧ IsDev n s S z ∧ Below w.heap.size w w'
theorem sq_abs (s : Int) : ((s.natAbs * s.natAbs : Nat) : Int) = s * s := by
  rw [Int.natCast_mul, ← Int.natAbs_mul_self' s]

end Go.Proofs.YtdbkgpakpadloaaGreatDoor
