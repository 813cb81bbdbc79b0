/- Contracts of package bushelref03's below and times, as its Nearest calls them. Conditions: numbers that fit, powers from -9000 to 3000; a whole number of at most 2^53. -/
import Derived.Test.YtfanjmgbkmdmfaaFloU
import Derived.Test.YtfanjmgbkmdmfaaFloV
namespace Go.Proofs.Ytfanjmgbkmdmfaa
open Go.RowKit Ieee

theorem nat_cast_pow (Q g : Nat) : ((Q * 2 ^ g : Nat) : Int) = (Q : Int) * 2 ^ g := by
  rw [Int.natCast_mul, Int.natCast_pow]; rfl

theorem rbelow_near (na nb : Bool) (a b : Option Addr) (n c m d P Q : Nat) (e k : Int) (A B t : Nat) (w : World) (hx : NumC w na a n c (P : Int)) (hy : NumC w nb b m d (Q : Int)) (fP : Fit (P : Int)) (fQ : Fit (Q : Int))
    (hA : e + 1074 = (A : Int) - (B : Int)) (hk : k = (t : Int) + 53 - 1074) (he1 : -9000 ≤ e) (he2 : e ≤ 3000) (ht : t ≤ 3000) :
    Calls Try.prog 100 #[.agg #[.bool na, .slice a n c], .agg #[.bool nb, .slice b m d], .int .i64 e, .int .i64 k] w fun z w' => z = .returned (.bool (decide (P * 2 ^ A < Q * 2 ^ B * 2 ^ (t + 53)))) ∧ Below w.heap.size w w' := by
  rcases Int.lt_or_le k e with h | h
  · obtain ⟨g, hg⟩ : ∃ g : Nat, e = k + (g : Int) := ⟨(e - k).toNat, by omega⟩
    refine (rbelow_lo na nb a b n c m d P Q (cmpZ ((P : Int) * 2 ^ g) Q) e k g w hx hy fP ⟨hg, by omega⟩ (by omega) rfl).mono ?_
    rintro z w' ⟨rfl, hb⟩
    refine ⟨ret_bool ?_, hb⟩
    rw [decide_eq_decide, cmpZ_neg, ← nat_cast_pow, Int.ofNat_lt]
    exact below_lo hA hk hg
  · obtain ⟨g, hg⟩ : ∃ g : Nat, k = e + (g : Int) := ⟨(k - e).toNat, by omega⟩
    refine (rbelow_hi na nb a b n c m d P Q (cmpZ P ((Q : Int) * 2 ^ g)) e k g w hx hy fQ hg (by omega) rfl).mono ?_
    rintro z w' ⟨rfl, hb⟩
    refine ⟨ret_bool ?_, hb⟩
    rw [decide_eq_decide, cmpZ_neg, ← nat_cast_pow, Int.ofNat_lt]
    exact below_hi hA hk hg

theorem rtimes_near (v t : Nat) (w : World) (h1 : v ≤ 9007199254740992) (ht : t ≤ 2045) (h2 : t = 0 ∨ B52 ≤ v) :
    Calls Try.prog 101 #[.float .f64 (floatOfInt .f64 (v : Int)), .int .i64 ((t : Int) - 1074)] w fun x w' => x = .returned (.float .f64 (min (t * B52 + v) INF)) ∧ Below w.heap.size w w' := by
  have hq : iv (t * B52 + v) = v * 2 ^ t := rung_of (by unfold B52; omega) h2
  have hr : ∃ r, floatOfInt .f64 (v : Int) = r ∧ r < INF ∧ iv r = v * 2 ^ K1074 ∧ (0 < v → 0 < r) := by
    rcases Nat.eq_zero_or_pos v with h0 | h0
    · subst h0; exact ⟨0, int_float0, by decide, by rw [iv_zero, Nat.zero_mul], fun h => by omega⟩
    · obtain ⟨E, F, e1, e2, e3, e4, e5⟩ := int_word h0 h1
      refine ⟨_, e1, ?_, e5, fun _ => by omega⟩
      unfold INF; omega
  obtain ⟨r, hr0, hr1, hr2, hr3⟩ := hr
  rw [hr0]
  rcases Nat.lt_or_ge 1074 t with h | h
  · obtain ⟨g, hg⟩ : ∃ g : Nat, t = K1074 + g := ⟨t - 1074, by unfold K1074; omega⟩
    have hg2 : t = 1074 + g := hg
    rw [show (t : Int) - 1074 = (g : Int) from by omega]
    refine rtimes_up r (t * B52 + v) g w (hr3 ?_) hr1 ?_ (by omega)
    · rcases h2 with h2 | h2
      · omega
      · unfold B52 at h2; omega
    · rw [hq, hr2, hg, Nat.pow_add, ← Nat.mul_assoc]
  · obtain ⟨g, hg⟩ : ∃ g : Nat, t + g = K1074 := ⟨1074 - t, by unfold K1074; omega⟩
    have hg2 : t + g = 1074 := hg
    rw [show (t : Int) - 1074 = -(g : Int) from by omega]
    have hiv : iv r = iv (t * B52 + v) * 2 ^ g := by
      rw [hq, hr2, Nat.mul_assoc, ← Nat.pow_add, hg]
    have hle : t * B52 + v ≤ r := iv_le_of (by rw [hiv]; exact Nat.le_mul_of_pos_right _ (Nat.two_pow_pos _))
    rw [Nat.min_eq_left (by omega)]
    refine (rtimes_dn r (t * B52 + v) g w hr1 hiv (by omega)).mono ?_
    rintro x w' ⟨rfl, rfl⟩
    exact ⟨rfl, Below.refl _ _⟩

theorem rtimes_inf (w : World) :
    Calls Try.prog 101 #[.float .f64 4607182418800017408, .int .i64 2000] w fun x w' => x = .returned (.float .f64 INF) ∧ Below w.heap.size w w' := by
  obtain ⟨l, hl⟩ : ∃ l, l = 2000 := ⟨_, rfl⟩
  obtain ⟨q, hq⟩ := scale_rung 4607182418800017408 l
  have h := rtimes_up 4607182418800017408 q l w (by decide) (by decide) hq (by omega)
  rw [show (l : Int) = 2000 from by omega] at h
  have hge : INF ≤ q := by
    refine iv_le_of ?_
    obtain ⟨k, hk⟩ : ∃ k, k = 1022 := ⟨_, rfl⟩
    have e1 : iv 4607182418800017408 = B52 * 2 ^ k := by
      have h := rung_of (m := B52) (t := k) (by decide) (.inr (Nat.le_refl _))
      rw [show k * B52 + B52 = 4607182418800017408 from by rw [hk]; decide] at h
      exact h
    rw [hq, iv_inf, e1, Nat.mul_assoc, ← Nat.pow_add]
    exact Nat.mul_le_mul_left _ (Nat.pow_le_pow_right (by decide) (by unfold K2046; omega))
  rw [Nat.min_eq_right hge] at h
  exact h
end Go.Proofs.Ytfanjmgbkmdmfaa
