/- Contracts of package bushelref02's Same (two lists alike) and of the law's awake. No conditions. -/
import Derived.Test.YtdbkgpakpadloaaGreatDoorNatR
import Derived.Test.YtdbkgpakpadloaaGreatDoorMNatB
namespace Go.Proofs.YtdbkgpakpadloaaGreatDoor
open Go.RowKit

/-- of two trim lists of one number -/
theorem same_nat {w : World} {a b : Option Addr} {n c m d : Nat} {z : Int} (ha : NatC w a n c z) (hb : NatC w b m d z) : m = n ∧ ∃ xs, RowK .u32 w a n c xs ∧ RowK .u32 w b n d xs := by
  obtain ⟨xs, h1, h2, h3, h4⟩ := ha
  obtain ⟨ys, k1, k2, k3, k4⟩ := hb
  have e := V_inj (B := 4294967296) (by decide) h2 k2 h3 k3 (h4.trans k4.symm)
  subst e
  have hmn : m = n := by rw [← k1.1, h1.1]
  subst hmn
  exact ⟨rfl, xs, h1, k1⟩
theorem two_pow32_text : IsText 4294967296 ⟨#[52, 50, 57, 52, 57, 54, 55, 50, 57, 54]⟩ :=
  ⟨[6, 9, 2, 7, 6, 9, 4, 9, 2, 4], by unfold Dig; decide, .inr (by decide), by decide, by rw [if_neg (by decide)]; rfl⟩
theorem two_pow32_ok : OkText ⟨#[52, 50, 57, 52, 57, 54, 55, 50, 57, 54]⟩ := by
  refine ⟨by decide, by decide, by decide, ?_⟩
  decide
theorem two_pow32_tv : tv ⟨#[52, 50, 57, 52, 57, 54, 55, 50, 57, 54]⟩ 10 = 4294967296 := by decide
theorem root_32 {r : Int} (h0 : 0 ≤ r) (h1 : r * r ≤ 4294967296) (h2 : 4294967296 < (r + 1) * (r + 1)) : r = 65536 := by
  rcases Int.lt_trichotomy r 65536 with h | h | h
  · have := Int.mul_le_mul (show r + 1 ≤ 65536 by omega) (show r + 1 ≤ 65536 by omega) (by omega) (by omega)
    omega
  · exact h
  · have := Int.mul_le_mul (show 65537 ≤ r by omega) (show 65537 ≤ r by omega) (by omega) (by omega)
    omega

theorem dig01 : Dig 4294967296 [0, 1] ∧ Dig 4294967296 [1, 0] ∧ Dig 4294967296 [65536] := by unfold Dig; decide
/-- a list laid out in the text is its number -/
theorem NatC.lit {w : World} {xs : List Int} {n : Nat} {z : Int} (h : Arr .u32 48 w n xs) {m : Nat} (hm : xs.length = m) (hl : m ≤ 8796093022208) (hd : Dig 4294967296 xs) (ht : Trimmed xs) (hv : V 4294967296 xs = z) : NatC w (some ⟨n, 0, none⟩) m m z := by
  subst hm
  exact ⟨xs, h.full hl, hd, ht, hv⟩

end Go.Proofs.YtdbkgpakpadloaaGreatDoor
