/- Contracts of package nat's small and move. Conditions: the words are below 2^32; at most 100000 of them. -/
import Derived.Test.YtnbhcemgoifkgaaNatE
namespace Go.Proofs.Ytnbhcemgoifkgaa
open Go.RowKit

theorem bits_or_u64 {a b : Int} (ha : 0 ≤ a) (ha2 : a < 18446744073709551616) (hb : 0 ≤ b) (hb2 : b < 18446744073709551616) : bits .or .u64 a b = ((a.toNat ||| b.toNat : Nat) : Int) := by
  have e : bits .or .u64 a b = IntKind.u64.wrap ((((a % 18446744073709551616).toNat ||| (b % 18446744073709551616).toNat) : Nat) : Int) := by
    show IntKind.u64.wrap ((BitVec.ofInt 64 a ||| BitVec.ofInt 64 b).toNat : Int) = _
    rw [BitVec.toNat_or, BitVec.toNat_ofInt, BitVec.toNat_ofInt]
    rfl
  rw [e, Int.emod_eq_of_lt ha ha2, Int.emod_eq_of_lt hb hb2]
  have h : a.toNat ||| b.toNat < 2 ^ 64 := Nat.or_lt_two_pow (by omega) (by omega)
  exact IntWalk.u64_in _ (by omega)
theorem bits_or_u32 {a b : Int} (ha : 0 ≤ a) (ha2 : a < 4294967296) (hb : 0 ≤ b) (hb2 : b < 4294967296) : bits .or .u32 a b = ((a.toNat ||| b.toNat : Nat) : Int) := by
  have e : bits .or .u32 a b = IntKind.u32.wrap ((((a % 4294967296).toNat ||| (b % 4294967296).toNat) : Nat) : Int) := by
    show IntKind.u32.wrap ((BitVec.ofInt 32 a ||| BitVec.ofInt 32 b).toNat : Int) = _
    rw [BitVec.toNat_or, BitVec.toNat_ofInt, BitVec.toNat_ofInt]
    rfl
  rw [e, Int.emod_eq_of_lt ha ha2, Int.emod_eq_of_lt hb hb2]
  have h : a.toNat ||| b.toNat < 2 ^ 32 := Nat.or_lt_two_pow (by omega) (by omega)
  exact IntWalk.u32_in _ (by omega)
theorem or_nat {h l s : Nat} (hl : l < 2 ^ s) : h * 2 ^ s ||| l = h * 2 ^ s + l := by
  rw [Nat.mul_comm, ← Nat.two_pow_add_eq_or_of_lt hl]
/-- a high and a low word -/
theorem hi_lo {h l : Int} (h0 : 0 ≤ h) (h1 : h < 4294967296) (l0 : 0 ≤ l) (l1 : l < 4294967296) : bits .or .u64 (h * 4294967296) l = h * 4294967296 + l := by
  rw [bits_or_u64 (by omega) (by omega) (by omega) (by omega)]
  obtain ⟨a, rfl⟩ := Int.eq_ofNat_of_zero_le h0
  obtain ⟨b, rfl⟩ := Int.eq_ofNat_of_zero_le l0
  have e : ((a : Int) * 4294967296).toNat = a * 2 ^ 32 := by omega
  rw [e, Int.toNat_natCast, or_nat (by omega)]
  omega
theorem hi_lo' {h l : Int} (h0 : 0 ≤ h) (h1 : h < 4294967296) (l0 : 0 ≤ l) (l1 : l < 4294967296) : bits .or .u64 l (h * 4294967296) = l + h * 4294967296 := by
  rw [bits_or_u64 (by omega) (by omega) (by omega) (by omega), Nat.or_comm, ← bits_or_u64 (by omega) (by omega) (by omega) (by omega), hi_lo h0 h1 l0 l1]
  omega

/-- one place of a division by a word, from above -/
theorem small_step {B W left X : Int} {os : List Int} {f : Nat → Int} {i : Nat} (hi : i < os.length) (hz : os.getD i 0 = 0) (hv : V B os * W + left * B ^ (i + 1) = X - vf B f (i + 1)) :
    V B (os.set i ((left * B + f i) / W)) * W + (left * B + f i) % W * B ^ i = X - vf B f i := by
  rw [V_set hi, hz, Int.sub_zero, Int.add_mul]
  have e1 : vf B f (i + 1) = vf B f i + f i * B ^ i := rfl
  rw [e1] at hv
  have e2 : (left * B + f i) / W * B ^ i * W + (left * B + f i) % W * B ^ i = (left * B + f i) * B ^ i := by
    rw [Int.mul_assoc, Int.mul_comm (B ^ i) W, ← Int.mul_assoc, ← Int.add_mul]
    congr 1
    rw [Int.mul_comm]
    exact Int.mul_ediv_add_emod _ _
  have e3 : (left * B + f i) * B ^ i = left * B ^ (i + 1) + f i * B ^ i := by rw [Int.add_mul, Int.pow_succ, Int.mul_comm (B ^ i), Int.mul_assoc]
  omega
theorem small_word {left x W : Int} (h0 : 0 ≤ left) (h1 : left < W) (x0 : 0 ≤ x) (x1 : x < 4294967296) : 0 ≤ (left * 4294967296 + x) / W ∧ (left * 4294967296 + x) / W < 4294967296 ∧ 0 ≤ (left * 4294967296 + x) % W ∧ (left * 4294967296 + x) % W < W :=
  ⟨Int.ediv_nonneg (by omega) (by omega), Int.ediv_lt_of_lt_mul (by omega) (by omega), Int.emod_nonneg _ (by omega), Int.emod_lt_of_pos _ (by omega)⟩
theorem small_end {Q W left X : Int} (h0 : 0 ≤ left) (h1 : left < W) (hv : Q * W + left = X) : Q = X / W ∧ left = X % W := by
  have h := (Int.ediv_emod_unique (a := X) (r := left) (q := Q) (b := W) (by omega)).2 ⟨by rw [Int.mul_comm]; omega, h0, h1⟩
  exact ⟨h.1.symm, h.2.symm⟩

/-- a call's answer: the trim list of z, and a word r -/
def RetNatW (w : World) (z r : Int) (e : Ending) (w' : World) : Prop := ∃ a n c, e = .returned (.tuple #[.slice a n c, .int .u32 r]) ∧ NatC w' a n c z ∧ Below w.heap.size w w' ∧ Fresh w.heap.size a
theorem RetNat.word {w w' : World} {z : Int} {a : Option Addr} {n c : Nat} (h : RetNat w z (.returned (.slice a n c)) w') (r : Int) : RetNatW w z r (.returned (.tuple #[.slice a n c, .int .u32 r])) w' := by
  obtain ⟨_, _, _, he, h1⟩ := h
  cases he
  exact ⟨_, _, _, rfl, h1⟩

set_option maxHeartbeats 1000000 in
theorem small_any (a : Option Addr) (n0 c : Nat) (W : Int) (xs : List Int) (w : World) (ha : RowK .u32 w a n0 c xs) (hx : Dig 4294967296 xs) (hn0 : n0 ≤ 100000) (hW0 : 0 < W) (hW1 : W < 4294967296) :
    Calls Try.prog 67 #[.slice a n0 c, .int .u32 W] w (RetNatW w (V 4294967296 xs / W) (V 4294967296 xs % W)) := by
  have HA := Lib.hid ha
  have HX := Lib.hid hx
  have SA := Lib.hid (size_any a n0 c xs w ha)
  have hn : tl xs ≤ n0 := by have := tl_le xs; rw [ha.1] at this; exact this
  have FX := Lib.hid (vf_tl (B := 4294967296) xs)
  clear ha hx
  generalize tl xs = n at *
  generalize V 4294967296 xs = X at *
  have hWq : (W == 0) = false := by simp; omega
  go_enter Try.func67, Try.ntmps67
  go_wp2_with fail
  refine SA.out.mono ?_; rintro e w1 ⟨rfl, rfl⟩
  go_wp2_with (at_make; refine make_arr .u32 22 55 4 info_u32 (by decide) Try.underlying22 rfl _ _ rfl .i64 .i64 _ _ n _ rfl rfl (by omega) (by omega) (by omega) ?_)
  intro w0 harr hb0 hs0
  have HB0 := Lib.hid hb0
  have HARR0 := Lib.hid harr
  clear hb0 harr
  go_wp2_with fail
  go_loopg [8, 7] n (fun k u lu wr => ∃ (left : Int) (os : List Int), u = .int .i64 ((k : Int) - 1) ∧ lu = .int .u64 left ∧ k ≤ n ∧ 0 ≤ left ∧ left < W ∧ Arr .u32 55 wr w.heap.size os ∧ os.length = n ∧ Dig 4294967296 os ∧
    V 4294967296 os * W + left * 4294967296 ^ k = X - vf 4294967296 (fun j => xs.getD j 0) k ∧ (∀ j, j < k → os.getD j 0 = 0) ∧ Below w.heap.size w wr)
  case atStart => exact ⟨0, _, rfl, rfl, Nat.le_refl _, by omega, by omega, HARR0.out, by simp, Dig.replicate (by decide) _, by rw [V_replicate, FX.out]; omega, fun j _ => getD_replicate _ _, HB0.out⟩
  case round =>
    obtain ⟨left, os, rfl, rfl, hk, hl0, hl1, harr, hlo, hdo, hv, hzr, hbl⟩ := hrel
    have HARR := Lib.hid harr
    have HLO := Lib.hid hlo
    have HDO := Lib.hid hdo
    have HV := Lib.hid hv
    have HZR := Lib.hid hzr
    have HBL := Lib.hid hbl
    clear harr hlo hdo hv hzr
    by_cases h0 : gk = 0
    · subst h0
      have hl2 := HLO.out
      obtain ⟨hq, hr⟩ := small_end (Q := V 4294967296 os) (X := X) hl0 hl1 (by have h := HV.out; rw [Int.pow_zero, Int.mul_one] at h; rw [h]; exact Int.sub_zero X)
      have hret := RetNat.cut HARR.out HDO.out (by rw [hl2]; omega) hq HBL.out (Nat.le_refl _)
      have HR := Lib.hid hr
      have hfull := HARR.out.full (by rw [hl2]; omega)
      rw [hl2] at hret hfull
      have HS := Lib.hid (size_any _ _ _ _ _ hfull)
      have htl := tl_le os
      rw [hl2] at htl
      clear hfull hl2 hbl hq hr
      generalize tl os = t at *
      have HRET : Hid (RetNatW w (X / W) (X % W) (.returned (.tuple #[.slice (some ⟨w.heap.size, 0, none⟩) t n, .int .u32 left])) wr) := Lib.hid (HR.out ▸ hret.word left)
      clear hret
      go_wp2_with fail
      refine HS.out.mono ?_; rintro e w1 ⟨rfl, rfl⟩
      go_wp2_with fail
      go_ret2
      exact HRET.out
    · obtain ⟨j, hj⟩ : ∃ j, gk = j + 1 := ⟨gk - 1, by omega⟩
      subst hj
      rw [show ((j + 1 : Nat) : Int) - 1 = (j : Int) from by omega]
      obtain ⟨-, -, -, h4⟩ := HA.out.below hbl (Nat.le_refl _)
      rcases h4 with hcap0 | ⟨ba, oa, rfl, -, hc⟩
      · have := HA.out.2.1; omega
      have hc1 := hc j (by omega)
      have hxr := HX.out.at (by decide) j
      obtain ⟨x, hxx⟩ : ∃ d, xs.getD j 0 = d := ⟨_, rfl⟩
      rw [hxx] at hc1 hxr
      have HXX := Lib.hid hxx
      have hco := HARR.out.cell (i := j) (by rw [HLO.out]; omega)
      have hfo := HARR.out.frozen j
      obtain ⟨q0, q1, r0, r1⟩ := small_word hl0 hl1 hxr.1 hxr.2
      have g0 : (0 : Int) ≤ (j : Int) := by omega
      have g1 : (j : Int) < (n0 : Int) := by omega
      have g2 : (j : Int) < (n : Int) := by omega
      have e1 : IntKind.u64.wrap (left * 4294967296) = left * 4294967296 := IntWalk.u64_in _ (by omega)
      have e2 := hi_lo hl0 (by omega) hxr.1 hxr.2
      clear hc hxx h0 hbl
      go_wp2_with fail
      go_roundg j
      case measure => omega
      case rel => exact ⟨_, os.set j ((left * 4294967296 + x) / W), rfl, rfl, by omega, r0, r1, HARR.out.set _ _, by rw [List.length_set]; exact HLO.out, HDO.out.set _ q0 q1,
        (by have h := small_step (B := 4294967296) (f := fun j => xs.getD j 0) (by rw [HLO.out]; omega) (HZR.out j (by omega)) HV.out; rw [← HXX.out]; exact h), fun i hi => by rw [getD_set_ne (by omega)]; exact HZR.out i (by omega), HBL.out.setCell (Nat.le_refl _) _⟩
end Go.Proofs.Ytnbhcemgoifkgaa
