/- Contract of package nat's Shr. Conditions: the words are below 2^32; at most 100000 of them. Any shift. -/
import Derived.Test.YtnbhcemgoifkgaaNatJ
import Derived.Deep.DeepCutAuto
namespace Go.Proofs.Ytnbhcemgoifkgaa
open Go.RowKit

theorem vf_split {B : Int} (f : Nat → Int) (k : Nat) : ∀ n, vf B f (k + n) = vf B f k + B ^ k * vf B (fun j => f (k + j)) n
  | 0 => by simp [vf]
  | n + 1 => by
    have e1 : vf B f (k + (n + 1)) = vf B f (k + n) + f (k + n) * B ^ (k + n) := rfl
    have e2 : vf B (fun j => f (k + j)) (n + 1) = vf B (fun j => f (k + j)) n + f (k + n) * B ^ n := rfl
    rw [e1, e2, vf_split f k n, Int.mul_add, Int.pow_add, ← Int.mul_assoc (f (k + n)), Int.mul_comm (f (k + n)), Int.mul_assoc, ← Int.add_assoc]
/-- the places from k on are the value by a power of the base -/
theorem vf_div {B : Int} (hB : 0 < B) {f : Nat → Int} (hf : ∀ i, 0 ≤ f i ∧ f i < B) (k n : Nat) : vf B (fun j => f (k + j)) n = vf B f (k + n) / B ^ k := by
  obtain ⟨h0, h1⟩ := vf_bd hB k fun i _ => hf i
  have hp : 0 < B ^ k := Int.pow_pos hB
  rw [vf_split, Int.add_mul_ediv_left _ _ (by omega), Int.ediv_eq_zero_of_lt h0 h1, Int.zero_add]

/-- one place of a shift down -/
theorem shr_step {B P R : Int} (hP : 0 < P) (hR : 0 < R) (hB : P * R = B) {os : List Int} {y : Nat → Int} {i : Nat} (hi : i < os.length) (hz : os.getD i 0 = 0) (hy : ∀ j, 0 ≤ y j ∧ y j < B)
    (hv : V B os + y i / P * B ^ i = vf B y (i + 1) / P) :
    V B (os.set i ((y i + y (i + 1) * B) / P % B)) + y (i + 1) / P * B ^ (i + 1) = vf B y (i + 2) / P := by
  have e0 : vf B y (i + 2) = vf B y (i + 1) + y (i + 1) * R * B ^ i * P := by
    show vf B y (i + 1) + y (i + 1) * B ^ (i + 1) = _
    rw [Int.pow_succ, ← hB, Int.mul_assoc _ _ P, Int.mul_assoc, ← Int.mul_assoc R, Int.mul_comm R, Int.mul_assoc, Int.mul_comm R, ← Int.mul_assoc _ P R]
  have e1 : vf B y (i + 2) / P = vf B y (i + 1) / P + y (i + 1) * R * B ^ i := by rw [e0, Int.add_mul_ediv_right _ _ (by omega)]
  have e2 : (y i + y (i + 1) * B) / P = y i / P + y (i + 1) * R := by
    rw [← hB, show y (i + 1) * (P * R) = y (i + 1) * R * P from by rw [Int.mul_assoc, Int.mul_comm P], Int.add_mul_ediv_right _ _ (by omega)]
  have e3 : (y i / P + y (i + 1) * R) / B = y (i + 1) / P := by
    have h0 : 0 ≤ y i / P := Int.ediv_nonneg (hy i).1 (by omega)
    have h1 : y i / P < R := Int.ediv_lt_of_lt_mul hP (by rw [Int.mul_comm, hB]; exact (hy i).2)
    rw [← hB, Int.mul_comm P, ← Int.ediv_ediv_of_nonneg (by omega), Int.add_mul_ediv_right _ _ (by omega), Int.ediv_eq_zero_of_lt h0 h1, Int.zero_add]
  rw [V_set hi, hz, Int.sub_zero, e1, ← hv, e2]
  have e4 := Int.emod_add_mul_ediv (y i / P + y (i + 1) * R) B
  rw [e3] at e4
  have e5 : (y i / P + y (i + 1) * R) % B * B ^ i + y (i + 1) / P * B ^ (i + 1) = (y i / P + y (i + 1) * R) * B ^ i := by
    rw [Int.pow_succ, Int.mul_comm (B ^ i) B, ← Int.mul_assoc, ← Int.add_mul]
    congr 1
    rw [Int.mul_comm (y (i + 1) / P)]
    exact e4
  rw [Int.add_mul] at e5
  omega
theorem pow_ks {N k s : Nat} (h : N = 32 * k + s) : (2 : Int) ^ N = 4294967296 ^ k * 2 ^ s := by
  rw [h, Int.pow_add, Int.pow_mul]; rfl
theorem RetNat.nil {w : World} {z : Int} (hz : z = 0) : RetNat w z (.returned (.slice none 0 0)) w :=
  ⟨none, 0, 0, rfl, ⟨[], RowK.nil, Dig.nil, .inl rfl, hz.symm⟩, Below.refl _ _, Fresh.nil⟩
theorem shr_nil {w : World} {X : Int} {N k s n : Nat} (h0 : 0 ≤ X) (h1 : X < 4294967296 ^ n) (hks : N = 32 * k + s) (hnk : n ≤ k) : RetNat w (X / 2 ^ N) (.returned (.slice none 0 0)) w := by
  refine RetNat.nil (Int.ediv_eq_zero_of_lt h0 ?_)
  rw [pow_ks hks]
  have h2 : (4294967296 : Int) ^ n ≤ 4294967296 ^ k := ipow_le (by decide) hnk
  have h3 : (1 : Int) ≤ 2 ^ s := Int.pow_pos (by decide)
  have h4 : (4294967296 : Int) ^ k * 1 ≤ 4294967296 ^ k * 2 ^ s := Int.mul_le_mul_of_nonneg_left h3 (Int.le_of_lt (Int.pow_pos (by decide)))
  omega
theorem shr_at {xs os : List Int} {k s i : Nat} {x y v : Int} (hx : Dig 4294967296 xs) (hs : s ≤ 31) (hi : i < os.length) (hz : os.getD i 0 = 0)
    (hv : V 4294967296 os + xs.getD (k + i) 0 / 2 ^ s * 4294967296 ^ i = vf 4294967296 (fun j => xs.getD (k + j) 0) (i + 1) / 2 ^ s) (e1 : xs.getD (k + i) 0 = x) (e2 : xs.getD (k + i + 1) 0 = y) (e3 : v = x + y * 4294967296) :
    V 4294967296 (os.set i (v / 2 ^ s % 4294967296)) + xs.getD (k + (i + 1)) 0 / 2 ^ s * 4294967296 ^ (i + 1) = vf 4294967296 (fun j => xs.getD (k + j) 0) (i + 1 + 1) / 2 ^ s := by
  obtain ⟨R, hR⟩ := pow_split (show s ≤ 32 by omega)
  have hp : (0 : Int) < 2 ^ s := Int.pow_pos (by decide)
  have hR0 : 0 < R := by
    rcases Int.lt_or_le 0 R with h | h
    · exact h
    · have := Int.mul_nonpos_of_nonneg_of_nonpos (Int.le_of_lt hp) h
      omega
  have h := shr_step hp hR0 hR hi hz (y := fun j => xs.getD (k + j) 0) (fun j => hx.at (by decide) (k + j)) hv
  rw [e3, ← e1, ← e2]
  exact h
theorem shr_end {xs os : List Int} {X : Int} {N k s n i : Nat} (hx : Dig 4294967296 xs) (hks : N = 32 * k + s) (hkn : k ≤ n) (hi : i = n - k) (hf : vf 4294967296 (fun j => xs.getD j 0) n = X) (hz : xs.getD n 0 = 0)
    (hv : V 4294967296 os + xs.getD (k + i) 0 / 2 ^ s * 4294967296 ^ i = vf 4294967296 (fun j => xs.getD (k + j) 0) (i + 1) / 2 ^ s) : V 4294967296 os = X / 2 ^ N := by
  have e : k + i = n := by omega
  have e1 : vf 4294967296 (fun j => xs.getD (k + j) 0) (i + 1) = vf 4294967296 (fun j => xs.getD (k + j) 0) i + xs.getD (k + i) 0 * 4294967296 ^ i := rfl
  rw [e1, e, hz, vf_div (by decide) (fun j => hx.at (by decide) j) k i, e, hf, Int.zero_mul, Int.add_zero] at hv
  rw [pow_ks hks, ← Int.ediv_ediv_of_nonneg (Int.le_of_lt (Int.pow_pos (by decide))), ← hv]
  simp

set_option maxHeartbeats 1000000 in
theorem shr_any (a : Option Addr) (n0 c : Nat) (nn : Int) (N k s : Nat) (xs : List Int) (w : World) (ha : RowK .u32 w a n0 c xs) (hx : Dig 4294967296 xs) (hn0 : n0 ≤ 100000) (hN : nn.toNat = N) (hks : N = 32 * k + s) (hs : s ≤ 31) (hnn : nn ≤ 9223372036854775807) :
    Calls Try.prog 35 #[.slice a n0 c, .int .i64 nn] w (RetNat w (V 4294967296 xs / 2 ^ N)) := by
  have HA := Lib.hid ha
  have HX := Lib.hid hx
  have SA := Lib.hid (size_any a n0 c xs w ha)
  have hn : tl xs ≤ n0 := by have := tl_le xs; rw [ha.1] at this; exact this
  have FX := Lib.hid (vf_tl (B := 4294967296) xs)
  have Z1 := Lib.hid (fun i (h : tl xs ≤ i) => tl_zero (xs := xs) h)
  clear ha hx
  have HX0 := Lib.hid (V_bd (B := 4294967296) (by decide) HX.out).1
  have HXN := Lib.hid (tl_bd (B := 4294967296) (by decide) HX.out)
  generalize tl xs = n at *
  generalize V 4294967296 xs = X at *
  have hk1 : (N : Int) / 32 = (k : Int) := by omega
  have hs1 : (N : Int) % 32 = (s : Int) := by omega
  have HKS := Lib.hid hks
  have HN := Lib.hid hN
  have hNb : (N : Int) ≤ 9223372036854775807 := by omega
  clear hks hN
  go_enter Try.func35, Try.ntmps35
  go_upto_if 10 with fail
  go_cut [1] (fun v wx => v = .int .i64 (N : Int) ∧ w = wx)
  case first =>
    by_cases hneg : nn < 0
    · go_wp2_with fail
      go_meet
      exact ⟨congrArg (Value.int .i64) (by have := HN.out; omega), rfl⟩
    · go_wp2_with fail
      go_meet
      exact ⟨congrArg (Value.int .i64) (by have := HN.out; omega), rfl⟩
  case rest =>
    obtain ⟨rfl, rfl⟩ := hcut
    go_wp2_with fail
    refine SA.out.mono ?_; rintro e w1 ⟨rfl, rfl⟩
    by_cases hkn : n ≤ k
    · go_wp2_with fail
      go_ret
      exact shr_nil HX0.out HXN.out HKS.out hkn
    · go_wp2_with (at_make; refine make_arr .u32 22 55 4 info_u32 (by decide) Try.underlying22 rfl _ _ rfl .i64 .i64 _ _ (n - k) _ rfl rfl (by omega) (by omega) (by omega) ?_)
      intro w0 harr hb0 hs0
      have HB0 := Lib.hid hb0
      have HARR0 := Lib.hid harr
      clear hb0 harr
      go_wp2_with fail
      go_loopg [24] (n - k) (fun g u wr => ∃ (i : Nat) (os : List Int), u = .int .i64 i ∧ i + g = n - k ∧ Arr .u32 55 wr w.heap.size os ∧ os.length = n - k ∧ Dig 4294967296 os ∧
        V 4294967296 os + xs.getD (k + i) 0 / 2 ^ s * 4294967296 ^ i = vf 4294967296 (fun j => xs.getD (k + j) 0) (i + 1) / 2 ^ s ∧ (∀ j, i ≤ j → os.getD j 0 = 0) ∧ Below w.heap.size w wr)
      case atStart => exact ⟨0, _, rfl, by omega, HARR0.out, by simp, Dig.replicate (by decide) _, by rw [V_replicate]; simp [vf], fun j _ => getD_replicate _ _, HB0.out⟩
      case round =>
        obtain ⟨i, os, rfl, hk, harr, hlo, hdo, hv, hzr, hbl⟩ := hrel
        have HK := Lib.hid hk
        have HARR := Lib.hid harr
        have HLO := Lib.hid hlo
        have HDO := Lib.hid hdo
        have HV := Lib.hid hv
        have HZR := Lib.hid hzr
        have HBL := Lib.hid hbl
        clear hk harr hlo hdo hv hzr
        by_cases hi : i < n - k
        · obtain ⟨-, -, -, h4⟩ := HA.out.below hbl (Nat.le_refl _)
          rcases h4 with hcap0 | ⟨ba, oa, rfl, -, hc⟩
          · have := HA.out.2.1; omega
          have hc1 := hc (k + i) (by omega)
          have hxr := HX.out.at (by decide) (k + i)
          obtain ⟨x, hxx⟩ : ∃ d, xs.getD (k + i) 0 = d := ⟨_, rfl⟩
          rw [hxx] at hc1 hxr
          have HXX := Lib.hid hxx
          have hco := HARR.out.cell (i := i) (by rw [HLO.out]; omega)
          have hfo := HARR.out.frozen i
          have g0 : (0 : Int) ≤ (i : Int) + (k : Int) := by omega
          have g1 : (i : Int) + (k : Int) < (n0 : Int) := by omega
          have g2 : ((i : Int) + (k : Int)).toNat = k + i := by omega
          by_cases hi1 : k + i + 1 < n
          · have hc2 := hc (k + i + 1) (by omega)
            have hyr := HX.out.at (by decide) (k + i + 1)
            obtain ⟨y, hyy⟩ : ∃ d, xs.getD (k + i + 1) 0 = d := ⟨_, rfl⟩
            rw [hyy] at hc2 hyr
            have HYY := Lib.hid hyy
            have e1 : IntKind.u64.wrap (y * 4294967296) = y * 4294967296 := IntWalk.u64_in _ (by omega)
            have e2 := hi_lo' hyr.1 hyr.2 hxr.1 hxr.2
            have g3 : (i : Int) + (k : Int) + 1 < (n0 : Int) := by omega
            have g4 : ((i : Int) + (k : Int) + 1).toNat = k + i + 1 := by omega
            have g5 : (i : Int) + (k : Int) + 1 < (n : Int) := by omega
            clear hc hxx hyy hbl
            go_wp2_with fail
            go_roundg (gk - 1)
            case measure => have := HK.out; omega
            case rel => exact ⟨i + 1, os.set i ((x + y * 4294967296) / 2 ^ s % 4294967296), by go_num, by have := HK.out; omega, HARR.out.set _ _, by rw [List.length_set]; exact HLO.out, HDO.out.set _ (by omega) (by omega),
              shr_at HX.out hs (by rw [HLO.out]; exact hi) (HZR.out i (Nat.le_refl _)) HV.out HXX.out HYY.out rfl, set_above HZR.out, HBL.out.setCell (Nat.le_refl _) _⟩
          · have HYY : Hid (xs.getD (k + i + 1) 0 = 0) := Lib.hid (Z1.out _ (by omega))
            have g5 : ¬ ((i : Int) + (k : Int) + 1 < (n : Int)) := by omega
            clear hc hxx hbl
            go_wp2_with fail
            go_roundg (gk - 1)
            case measure => have := HK.out; omega
            case rel => exact ⟨i + 1, os.set i (x / 2 ^ s % 4294967296), by go_num, by have := HK.out; omega, HARR.out.set _ _, by rw [List.length_set]; exact HLO.out, HDO.out.set _ (by omega) (by omega),
              shr_at HX.out hs (by rw [HLO.out]; exact hi) (HZR.out i (Nat.le_refl _)) HV.out HXX.out HYY.out (by omega), set_above HZR.out, HBL.out.setCell (Nat.le_refl _) _⟩
        · have HIN : Hid (i = n - k) := Lib.hid (by have := HK.out; omega)
          have hl2 := HLO.out
          have hval : V 4294967296 os = X / 2 ^ N := shr_end HX.out HKS.out (by omega) HIN.out FX.out (Z1.out _ (by omega)) HV.out
          have hret := RetNat.cut HARR.out HDO.out (by rw [hl2]; omega) hval HBL.out (Nat.le_refl _)
          have hfull := HARR.out.full (by rw [hl2]; omega)
          rw [hl2] at hret hfull
          have HS := Lib.hid (size_any _ _ _ _ _ hfull)
          have htl := tl_le os
          rw [hl2] at htl
          clear hfull hl2 hbl hval
          generalize tl os = t at *
          have HRET := Lib.hid hret
          clear hret
          go_wp2_with fail
          refine HS.out.mono ?_; rintro e w1 ⟨rfl, rfl⟩
          go_wp2_with fail
          go_ret
          exact HRET.out
end Go.Proofs.Ytnbhcemgoifkgaa
