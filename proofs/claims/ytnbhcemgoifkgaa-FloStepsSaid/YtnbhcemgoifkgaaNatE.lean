/- Contract of package nat's Mul. Conditions: the words are below 2^32; at most 100000 of them. -/
import Derived.Test.YtnbhcemgoifkgaaNatD
namespace Go.Proofs.Ytnbhcemgoifkgaa
open Go.RowKit

theorem vf_tl {B : Int} (xs : List Int) : vf B (fun j => xs.getD j 0) (tl xs) = V B xs := by
  have h := tl_V (B := B) xs
  unfold V at h
  rw [tl_len] at h
  rw [← vf_congr (f := fun j => (xs.take (tl xs)).getD j 0) _ fun i hi => getD_take hi]
  exact h

/-- one place of a product's row -/
theorem prod_step {B s c : Int} {f g : Nat → Int} {os : List Int} {i k : Nat} {W : Int} (hj : i + k < os.length) (hv : V B os + c * B ^ (i + k) = W + f i * vf B g k * B ^ i)
    (hs : s = os.getD (i + k) 0 + f i * g k + c) :
    V B (os.set (i + k) (s % B)) + s / B * B ^ (i + (k + 1)) = W + f i * vf B g (k + 1) * B ^ i := by
  rw [← Nat.add_assoc, set_step hj]
  have e1 : vf B g (k + 1) = vf B g k + g k * B ^ k := rfl
  rw [e1, Int.mul_add, Int.add_mul]
  have e2 : f i * (g k * B ^ k) * B ^ i = f i * g k * B ^ (i + k) := by
    rw [Int.pow_add, ← Int.mul_assoc, Int.mul_assoc, Int.mul_comm (B ^ k) (B ^ i)]
  rw [e2, show s - os.getD (i + k) 0 = f i * g k + c from by omega, Int.add_mul]
  omega
theorem prod_row {B c : Int} {f g : Nat → Int} {os : List Int} {i m : Nat} {Y : Int} (hj : i + m < os.length) (hz : os.getD (i + m) 0 = 0) (hy : vf B g m = Y)
    (hv : V B os + c * B ^ (i + m) = vf B f i * Y + f i * vf B g m * B ^ i) : V B (os.set (i + m) c) = vf B f (i + 1) * Y := by
  rw [V_set hj, hz, Int.sub_zero, hv]
  have e1 : vf B f (i + 1) = vf B f i + f i * B ^ i := rfl
  rw [e1, Int.add_mul, hy, Int.mul_assoc (f i), Int.mul_assoc (f i), Int.mul_comm Y]

set_option maxHeartbeats 1000000 in
theorem nmul_any (a b : Option Addr) (n0 c m0 d : Nat) (xs ys : List Int) (w : World) (ha : RowK .u32 w a n0 c xs) (hb : RowK .u32 w b m0 d ys) (hx : Dig 4294967296 xs) (hy : Dig 4294967296 ys) (hn0 : n0 ≤ 100000) (hm0 : m0 ≤ 100000) :
    Calls Try.prog 24 #[.slice a n0 c, .slice b m0 d] w (RetNat w (V 4294967296 xs * V 4294967296 ys)) := by
  have HA := Lib.hid ha
  have HB := Lib.hid hb
  have HX := Lib.hid hx
  have HY := Lib.hid hy
  have SA := Lib.hid (size_any a n0 c xs w ha)
  have SB := Lib.hid (size_any b m0 d ys w hb)
  have hn : tl xs ≤ n0 := by have := tl_le xs; rw [ha.1] at this; exact this
  have hm : tl ys ≤ m0 := by have := tl_le ys; rw [hb.1] at this; exact this
  have FX := Lib.hid (vf_tl (B := 4294967296) xs)
  have FY := Lib.hid (vf_tl (B := 4294967296) ys)
  clear ha hb hx hy
  generalize tl xs = n at *
  generalize tl ys = m at *
  generalize V 4294967296 xs = X at *
  generalize V 4294967296 ys = Y at *
  go_enter Try.func24, Try.ntmps24
  go_wp2_with fail
  refine SA.out.mono ?_; rintro e w1 ⟨rfl, rfl⟩
  go_wp2_with fail
  refine SB.out.mono ?_; rintro e w1 ⟨rfl, rfl⟩
  go_wp2_with (at_make; refine make_arr .u32 22 55 4 info_u32 (by decide) Try.underlying22 rfl _ _ rfl .i64 .i64 _ _ (n + m) _ rfl rfl (by omega) (by omega) (by omega) ?_)
  intro w0 harr hb0 hs0
  have HB0 := Lib.hid hb0
  have HARR0 := Lib.hid harr
  clear hb0 harr
  go_wp2_with fail
  go_loopg [21] n (fun k u wr => ∃ (i : Nat) (os : List Int), u = .int .i64 i ∧ i + k = n ∧ Arr .u32 55 wr w.heap.size os ∧ os.length = n + m ∧ Dig 4294967296 os ∧
    V 4294967296 os = vf 4294967296 (fun j => xs.getD j 0) i * Y ∧ (∀ j, i + m ≤ j → os.getD j 0 = 0) ∧ Below w.heap.size w wr)
  case atStart => exact ⟨0, _, rfl, by omega, HARR0.out, by simp, Dig.replicate (by decide) _, by rw [V_replicate]; simp [vf], fun j _ => getD_replicate _ _, HB0.out⟩
  case round =>
    obtain ⟨i, os, rfl, hk, harr, hlo, hdo, hv, hzr, hbel⟩ := hrel
    have HK := Lib.hid hk
    have HARR := Lib.hid harr
    have HLO := Lib.hid hlo
    have HDO := Lib.hid hdo
    have HV := Lib.hid hv
    have HZR := Lib.hid hzr
    have HBE := Lib.hid hbel
    clear hk harr hlo hdo hv hzr
    by_cases hi : i < n
    · clear hbel
      go_wp2_with fail
      obtain ⟨wo, hwo⟩ : ∃ wo : World, wo = wr := ⟨_, rfl⟩
      subst hwo
      go_loopg [25, 9] m (fun k2 u cu wi => ∃ (k : Nat) (cy : Int) (os : List Int), u = .int .i64 k ∧ cu = .int .u64 cy ∧ k + k2 = m ∧ 0 ≤ cy ∧ cy ≤ 4294967295 ∧ Arr .u32 55 wi w.heap.size os ∧ os.length = n + m ∧ Dig 4294967296 os ∧
        V 4294967296 os + cy * 4294967296 ^ (i + k) = vf 4294967296 (fun j => xs.getD j 0) i * Y + xs.getD i 0 * vf 4294967296 (fun j => ys.getD j 0) k * 4294967296 ^ i ∧ (∀ j, i + m ≤ j → os.getD j 0 = 0) ∧ Below w.heap.size w wi)
      case atStart => exact ⟨0, 0, os, rfl, rfl, by omega, by omega, by omega, HARR.out, HLO.out, HDO.out, by rw [HV.out]; simp [vf], HZR.out, HBE.out⟩
      case round =>
        obtain ⟨k, cy, os2, rfl, rfl, hk2, hc0, hc1, harr2, hlo2, hdo2, hv2, hzr2, hbel2⟩ := hrel
        have HK2 := Lib.hid hk2
        have HARR2 := Lib.hid harr2
        have HLO2 := Lib.hid hlo2
        have HDO2 := Lib.hid hdo2
        have HV2 := Lib.hid hv2
        have HZR2 := Lib.hid hzr2
        have HBE2 := Lib.hid hbel2
        clear hk2 harr2 hlo2 hdo2 hv2 hzr2
        by_cases hkm : k < m
        · obtain ⟨-, -, -, ha4⟩ := HA.out.below hbel2 (Nat.le_refl _)
          obtain ⟨-, -, -, hb4⟩ := HB.out.below hbel2 (Nat.le_refl _)
          rcases ha4 with hcap0 | ⟨ba, oa, rfl, -, hca⟩
          · have := HA.out.2.1; omega
          rcases hb4 with hcap0 | ⟨bb, ob, rfl, -, hcb⟩
          · have := HB.out.2.1; omega
          have hca2 := hca i (by omega)
          have hcb2 := hcb k (by omega)
          have hco := HARR2.out.cell (i := i + k) (by rw [HLO2.out]; omega)
          have hfo := HARR2.out.frozen (i + k)
          have hxr := HX.out.at (by decide) i
          have hyr := HY.out.at (by decide) k
          have hor := HDO2.out.at (by decide) (i + k)
          obtain ⟨dx, hdx⟩ : ∃ d, xs.getD i 0 = d := ⟨_, rfl⟩
          obtain ⟨e, he⟩ : ∃ d, ys.getD k 0 = d := ⟨_, rfl⟩
          obtain ⟨o, ho⟩ : ∃ d, os2.getD (i + k) 0 = d := ⟨_, rfl⟩
          rw [hdx] at hca2 hxr
          rw [he] at hcb2 hyr
          rw [ho] at hco hor
          have HDX := Lib.hid hdx
          have HE := Lib.hid he
          have HO := Lib.hid ho
          obtain ⟨hp0, hp1⟩ := prod_bd (A := 4294967295) (B := 4294967295) hxr.1 hyr.1 (by omega) (by omega)
          have e1 : IntKind.i64.wrap ((i : Int) + (k : Int)) = (i : Int) + (k : Int) := IntWalk.i64_in _ (by omega)
          have e2 : IntKind.u64.wrap (dx * e) = dx * e := IntWalk.u64_in _ (by omega)
          have e3 : IntKind.u64.wrap (dx * e + o) = dx * e + o := IntWalk.u64_in _ (by omega)
          have e4 : IntKind.u64.wrap (dx * e + o + cy) = dx * e + o + cy := IntWalk.u64_in _ (by omega)
          have e5 : ((i : Int) + (k : Int)).toNat = i + k := by omega
          have l1 : (0 : Int) ≤ (i : Int) + (k : Int) := by omega
          have l2 : (i : Int) + (k : Int) < (n : Int) + (m : Int) := by omega
          have l3 : (i : Int) < (n0 : Int) := by omega
          have l4 : (k : Int) < (m0 : Int) := by omega
          clear hca hcb he ho hdx hbel2
          go_wp2_with fail
          go_quiet (fail)
          clear e1 e2 e3 e4 e5
          have hs : Hid (dx * e + o + cy = os2.getD (i + k) 0 + xs.getD i 0 * ys.getD k 0 + cy) := by rw [HO.out, HDX.out, HE.out]; exact Lib.hid (by omega)
          generalize hS : dx * e + o + cy = S at *
          have hS0 : 0 ≤ S := by omega
          have hS1 : S ≤ 18446744073709551615 := by omega
          clear hS hp0 hp1
          go_wp2_with fail
          go_roundg (gk - 1)
          case measure => have := HK2.out; omega
          case rel => exact ⟨k + 1, S / 4294967296, os2.set (i + k) (S % 4294967296), by go_num, rfl, by have := HK2.out; omega, by omega, by omega, HARR2.out.set _ _, by rw [List.length_set]; exact HLO2.out, HDO2.out.set _ (by omega) (by omega),
            prod_step (f := fun j => xs.getD j 0) (g := fun j => ys.getD j 0) (by rw [HLO2.out]; omega) HV2.out hs.out, fun j hj => by rw [getD_set_ne (by omega)]; exact HZR2.out j hj, (below_drewN HBE2.out nq).setCell (Nat.le_refl _) _⟩
        · obtain rfl : k = m := by have := HK2.out; omega
          have hco := HARR2.out.cell (i := i + k) (by rw [HLO2.out]; omega)
          have hfo := HARR2.out.frozen (i + k)
          rw [HZR2.out (i + k) (by omega)] at hco
          have hcw : cy % 4294967296 = cy := by omega
          clear hbel2
          go_wp2_with fail
          go_roundg (n - i - 1)
          case measure => have := HK.out; omega
          case rel => exact ⟨i + 1, os2.set (i + k) cy, by go_num, by have := HK.out; omega, HARR2.out.set _ _, by rw [List.length_set]; exact HLO2.out, HDO2.out.set _ (by omega) (by omega),
            prod_row (f := fun j => xs.getD j 0) (by rw [HLO2.out]; omega) (HZR2.out _ (by omega)) FY.out HV2.out, fun j hj => by rw [getD_set_ne (by omega)]; exact HZR2.out j (by omega), HBE2.out.setCell (Nat.le_refl _) _⟩
    · have HIN : Hid (i = n) := Lib.hid (by have := HK.out; omega)
      have hl2 := HLO.out
      have hret := RetNat.cut HARR.out HDO.out (by rw [hl2]; omega) (show V 4294967296 os = X * Y by rw [HV.out, HIN.out, FX.out]) HBE.out (Nat.le_refl _)
      have hfull := HARR.out.full (by rw [hl2]; omega)
      rw [hl2] at hret hfull
      have HS := Lib.hid (size_any _ _ _ _ _ hfull)
      have htl := tl_le os
      rw [hl2] at htl
      clear hfull hl2 hbel
      generalize tl os = t at *
      have HRET := Lib.hid hret
      clear hret
      go_wp2_with fail
      refine HS.out.mono ?_; rintro e w1 ⟨rfl, rfl⟩
      go_wp2_with fail
      go_ret
      exact HRET.out
end Go.Proofs.Ytnbhcemgoifkgaa
