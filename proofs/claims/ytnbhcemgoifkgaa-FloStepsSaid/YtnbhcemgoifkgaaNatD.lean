/- Contract of package nat's Sub. Conditions: the words are below 2^32; at most 100000 of them. -/
import Derived.Test.YtnbhcemgoifkgaaNatC
namespace Go.Proofs.Ytnbhcemgoifkgaa
open Go.RowKit

theorem tl_vf {B : Int} (xs : List Int) : vf B (fun i => xs.getD i 0) (tl xs) = V B xs := by
  obtain ⟨m, hm⟩ : ∃ m, xs.length = tl xs + m := ⟨xs.length - tl xs, by have := tl_le xs; omega⟩
  show _ = vf B _ xs.length
  rw [hm]
  exact (vf_zero (tl xs) m fun i h _ => tl_zero h).symm
/-- a difference of words as the code reckons it -/
theorem sub_word {x y bo : Int} (hx0 : 0 ≤ x) (hx1 : x < 4294967296) (hy0 : 0 ≤ y) (hy1 : y < 4294967296) (hb0 : 0 ≤ bo) (hb1 : bo ≤ 1) :
    IntKind.u64.wrap (IntKind.u64.wrap (x - bo) - y) % 4294967296 = (x - bo - y) % 4294967296 ∧ IntKind.u64.wrap (IntKind.u64.wrap (x - bo) - y) / 9223372036854775808 = -((x - bo - y) / 4294967296) := by
  simp only [IntKind.wrap, IntKind.bits, IntKind.signed]
  simp
  omega
theorem sub_word0 {x bo : Int} (hx0 : 0 ≤ x) (hx1 : x < 4294967296) (hb0 : 0 ≤ bo) (hb1 : bo ≤ 1) :
    IntKind.u64.wrap (x - bo) % 4294967296 = (x - bo) % 4294967296 ∧ IntKind.u64.wrap (x - bo) / 9223372036854775808 = -((x - bo) / 4294967296) := by
  simp only [IntKind.wrap, IntKind.bits, IntKind.signed]
  simp
  omega
theorem sub_bo {s : Int} (h1 : -4294967296 ≤ s) (h2 : s < 4294967296) : 0 ≤ -(s / 4294967296) ∧ -(s / 4294967296) ≤ 1 := by omega
theorem sub_step {B s bo : Int} {os : List Int} {f g : Nat → Int} {i : Nat} (hi : i < os.length) (hz : os.getD i 0 = 0) (hv : V B os - bo * B ^ i = vf B f i - vf B g i) (hs : s = f i - bo - g i) :
    V B (os.set i (s % B)) - -(s / B) * B ^ (i + 1) = vf B f (i + 1) - vf B g (i + 1) := by
  have h := set_step (B := B) (s := s) hi
  rw [hz, Int.sub_zero] at h
  have e1 : vf B f (i + 1) = vf B f i + f i * B ^ i := rfl
  have e2 : vf B g (i + 1) = vf B g i + g i * B ^ i := rfl
  rw [e1, e2, Int.neg_mul]
  have e3 : s * B ^ i = f i * B ^ i - bo * B ^ i - g i * B ^ i := by rw [hs, Int.sub_mul, Int.sub_mul]
  omega
theorem sub_end {xs ys os : List Int} {bo z : Int} {t : Nat} (hy : Dig 4294967296 ys) (ho : Dig 4294967296 os) (hl : os.length = t) (hbx : V 4294967296 xs < 4294967296 ^ t) (hvx : vf 4294967296 (fun i => xs.getD i 0) t = V 4294967296 xs) (hb0 : 0 ≤ bo) (hb1 : bo ≤ 1)
    (hz : V 4294967296 xs - V 4294967296 ys = z) (hge : V 4294967296 ys ≤ V 4294967296 xs) (hv : V 4294967296 os - bo * 4294967296 ^ t = vf 4294967296 (fun i => xs.getD i 0) t - vf 4294967296 (fun i => ys.getD i 0) t) : V 4294967296 os = z := by
  rw [hvx, V_above (B := 4294967296) (by decide) hy t (by omega)] at hv
  obtain ⟨h1, h2⟩ := V_bd (B := 4294967296) (by decide) ho
  rw [hl] at h2
  rcases (by omega : bo = 0 ∨ bo = 1) with rfl | rfl
  · rw [Int.zero_mul] at hv; omega
  · rw [Int.one_mul] at hv; omega

/-- a call's answer: the trim list of z, and true -/
def RetNatB (w : World) (z : Int) (e : Ending) (w' : World) : Prop := ∃ a n c, e = .returned (.tuple #[.slice a n c, .bool true]) ∧ NatC w' a n c z ∧ Below w.heap.size w w' ∧ Fresh w.heap.size a

theorem nsub_no (a b : Option Addr) (n c m d : Nat) (xs ys : List Int) (w : World) (ha : RowK .u32 w a n c xs) (hb : RowK .u32 w b m d ys) (hx : Dig 4294967296 xs) (hy : Dig 4294967296 ys) (hlt : V 4294967296 xs < V 4294967296 ys) :
    Calls Try.prog 44 #[.slice a n c, .slice b m d] w fun e w' => e = .returned (.tuple #[.slice none 0 0, .bool false]) ∧ Below w.heap.size w w' := by
  have HC := Lib.hid (ncmp_any a b n c m d xs ys w ha hb hx hy)
  rw [cmpZ_lt hlt] at HC
  clear ha hb hx hy hlt
  go_enter Try.func44, Try.ntmps44
  go_wp2_with fail
  refine HC.out.mono ?_; rintro e w1 ⟨rfl, hb1⟩
  go_wp2_with fail
  go_ret2
  exact ⟨rfl, hb1⟩

set_option maxHeartbeats 1000000 in
theorem nsub_any (a b : Option Addr) (n c m d : Nat) (xs ys : List Int) (w : World) (ha : RowK .u32 w a n c xs) (hb : RowK .u32 w b m d ys) (hx : Dig 4294967296 xs) (hy : Dig 4294967296 ys) (hn : n ≤ 100000) (hm : m ≤ 100000) (hge : V 4294967296 ys ≤ V 4294967296 xs) :
    Calls Try.prog 44 #[.slice a n c, .slice b m d] w (RetNatB w (V 4294967296 xs - V 4294967296 ys)) := by
  have HC := Lib.hid (ncmp_any a b n c m d xs ys w ha hb hx hy)
  have hcz := cmpZ_ge hge
  generalize cmpZ (V 4294967296 xs) (V 4294967296 ys) = cz at *
  obtain ⟨z, hz⟩ : ∃ z, V 4294967296 xs - V 4294967296 ys = z := ⟨_, rfl⟩
  have HZ := Lib.hid hz
  rw [hz]
  have HA := Lib.hid ha
  have HB := Lib.hid hb
  have HX := Lib.hid hx
  have HY := Lib.hid hy
  have ht := tl_le xs
  rw [ha.1] at ht
  have HVX := Lib.hid (tl_V (B := 4294967296) xs)
  have HGE := Lib.hid hge
  clear ha hb hx hy hz hge
  have hcz' : ¬ (cz < 0) := by omega
  have HBX := HB
  go_enter Try.func44, Try.ntmps44
  go_wp2_with fail
  refine HC.out.mono ?_; rintro e w1 ⟨rfl, hb1⟩
  have HA1 := Lib.hid (HA.out.below hb1 (Nat.le_refl _))
  have HB1 := Lib.hid (HB.out.below hb1 (Nat.le_refl _))
  have HS := Lib.hid (size_any a n c xs w1 HA1.out)
  have hw1 : w.heap.size ≤ w1.heap.size := hb1.size
  have HBL1 := Lib.hid hb1
  have HVF := Lib.hid (tl_vf (B := 4294967296) xs)
  have HBD := Lib.hid (tl_bd (B := 4294967296) (by decide) HX.out)
  clear hb1 hcz
  generalize tl xs = t at *
  go_wp2_with fail
  refine HS.out.mono ?_; rintro e w2 ⟨rfl, rfl⟩
  go_wp2_with (at_make; refine make_arr .u32 22 55 4 info_u32 (by decide) Try.underlying22 rfl _ _ rfl .i64 .i64 _ _ t _ rfl rfl rfl rfl (by omega) ?_)
  intro w0 harr hb0 hs0
  have HB0 := Lib.hid (HBL1.out.trans (hb0.mono hw1))
  have HBW := Lib.hid hb0
  have HARR0 := Lib.hid harr
  clear hb0 harr
  go_wp2_with fail
  go_loopg [7, 19] t (fun k cu u wr => ∃ (i : Nat) (bo : Int) (os : List Int), u = .int .i64 i ∧ cu = .int .u64 bo ∧ i + k = t ∧ 0 ≤ bo ∧ bo ≤ 1 ∧ Arr .u32 55 wr w1.heap.size os ∧ os.length = t ∧ Dig 4294967296 os ∧
    V 4294967296 os - bo * 4294967296 ^ i = vf 4294967296 (fun i => xs.getD i 0) i - vf 4294967296 (fun i => ys.getD i 0) i ∧ (∀ j, i ≤ j → os.getD j 0 = 0) ∧ Below w1.heap.size w1 wr)
  case atStart => exact ⟨0, 0, _, rfl, rfl, by omega, by omega, by omega, HARR0.out, by simp, Dig.replicate (by decide) _, by rw [V_replicate]; simp [vf], fun j _ => getD_replicate _ _, HBW.out⟩
  case round =>
    obtain ⟨i, bo, os, rfl, rfl, hk, hc0, hc1, harr, hlo, hdo, hv, hzr, hbl⟩ := hrel
    have HK := Lib.hid hk
    have HARR := Lib.hid harr
    have HLO := Lib.hid hlo
    have HDO := Lib.hid hdo
    have HVO := Lib.hid hv
    have HZR := Lib.hid hzr
    have HBL := Lib.hid hbl
    clear hk harr hlo hdo hv hzr
    by_cases hi : i < t
    · obtain ⟨-, -, -, h4⟩ := HA1.out.below hbl (Nat.le_refl _)
      rcases h4 with hcap0 | ⟨ba, oa, rfl, -, hca⟩
      · have := HA.out.2.1; omega
      have hca1 := hca i (by omega)
      have hxr := HX.out.at (by decide) i
      have hyr := HY.out.at (by decide) i
      obtain ⟨x, hxx⟩ : ∃ d, xs.getD i 0 = d := ⟨_, rfl⟩
      obtain ⟨y, hyy⟩ : ∃ d, ys.getD i 0 = d := ⟨_, rfl⟩
      rw [hxx] at hca1 hxr
      rw [hyy] at hyr
      have HXX := Lib.hid hxx
      have HYY := Lib.hid hyy
      have hco := HARR.out.cell (i := i) (by rw [HLO.out]; omega)
      have hfo := HARR.out.frozen i
      obtain ⟨hx0, hx1⟩ := hxr
      obtain ⟨hy0, hy1⟩ := hyr
      have hin : (i : Int) < (n : Int) := by omega
      have g0 : (0 : Int) ≤ (i : Int) := by omega
      clear hca hxx
      by_cases him : i < m
      · obtain ⟨-, -, -, k4⟩ := HB1.out.below hbl (Nat.le_refl _)
        rcases k4 with hcap0 | ⟨bb, ob, rfl, -, hcb⟩
        · have := HB.out.2.1; omega
        have hcb1 := hcb i him
        rw [hyy] at hcb1
        clear hcb hyy hbl
        have HSW := Lib.hid (sub_word hx0 hx1 hy0 hy1 hc0 hc1)
        go_wp2_with fail
        go_roundg (gk - 1)
        case measure => have := HK.out; omega
        case rel => exact ⟨i + 1, -((x - bo - y) / 4294967296), os.set i ((x - bo - y) % 4294967296), by go_num, congrArg (Value.int .u64) HSW.out.2, by have := HK.out; omega, (sub_bo (by omega) (by omega)).1, (sub_bo (by omega) (by omega)).2, by rw [← HSW.out.1]; exact HARR.out.set i _, by rw [List.length_set]; exact HLO.out, HDO.out.set i (by omega) (by omega), sub_step (by rw [HLO.out]; omega) (HZR.out i (Nat.le_refl _)) HVO.out (by rw [HXX.out, HYY.out]), set_above HZR.out, HBL.out.setCell (Nat.le_refl _) _⟩
      · have hy00 : y = 0 := by rw [← hyy]; exact getD_ge (by rw [HB.out.1]; omega)
        have HY00 := Lib.hid hy00
        have HSW := Lib.hid (sub_word0 hx0 hx1 hc0 hc1)
        clear hyy hy00 hbl
        go_wp2_with fail
        go_roundg (gk - 1)
        case measure => have := HK.out; omega
        case rel => exact ⟨i + 1, -((x - bo) / 4294967296), os.set i ((x - bo) % 4294967296), by go_num, congrArg (Value.int .u64) HSW.out.2, by have := HK.out; omega, (sub_bo (by omega) (by omega)).1, (sub_bo (by omega) (by omega)).2, by rw [← HSW.out.1]; exact HARR.out.set i _, by rw [List.length_set]; exact HLO.out, HDO.out.set i (by omega) (by omega), sub_step (by rw [HLO.out]; omega) (HZR.out i (Nat.le_refl _)) HVO.out (by rw [HXX.out, HYY.out, HY00.out, Int.sub_zero]), set_above HZR.out, HBL.out.setCell (Nat.le_refl _) _⟩
    · have hin : i = t := by have := HK.out; omega
      have hz := sub_end HY.out HDO.out HLO.out HBD.out HVF.out hc0 hc1 HZ.out HGE.out (by have h := HVO.out; rw [hin] at h; exact h)
      have hfull := HARR.out.full (by rw [HLO.out]; omega)
      rw [HLO.out] at hfull
      have HS2 := Lib.hid (size_any _ _ _ _ _ hfull)
      have htl := tl_le os
      rw [HLO.out] at htl
      have hret : RetNatB w z (.returned (.tuple #[.slice (some ⟨w1.heap.size, 0, none⟩) (tl os) t, .bool true])) wr := by
        obtain ⟨_, _, _, he, h1, h2, h3⟩ := RetNat.cut HARR.out HDO.out (by rw [HLO.out]; omega) hz (HBL1.out.trans (hbl.mono hw1)) hw1
        injection he with he
        injection he with e1 e2 e3
        subst e1 e2 e3
        rw [HLO.out] at h1
        exact ⟨_, _, _, rfl, h1, h2, h3⟩
      have HRET := Lib.hid hret
      clear hz hfull hret hbl hin
      generalize tl os = t2 at *
      go_wp2_with fail
      refine HS2.out.mono ?_; rintro e w2 ⟨rfl, rfl⟩
      go_wp2_with fail
      go_ret2
      exact HRET.out
end Go.Proofs.Ytnbhcemgoifkgaa
