/- Contract of package nat's Add. Conditions: the words are below 2^32; at most 100000 of them. -/
import Derived.Test.YtnbhcemgoifkgaaNatB
namespace Go.Proofs.Ytnbhcemgoifkgaa
open Go.RowKit

/-- one word is laid, the rest is carried -/
theorem set_step {B s : Int} {os : List Int} {i : Nat} (hi : i < os.length) : V B (os.set i (s % B)) + s / B * B ^ (i + 1) = V B os + (s - os.getD i 0) * B ^ i := by
  rw [V_set hi, Int.pow_succ, Int.mul_comm (B ^ i) B, ← Int.mul_assoc, Int.sub_mul, Int.sub_mul]
  have h : s * B ^ i = (s % B) * B ^ i + s / B * B * B ^ i := by
    rw [← Int.add_mul]
    congr 1
    have := Int.emod_add_mul_ediv s B
    rw [Int.mul_comm] at this
    omega
  omega
/-- one place of a sum -/
theorem add_step {B s cy : Int} {os : List Int} {f : Nat → Int} {i : Nat} (hi : i < os.length) (hz : os.getD i 0 = 0) (hv : V B os + cy * B ^ i = vf B f i) (hs : s = f i + cy) :
    V B (os.set i (s % B)) + s / B * B ^ (i + 1) = vf B f (i + 1) := by
  rw [set_step hi, hz]
  show _ = vf B f i + f i * B ^ i
  rw [hs, Int.sub_zero, Int.add_mul]; omega
theorem set_above {os : List Int} {i : Nat} {d : Int} (h : ∀ j, i ≤ j → os.getD j 0 = 0) : ∀ j, i + 1 ≤ j → (os.set i d).getD j 0 = 0 := fun j hj => by rw [getD_set_ne (by omega)]; exact h j (by omega)
theorem wrap_u32 (n : Int) : IntKind.u32.wrap n = n % 4294967296 := by simp [IntKind.wrap, IntKind.bits, IntKind.signed]

/-- a call's answer is the trim part of a list of the call's own -/
theorem RetNat.cut {w w' : World} {g : Nat} {os : List Int} {z : Int} (h : Arr .u32 55 w' g os) (hd : Dig 4294967296 os) (hl : os.length ≤ 8796093022208) (hz : V 4294967296 os = z) (hb : Below w.heap.size w w') (hg : w.heap.size ≤ g) :
    RetNat w z (.returned (.slice (some ⟨g, 0, none⟩) (tl os) os.length)) w' :=
  ⟨_, _, _, rfl, ⟨os.take (tl os), h.row (tl_le os) (Nat.le_refl _) hl, hd.take _, tl_trim os, by rw [tl_V]; exact hz⟩, hb, Fresh.at hg⟩

set_option maxHeartbeats 1000000 in
theorem nadd_any (a b : Option Addr) (n c m d : Nat) (xs ys : List Int) (w : World) (ha : RowK .u32 w a n c xs) (hb : RowK .u32 w b m d ys) (hx : Dig 4294967296 xs) (hy : Dig 4294967296 ys) (hn : n ≤ 100000) (hm : m ≤ 100000) :
    Calls Try.prog 23 #[.slice a n c, .slice b m d] w (RetNat w (V 4294967296 xs + V 4294967296 ys)) := by
  obtain ⟨z, hz⟩ : ∃ z, V 4294967296 xs + V 4294967296 ys = z := ⟨_, rfl⟩
  have HZ := Lib.hid hz
  rw [hz]
  have HA := Lib.hid ha
  have HB := Lib.hid hb
  have HX := Lib.hid hx
  have HY := Lib.hid hy
  clear ha hb hx hy hz
  by_cases hlt : n < m
  · have hcap : m ≤ 100001 := by omega
    have HV : Hid (vf 4294967296 (fun i => ys.getD i 0 + xs.getD i 0) m = z) := by
      have h : vf 4294967296 (fun i => ys.getD i 0 + xs.getD i 0) m = z := by
        rw [vf_add, vf_ext (by rw [HB.out.1]; exact Nat.le_refl _), vf_ext (by rw [HA.out.1]; omega)]
        have := HZ.out
        omega
      exact Lib.hid h
    go_enter Try.func23, Try.ntmps23
    go_wp2_with (at_make; refine make_arr .u32 22 55 4 info_u32 (by decide) Try.underlying22 rfl _ _ rfl .i64 .i64 _ _ (m + 1) _ rfl rfl (by omega) (by omega) (by omega) ?_)
    intro w0 harr hb0 hs0
    have HB0 := Lib.hid hb0
    have HARR0 := Lib.hid harr
    clear hb0 harr
    go_wp2_with fail
    go_loopg [6, 22] m (fun k cu u wr => ∃ (i : Nat) (cy : Int) (os : List Int), u = .int .i64 i ∧ cu = .int .u64 cy ∧ i + k = m ∧ 0 ≤ cy ∧ cy ≤ 1 ∧ Arr .u32 55 wr w.heap.size os ∧ os.length = m + 1 ∧ Dig 4294967296 os ∧
      V 4294967296 os + cy * 4294967296 ^ i = vf 4294967296 (fun i => ys.getD i 0 + xs.getD i 0) i ∧ (∀ j, i ≤ j → os.getD j 0 = 0) ∧ Below w.heap.size w wr)
    case atStart => exact ⟨0, 0, _, rfl, rfl, by omega, by omega, by omega, HARR0.out, by simp, Dig.replicate (by decide) _, by rw [V_replicate]; simp [vf], fun j _ => getD_replicate _ _, HB0.out⟩
    case round =>
      obtain ⟨i, cy, os, rfl, rfl, hk, hc0, hc1, harr, hlo, hdo, hv, hzr, hbl⟩ := hrel
      have HK := Lib.hid hk
      have HARR := Lib.hid harr
      have HLO := Lib.hid hlo
      have HDO := Lib.hid hdo
      have HVO := Lib.hid hv
      have HZR := Lib.hid hzr
      have HBL := Lib.hid hbl
      clear hk harr hlo hdo hv hzr
      by_cases hi : i < m
      · obtain ⟨-, -, -, h4⟩ := HB.out.below hbl (Nat.le_refl _)
        rcases h4 with hcap0 | ⟨ba, oa, rfl, -, hca⟩
        · have := HB.out.2.1; omega
        have hca1 := hca i hi
        have hxr := HY.out.at (by decide) i
        have hyr := HX.out.at (by decide) i
        obtain ⟨x, hxx⟩ : ∃ d, ys.getD i 0 = d := ⟨_, rfl⟩
        obtain ⟨y, hyy⟩ : ∃ d, xs.getD i 0 = d := ⟨_, rfl⟩
        rw [hxx] at hca1 hxr
        rw [hyy] at hyr
        have HXX := Lib.hid hxx
        have HYY := Lib.hid hyy
        have hco := HARR.out.cell (i := i) (by rw [HLO.out]; omega)
        have hfo := HARR.out.frozen i
        obtain ⟨hx0, hx1⟩ := hxr
        obtain ⟨hy0, hy1⟩ := hyr
        have hlo2 : i < m + 1 := by omega
        have g0 : (0 : Int) ≤ (i : Int) := by omega
        clear hca hxx
        by_cases him : i < n
        · obtain ⟨-, -, -, k4⟩ := HA.out.below hbl (Nat.le_refl _)
          rcases k4 with hcap0 | ⟨bb, ob, rfl, -, hcb⟩
          · have := HA.out.2.1; omega
          have hcb1 := hcb i him
          rw [hyy] at hcb1
          clear hcb hyy hbl
          go_wp2_with fail
          go_roundg (gk - 1)
          case measure => have := HK.out; omega
          case rel => exact ⟨i + 1, (x + cy + y) / 4294967296, os.set i ((x + cy + y) % 4294967296), by go_num, rfl, by have := HK.out; omega, by omega, by omega, HARR.out.set i _, by rw [List.length_set]; exact HLO.out, HDO.out.set i (by omega) (by omega), add_step (by rw [HLO.out]; omega) (HZR.out i (Nat.le_refl _)) HVO.out (by rw [HXX.out, HYY.out]; omega), set_above HZR.out, HBL.out.setCell (Nat.le_refl _) _⟩
        · have hy00 : y = 0 := by rw [← hyy]; exact getD_ge (by rw [HA.out.1]; omega)
          have HY00 := Lib.hid hy00
          clear hyy hy00 hbl
          go_wp2_with fail
          go_roundg (gk - 1)
          case measure => have := HK.out; omega
          case rel => exact ⟨i + 1, (x + cy) / 4294967296, os.set i ((x + cy) % 4294967296), by go_num, rfl, by have := HK.out; omega, by omega, by omega, HARR.out.set i _, by rw [List.length_set]; exact HLO.out, HDO.out.set i (by omega) (by omega), add_step (by rw [HLO.out]; omega) (HZR.out i (Nat.le_refl _)) HVO.out (by rw [HXX.out, HYY.out, HY00.out]; omega), set_above HZR.out, HBL.out.setCell (Nat.le_refl _) _⟩
      · have hin : i = m := by have := HK.out; omega
        have hco := HARR.out.cell (i := m) (by rw [HLO.out]; omega)
        have hfo := HARR.out.frozen m
        have hcw : cy % 4294967296 = cy := by omega
        have HIN := Lib.hid hin
        have HCW := Lib.hid hcw
        clear hin hcw hbl
        have hl2 : (os.set m cy).length = m + 1 := by rw [List.length_set]; exact HLO.out
        have harr2 := HARR.out.set m cy
        have hval : V 4294967296 (os.set m cy) = z := by
          rw [V_set (by rw [HLO.out]; omega), HZR.out m (by have := HIN.out; omega), Int.sub_zero, ← HV.out]
          have h := HVO.out
          rw [HIN.out] at h
          exact h
        have hret := RetNat.cut harr2 (HDO.out.set m hc0 (by omega)) (by rw [hl2]; omega) hval (HBL.out.setCell (Nat.le_refl _) _) (Nat.le_refl _)
        have hfull := harr2.full (by rw [hl2]; omega)
        rw [hl2] at hret hfull
        have HS := Lib.hid (size_any _ _ _ _ _ hfull)
        have htl := tl_le (os.set m cy)
        rw [hl2] at htl
        clear harr2 hval hfull hl2
        generalize tl (os.set m cy) = t at *
        have HRET := Lib.hid hret
        clear hret
        go_wp2_with fail
        refine HS.out.mono ?_; rintro e w1 ⟨rfl, rfl⟩
        go_wp2_with fail
        go_ret
        exact HRET.out
  · have hcap : n ≤ 100001 := by omega
    have HV : Hid (vf 4294967296 (fun i => xs.getD i 0 + ys.getD i 0) n = z) := by
      have h : vf 4294967296 (fun i => xs.getD i 0 + ys.getD i 0) n = z := by
        rw [vf_add, vf_ext (by rw [HA.out.1]; exact Nat.le_refl _), vf_ext (by rw [HB.out.1]; omega)]
        have := HZ.out
        omega
      exact Lib.hid h
    go_enter Try.func23, Try.ntmps23
    go_wp2_with (at_make; refine make_arr .u32 22 55 4 info_u32 (by decide) Try.underlying22 rfl _ _ rfl .i64 .i64 _ _ (n + 1) _ rfl rfl (by omega) (by omega) (by omega) ?_)
    intro w0 harr hb0 hs0
    have HB0 := Lib.hid hb0
    have HARR0 := Lib.hid harr
    clear hb0 harr
    go_wp2_with fail
    go_loopg [6, 22] n (fun k cu u wr => ∃ (i : Nat) (cy : Int) (os : List Int), u = .int .i64 i ∧ cu = .int .u64 cy ∧ i + k = n ∧ 0 ≤ cy ∧ cy ≤ 1 ∧ Arr .u32 55 wr w.heap.size os ∧ os.length = n + 1 ∧ Dig 4294967296 os ∧
      V 4294967296 os + cy * 4294967296 ^ i = vf 4294967296 (fun i => xs.getD i 0 + ys.getD i 0) i ∧ (∀ j, i ≤ j → os.getD j 0 = 0) ∧ Below w.heap.size w wr)
    case atStart => exact ⟨0, 0, _, rfl, rfl, by omega, by omega, by omega, HARR0.out, by simp, Dig.replicate (by decide) _, by rw [V_replicate]; simp [vf], fun j _ => getD_replicate _ _, HB0.out⟩
    case round =>
      obtain ⟨i, cy, os, rfl, rfl, hk, hc0, hc1, harr, hlo, hdo, hv, hzr, hbl⟩ := hrel
      have HK := Lib.hid hk
      have HARR := Lib.hid harr
      have HLO := Lib.hid hlo
      have HDO := Lib.hid hdo
      have HVO := Lib.hid hv
      have HZR := Lib.hid hzr
      have HBL := Lib.hid hbl
      clear hk harr hlo hdo hv hzr
      by_cases hi : i < n
      · obtain ⟨-, -, -, h4⟩ := HA.out.below hbl (Nat.le_refl _)
        rcases h4 with hcap0 | ⟨ba, oa, rfl, -, hca⟩
        · have := HA.out.2.1; omega
        have hca1 := hca i hi
        have hxr := HX.out.at (by decide) i
        have hyr := HY.out.at (by decide) i
        obtain ⟨x, hxx⟩ : ∃ d, xs.getD i 0 = d := ⟨_, rfl⟩
        obtain ⟨y, hyy⟩ : ∃ d, ys.getD i 0 = d := ⟨_, rfl⟩
        rw [hxx] at hca1 hxr
        rw [hyy] at hyr
        have HXX := Lib.hid hxx
        have HYY := Lib.hid hyy
        have hco := HARR.out.cell (i := i) (by rw [HLO.out]; omega)
        have hfo := HARR.out.frozen i
        obtain ⟨hx0, hx1⟩ := hxr
        obtain ⟨hy0, hy1⟩ := hyr
        have hlo2 : i < n + 1 := by omega
        have g0 : (0 : Int) ≤ (i : Int) := by omega
        clear hca hxx
        by_cases him : i < m
        · obtain ⟨-, -, -, k4⟩ := HB.out.below hbl (Nat.le_refl _)
          rcases k4 with hcap0 | ⟨bb, ob, rfl, -, hcb⟩
          · have := HB.out.2.1; omega
          have hcb1 := hcb i him
          rw [hyy] at hcb1
          clear hcb hyy hbl
          go_wp2_with fail
          go_roundg (gk - 1)
          case measure => have := HK.out; omega
          case rel => exact ⟨i + 1, (x + cy + y) / 4294967296, os.set i ((x + cy + y) % 4294967296), by go_num, rfl, by have := HK.out; omega, by omega, by omega, HARR.out.set i _, by rw [List.length_set]; exact HLO.out, HDO.out.set i (by omega) (by omega), add_step (by rw [HLO.out]; omega) (HZR.out i (Nat.le_refl _)) HVO.out (by rw [HXX.out, HYY.out]; omega), set_above HZR.out, HBL.out.setCell (Nat.le_refl _) _⟩
        · have hy00 : y = 0 := by rw [← hyy]; exact getD_ge (by rw [HB.out.1]; omega)
          have HY00 := Lib.hid hy00
          clear hyy hy00 hbl
          go_wp2_with fail
          go_roundg (gk - 1)
          case measure => have := HK.out; omega
          case rel => exact ⟨i + 1, (x + cy) / 4294967296, os.set i ((x + cy) % 4294967296), by go_num, rfl, by have := HK.out; omega, by omega, by omega, HARR.out.set i _, by rw [List.length_set]; exact HLO.out, HDO.out.set i (by omega) (by omega), add_step (by rw [HLO.out]; omega) (HZR.out i (Nat.le_refl _)) HVO.out (by rw [HXX.out, HYY.out, HY00.out]; omega), set_above HZR.out, HBL.out.setCell (Nat.le_refl _) _⟩
      · have hin : i = n := by have := HK.out; omega
        have hco := HARR.out.cell (i := n) (by rw [HLO.out]; omega)
        have hfo := HARR.out.frozen n
        have hcw : cy % 4294967296 = cy := by omega
        have HIN := Lib.hid hin
        have HCW := Lib.hid hcw
        clear hin hcw hbl
        have hl2 : (os.set n cy).length = n + 1 := by rw [List.length_set]; exact HLO.out
        have harr2 := HARR.out.set n cy
        have hval : V 4294967296 (os.set n cy) = z := by
          rw [V_set (by rw [HLO.out]; omega), HZR.out n (by have := HIN.out; omega), Int.sub_zero, ← HV.out]
          have h := HVO.out
          rw [HIN.out] at h
          exact h
        have hret := RetNat.cut harr2 (HDO.out.set n hc0 (by omega)) (by rw [hl2]; omega) hval (HBL.out.setCell (Nat.le_refl _) _) (Nat.le_refl _)
        have hfull := harr2.full (by rw [hl2]; omega)
        rw [hl2] at hret hfull
        have HS := Lib.hid (size_any _ _ _ _ _ hfull)
        have htl := tl_le (os.set n cy)
        rw [hl2] at htl
        clear harr2 hval hfull hl2
        generalize tl (os.set n cy) = t at *
        have HRET := Lib.hid hret
        clear hret
        go_wp2_with fail
        refine HS.out.mono ?_; rintro e w1 ⟨rfl, rfl⟩
        go_wp2_with fail
        go_ret
        exact HRET.out
end Go.Proofs.Ytnbhcemgoifkgaa
