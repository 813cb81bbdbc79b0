/- Contract of package nat's move. Conditions: the words are below 2^32; at most 100000 of them; the shift below 32. -/
import Derived.Test.YtnbhcemgoifkgaaNatF
namespace Go.Proofs.Ytnbhcemgoifkgaa
open Go.RowKit

theorem pow_split {s : Nat} (hs : s ≤ 32) : ∃ R : Int, (2 : Int) ^ s * R = 4294967296 := ⟨2 ^ (32 - s), by rw [← Int.pow_add, show s + (32 - s) = 32 from by omega]; rfl⟩

/-- a call's answer: a list of its own of just n words, with the value z -/
def RetRow (w : World) (n : Nat) (z : Int) (e : Ending) (w' : World) : Prop := ∃ os, e = .returned (.slice (some ⟨w.heap.size, 0, none⟩) n n) ∧ Arr .u32 55 w' w.heap.size os ∧ os.length = n ∧ Dig 4294967296 os ∧ V 4294967296 os = z ∧ Below w.heap.size w w'
theorem dvd_mod {o y P R : Int} (hP : 0 < P) (hR : P * R = 4294967296) (hy : y % P = 0) (ho : o < P) : o + y % 4294967296 < 4294967296 := by
  have h1 : y % 4294967296 % P = 0 := by rw [← hR, Int.emod_emod_of_dvd _ (Int.dvd_mul_right P R)]; exact hy
  have h2 := Int.emod_lt_of_pos y (show (0 : Int) < 4294967296 by decide)
  obtain ⟨k, hk⟩ := Int.dvd_of_emod_eq_zero h1
  have h3 : k < R := by
    apply Int.lt_of_mul_lt_mul_left (a := P) _ (by omega)
    omega
  have h4 : P * (k + 1) ≤ P * R := Int.mul_le_mul_of_nonneg_left (by omega) (by omega)
  rw [Int.mul_add, Int.mul_one] at h4
  omega
theorem or_mod {o y : Int} {s : Nat} (hs : s ≤ 31) (ho0 : 0 ≤ o) (ho : o < 2 ^ s) (hy : y % 2 ^ s = 0) : bits .or .u32 o (y % 4294967296) = o + y % 4294967296 := by
  obtain ⟨R, hR⟩ := pow_split (show s ≤ 32 by omega)
  have hb := dvd_mod (Int.pow_pos (by decide)) hR hy ho
  have h2 := Int.emod_lt_of_pos y (show (0 : Int) < 4294967296 by decide)
  have h3 := Int.emod_nonneg y (show (4294967296 : Int) ≠ 0 by decide)
  have h1 : y % 4294967296 % 2 ^ s = 0 := by rw [← hR, Int.emod_emod_of_dvd _ (Int.dvd_mul_right _ _)]; exact hy
  generalize y % 4294967296 = z at *
  rw [bits_or_u32 ho0 (by omega) h3 h2]
  obtain ⟨a, rfl⟩ := Int.eq_ofNat_of_zero_le ho0
  obtain ⟨k, hk⟩ := Int.dvd_of_emod_eq_zero h1
  have hk0 : 0 ≤ k := by
    rcases Int.lt_or_le k 0 with h | h
    · have h5 : (2 : Int) ^ s * k < 0 := Int.mul_neg_of_pos_of_neg (Int.pow_pos (by decide)) h
      omega
    · exact h
  obtain ⟨b, rfl⟩ := Int.eq_ofNat_of_zero_le hk0
  have hz : z = ((b * 2 ^ s : Nat) : Int) := by rw [hk, Int.mul_comm]; simp
  have hoa : a < 2 ^ s := by
    have h : ((a : Nat) : Int) < ((2 ^ s : Nat) : Int) := by simpa using ho
    omega
  rw [hz, Int.toNat_natCast, Int.toNat_natCast, Nat.or_comm, or_nat hoa]
  omega
theorem mul_pow_bd {x : Int} {s : Nat} (hx0 : 0 ≤ x) (hx1 : x < 4294967296) (hs : s ≤ 31) : 0 ≤ x * 2 ^ s ∧ x * 2 ^ s < 9223372036854775808 ∧ x * 2 ^ s % 2 ^ s = 0 ∧ x * 2 ^ s / 4294967296 < 2 ^ s := by
  have h2 : (2 : Int) ^ s ≤ 2 ^ 31 := ipow_le (by decide) hs
  have h0 : (0 : Int) < 2 ^ s := Int.pow_pos (by decide)
  have h := prod_bd (A := 4294967295) (B := 2147483648) hx0 (y := 2 ^ s) (by omega) (by omega) (by omega)
  refine ⟨h.1, by omega, Int.mul_emod_left _ _, Int.ediv_lt_of_lt_mul (by decide) ?_⟩
  rw [Int.mul_comm x]
  exact Int.mul_lt_mul_of_pos_left hx1 h0
/-- one place of a shift -/
theorem move_step {B o y P : Int} {os : List Int} {f : Nat → Int} {i : Nat} (hi : i + 1 < os.length) (ho : os.getD i 0 = o) (hz : os.getD (i + 1) 0 = 0) (hv : V B os = vf B f i * P) (hy : f i * P = y) :
    V B ((os.set i (o + y % B)).set (i + 1) (y / B)) = vf B f (i + 1) * P := by
  rw [V_set (by rw [List.length_set]; exact hi), getD_set_ne (by omega), hz, V_set (by omega), ho, Int.sub_zero, hv]
  have e1 : vf B f (i + 1) = vf B f i + f i * B ^ i := rfl
  have e2 : f i * B ^ i * P = y * B ^ i := by rw [← hy, Int.mul_assoc, Int.mul_comm (B ^ i), ← Int.mul_assoc]
  have e3 : y % B * B ^ i + y / B * B ^ (i + 1) = y * B ^ i := by
    rw [Int.pow_succ, Int.mul_comm (B ^ i) B, ← Int.mul_assoc, ← Int.add_mul]
    congr 1
    rw [Int.mul_comm]
    exact Int.emod_add_mul_ediv _ _
  rw [e1, Int.add_mul, e2, show o + y % B - o = y % B from by omega]
  omega

set_option maxHeartbeats 1000000 in
theorem move_any (a : Option Addr) (n0 c s : Nat) (xs : List Int) (w : World) (ha : RowK .u32 w a n0 c xs) (hx : Dig 4294967296 xs) (hn0 : n0 ≤ 100000) (hs : s ≤ 31) :
    Calls Try.prog 68 #[.slice a n0 c, .int .i64 s] w (RetRow w (tl xs + 1) (V 4294967296 xs * 2 ^ s)) := by
  have HA := Lib.hid ha
  have HX := Lib.hid hx
  have SA := Lib.hid (size_any a n0 c xs w ha)
  have hn : tl xs ≤ n0 := by have := tl_le xs; rw [ha.1] at this; exact this
  have FX := Lib.hid (vf_tl (B := 4294967296) xs)
  clear ha hx
  generalize tl xs = n at *
  generalize V 4294967296 xs = X at *
  go_enter Try.func68, Try.ntmps68
  go_wp2_with fail
  refine SA.out.mono ?_; rintro e w1 ⟨rfl, rfl⟩
  go_wp2_with (at_make; refine make_arr .u32 22 55 4 info_u32 (by decide) Try.underlying22 rfl _ _ rfl .i64 .i64 _ _ (n + 1) _ rfl rfl (by omega) (by omega) (by omega) ?_)
  intro w0 harr hb0 hs0
  have HB0 := Lib.hid hb0
  have HARR0 := Lib.hid harr
  clear hb0 harr
  go_wp2_with fail
  go_loopg [15] n (fun k u wr => ∃ (i : Nat) (os : List Int), u = .int .i64 i ∧ i + k = n ∧ Arr .u32 55 wr w.heap.size os ∧ os.length = n + 1 ∧ Dig 4294967296 os ∧
    V 4294967296 os = vf 4294967296 (fun j => xs.getD j 0) i * 2 ^ s ∧ os.getD i 0 < 2 ^ s ∧ (∀ j, i < j → os.getD j 0 = 0) ∧ Below w.heap.size w wr)
  case atStart => exact ⟨0, _, rfl, by omega, HARR0.out, by simp, Dig.replicate (by decide) _, by rw [V_replicate]; simp [vf], by rw [getD_replicate]; exact Int.pow_pos (by decide), fun j _ => getD_replicate _ _, HB0.out⟩
  case round =>
    obtain ⟨i, os, rfl, hk, harr, hlo, hdo, hv, hlt, hzr, hbl⟩ := hrel
    have HK := Lib.hid hk
    have HARR := Lib.hid harr
    have HLO := Lib.hid hlo
    have HDO := Lib.hid hdo
    have HV := Lib.hid hv
    have HLT := Lib.hid hlt
    have HZR := Lib.hid hzr
    have HBL := Lib.hid hbl
    clear hk harr hlo hdo hv hlt hzr
    by_cases hi : i < n
    · obtain ⟨-, -, -, h4⟩ := HA.out.below hbl (Nat.le_refl _)
      rcases h4 with hcap0 | ⟨ba, oa, rfl, -, hc⟩
      · have := HA.out.2.1; omega
      have hc1 := hc i (by omega)
      have hxr := HX.out.at (by decide) i
      obtain ⟨x, hxx⟩ : ∃ d, xs.getD i 0 = d := ⟨_, rfl⟩
      rw [hxx] at hc1 hxr
      have HXX := Lib.hid hxx
      have hco := HARR.out.cell (i := i) (by rw [HLO.out]; omega)
      have hfo := HARR.out.frozen i
      obtain ⟨o, ho⟩ : ∃ d, os.getD i 0 = d := ⟨_, rfl⟩
      have hor := (HDO.out.at (by decide) i).1
      have hlt := HLT.out
      rw [ho] at hco hor hlt
      have hco1 := HARR.out.cell (i := i + 1) (by rw [HLO.out]; omega)
      have hfo1 := HARR.out.frozen (i + 1)
      obtain ⟨y0, y1, y2, y3⟩ := mul_pow_bd hxr.1 hxr.2 hs
      have hle : (2 : Int) ^ s ≤ 2 ^ 31 := ipow_le (by decide) hs
      obtain ⟨y, hy⟩ : ∃ y, x * 2 ^ s = y := ⟨_, rfl⟩
      have e1 : IntKind.u64.wrap (x * 2 ^ s) = y := by rw [hy]; exact IntWalk.u64_in _ (by omega)
      rw [hy] at y0 y1 y2 y3
      have e2 := or_mod hs hor hlt y2
      obtain ⟨R, hR⟩ := pow_split (show s ≤ 32 by omega)
      have H3 := Lib.hid (dvd_mod (Int.pow_pos (by decide)) hR y2 hlt)
      have HY := Lib.hid hy
      have HOO := Lib.hid ho
      have HY3 := Lib.hid y3
      have HLE := Lib.hid hle
      have g0 : (0 : Int) ≤ (i : Int) := by omega
      have g1 : (i : Int) < (n0 : Int) := by omega
      have g2 : (i : Int) < (n : Int) + 1 := by omega
      clear hc hxx ho hbl hR hy y2 y3 hle hlt
      go_wp2_with fail
      go_roundg (gk - 1)
      case measure => have := HK.out; omega
      case rel => exact ⟨i + 1, (os.set i (o + y % 4294967296)).set (i + 1) (y / 4294967296), by go_num, by have := HK.out; omega, (HARR.out.set _ _).set _ _, by rw [List.length_set, List.length_set]; exact HLO.out, (HDO.out.set _ (by omega) H3.out).set _ (by omega) (by omega),
        move_step (B := 4294967296) (f := fun j => xs.getD j 0) (by rw [HLO.out]; omega) HOO.out (HZR.out _ (by omega)) HV.out (by rw [← HY.out, ← HXX.out]), by rw [getD_set_self (by rw [List.length_set, HLO.out]; omega)]; exact HY3.out,
        fun j hj => by rw [getD_set_ne (by omega), getD_set_ne (by omega)]; exact HZR.out j (by omega), (HBL.out.setCell (Nat.le_refl _) _).setCell (Nat.le_refl _) _⟩
    · have HIN : Hid (i = n) := Lib.hid (by have := HK.out; omega)
      clear hbl
      go_wp2_with fail
      go_ret
      exact ⟨os, rfl, HARR.out, HLO.out, HDO.out, by rw [HV.out, HIN.out, FX.out], HBL.out⟩
end Go.Proofs.Ytnbhcemgoifkgaa
