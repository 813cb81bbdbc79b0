/- Contracts of package nat's Shl and Noughts. Conditions: the words are below 2^32; at most 80000 of them. -/
import Derived.Test.YtnbhcemgoifkgaaNatO
namespace Go.Proofs.Ytnbhcemgoifkgaa
open Go.RowKit

theorem V_noughts (k : Nat) (os : List Int) : V 4294967296 (List.replicate k 0 ++ os) = 4294967296 ^ k * V 4294967296 os := by
  unfold V
  rw [List.length_append, List.length_replicate, vf_split]
  have e1 : vf 4294967296 (fun i => (List.replicate k (0 : Int) ++ os).getD i 0) k = 0 := by
    have h : ∀ n, n ≤ k → vf 4294967296 (fun i => (List.replicate k (0 : Int) ++ os).getD i 0) n = 0 := by
      intro n
      induction n with
      | zero => intro _; rfl
      | succ n ih =>
        intro hn
        show vf 4294967296 _ n + (List.replicate k (0 : Int) ++ os).getD n 0 * 4294967296 ^ n = 0
        rw [ih (by omega), getD_append_lt (by simp; omega), getD_replicate]
        simp
    exact h k (Nat.le_refl _)
  rw [e1, Int.zero_add]
  congr 1
  exact vf_congr _ fun i _ => by
    rw [List.getD_eq_getElem?_getD, List.getD_eq_getElem?_getD, List.getElem?_append_right (by simp), List.length_replicate, Nat.add_sub_cancel_left]
theorem dig_append {B : Int} {xs ys : List Int} (h : Dig B xs) (k : Dig B ys) : Dig B (xs ++ ys) := fun d hd => by
  rcases List.mem_append.1 hd with h1 | h1
  · exact h d h1
  · exact k d h1

theorem shl_no (a : Option Addr) (n0 c : Nat) (nn : Int) (w : World) (h : nn < 0 ∨ 8192 < nn) :
    Calls Try.prog 34 #[.slice a n0 c, .int .i64 nn] w fun e w' => e = .returned (.tuple #[.slice none 0 0, .bool false]) ∧ w = w' := by
  by_cases h0 : nn < 0
  · clear h
    go_enter Try.func34, Try.ntmps34
    go_wp2_with fail
    go_ret2
    exact ⟨rfl, rfl⟩
  · have h1 : 8192 < nn := by omega
    clear h
    go_enter Try.func34, Try.ntmps34
    go_wp2_with fail
    go_ret2
    exact ⟨rfl, rfl⟩

set_option maxHeartbeats 1000000 in
theorem shl_any (a : Option Addr) (n0 c N k s : Nat) (xs : List Int) (w : World) (ha : RowK .u32 w a n0 c xs) (hx : Dig 4294967296 xs) (hn0 : n0 ≤ 80000) (hks : N = 32 * k + s) (hs : s ≤ 31) (hN : N ≤ 8192) :
    Calls Try.prog 34 #[.slice a n0 c, .int .i64 N] w (RetNatB w (V 4294967296 xs * 2 ^ N)) := by
  have HM := Lib.hid (move_any a n0 c s xs w ha hx (by omega) hs)
  have hn : tl xs ≤ n0 := by have := tl_le xs; rw [ha.1] at this; exact this
  have hk1 : (N : Int) / 32 = (k : Int) := by omega
  have hs1 : (N : Int) % 32 = (s : Int) := by omega
  have HZ : Hid (4294967296 ^ k * (V 4294967296 xs * 2 ^ s) = V 4294967296 xs * 2 ^ N) := Lib.hid (by rw [pow_ks hks, Int.mul_left_comm])
  have hkb : k ≤ 256 := by omega
  clear ha hx hks
  generalize V 4294967296 xs = X at *
  generalize tl xs = n at *
  go_enter Try.func34, Try.ntmps34
  go_wp2_with fail
  refine HM.out.mono ?_; rintro e w1 ⟨os, rfl, harr, hlo, hdo, hv, hb1⟩
  have HARR := Lib.hid harr
  have HLO := Lib.hid hlo
  have HDO := Lib.hid hdo
  have HV := Lib.hid hv
  have HB1 := Lib.hid hb1
  clear harr hlo hdo hv hb1
  go_wp2_with (at_make; refine make_arr .u32 22 55 4 info_u32 (by decide) Try.underlying22 rfl _ _ rfl .i64 .i64 _ _ k _ rfl rfl (by omega) (by omega) (by omega) ?_)
  intro w2 harr2 hb2 hs2
  have HB2 := Lib.hid hb2
  have HOW := Lib.hid (OwnK.ofArr harr2 (List.length_replicate (n := k)) (by unfold maxLen; omega))
  have hfull := HARR.out.full (by rw [HLO.out]; omega)
  rw [HLO.out] at hfull
  have HROW := Lib.hid (hfull.below hb2 (Nat.le_refl _))
  clear harr2 hb2 hfull
  go_wp2_with (at_builtin; refine wpList_append_row .u32 22 55 4 info_u32 (by decide) Try.underlying22 rfl _ _ rfl w2 w1.heap.size (.slice (some ⟨w1.heap.size, 0, none⟩) k k) k (List.replicate k 0) (some ⟨w.heap.size, 0, none⟩) (n + 1) (n + 1) os rfl rfl HOW.out HROW.out (fun h => by cases h) (by omega) (by rw [hs2]; omega) ?_)
  intro v3 w3 hown hg hbl
  obtain ⟨p, cap, hv3⟩ := hown.form
  subst hv3
  have hrow := hown.row
  have hfr := hown.fresh
  have hb3 : Below w1.heap.size w1 w3 := hbl w1 HB2.out
  have hdig : Dig 4294967296 (List.replicate k 0 ++ os) := dig_append (Dig.replicate (by decide) k) HDO.out
  have hval : V 4294967296 (List.replicate k 0 ++ os) = X * 2 ^ N := by rw [V_noughts, HV.out, HZ.out]
  generalize List.replicate k 0 ++ os = ls at *
  have hle := tl_le ls
  rw [hrow.1] at hle
  have HS := Lib.hid (size_any p _ cap ls w3 hrow)
  have hcap := hrow.2.1
  have hcm : cap ≤ 9223372036854775807 := by have := hrow.2.2.1; unfold maxLen at this; omega
  have HRET : Hid (RetNatB w (X * 2 ^ N) (.returned (.tuple #[.slice p (tl ls) cap, .bool true])) w3) := Lib.hid
    ⟨p, tl ls, cap, rfl, ⟨ls.take (tl ls), hrow.take hle, hdig.take _, tl_trim ls, by rw [tl_V]; exact hval⟩, HB1.out.trans (hb3.mono HB1.out.size), hfr.mono HB1.out.size⟩
  clear hown hg hbl hrow hfr hb3 hdig hval
  generalize tl ls = t at *
  go_wp2_with fail
  refine HS.out.mono ?_; rintro e w4 ⟨rfl, rfl⟩
  go_wp2_with fail
  go_ret2
  exact HRET.out

/-- r is how often X can be halved -/
def IsHalf (X : Int) (r : Nat) : Prop := (X = 0 ∧ r = 0) ∨ ∃ o : Int, X = 2 ^ r * (2 * o + 1)
theorem half_of {X t rest : Int} {i j : Nat} (hX : X = 4294967296 ^ i * (t + 4294967296 * rest)) (hj : j ≤ 31) (ht : t = t / 2 ^ j * 2 ^ j) (ho : t / 2 ^ j % 2 = 1) : IsHalf X (32 * i + j) := by
  refine .inr ⟨t / 2 ^ j / 2 + 2 ^ (31 - j) * rest, ?_⟩
  have e1 : (4294967296 : Int) = 2 ^ j * (2 * 2 ^ (31 - j)) := by
    rw [Int.mul_comm 2, ← Int.pow_succ, ← Int.pow_add, show j + (31 - j + 1) = 32 from by omega]; rfl
  have e2 : (4294967296 : Int) ^ i = 2 ^ (32 * i) := by rw [Int.pow_mul]; rfl
  rw [hX, e2, Int.pow_add, Int.mul_assoc]
  congr 1
  have e3 : t / 2 ^ j = 2 * (t / 2 ^ j / 2) + 1 := by omega
  generalize t / 2 ^ j = u at *
  rw [ht, e1]
  generalize (2 : Int) ^ (31 - j) = R
  generalize (2 : Int) ^ j = P
  have e4 : u * P = P * (2 * (u / 2) + 1) := by rw [← e3, Int.mul_comm]
  rw [e4, Int.mul_assoc P, ← Int.mul_add]
  congr 1
  rw [Int.mul_add 2, Int.mul_assoc 2]
  omega
theorem IsHalf.unique {X : Int} {b c : Nat} (h : IsHalf X b) (k : IsHalf X c) : b = c := by
  have hne : ∀ (o : Int) (r : Nat), (2 : Int) ^ r * (2 * o + 1) ≠ 0 := fun o r e => by
    rcases Int.mul_eq_zero.1 e with h | h
    · have : (0 : Int) < 2 ^ r := Int.pow_pos (by decide)
      omega
    · omega
  have key : ∀ (b c : Nat) (o p : Int), b < c → (2 : Int) ^ b * (2 * o + 1) ≠ 2 ^ c * (2 * p + 1) := fun b c o p hbc e => by
    obtain ⟨d, rfl⟩ : ∃ d, c = b + (d + 1) := ⟨c - b - 1, by omega⟩
    rw [Int.pow_add, Int.mul_assoc] at e
    have e2 := Int.eq_of_mul_eq_mul_left (by have : (0 : Int) < 2 ^ b := Int.pow_pos (by decide); omega) e
    rw [Int.pow_succ, Int.mul_comm _ 2, Int.mul_assoc] at e2
    omega
  rcases h with ⟨h1, h2⟩ | ⟨o, h1⟩ <;> rcases k with ⟨k1, k2⟩ | ⟨p, k1⟩
  · omega
  · exact absurd (k1.symm.trans h1) (hne p c)
  · exact absurd (h1.symm.trans k1) (hne o b)
  · rcases Nat.lt_trichotomy b c with h | h | h
    · exact absurd (h1.symm.trans k1) (key b c o p h)
    · exact h
    · exact absurd (k1.symm.trans h1) (key c b p o h)
theorem V_from {xs : List Int} {i : Nat} (hi : i < xs.length) (hz : ∀ j, j < i → xs.getD j 0 = 0) : ∃ rest, V 4294967296 xs = 4294967296 ^ i * (xs.getD i 0 + 4294967296 * rest) := by
  obtain ⟨r, hr⟩ : ∃ r, xs.length = i + (1 + r) := ⟨xs.length - i - 1, by omega⟩
  refine ⟨vf 4294967296 (fun j => xs.getD (i + (1 + j)) 0) r, ?_⟩
  unfold V
  rw [hr, vf_split, vf_split (B := 4294967296) (fun j => xs.getD (i + j) 0)]
  have e1 : vf 4294967296 (fun j => xs.getD j 0) i = 0 := by
    have := vf_zero (B := 4294967296) (f := fun j => xs.getD j 0) 0 i (fun j _ h => hz j (by omega))
    rw [Nat.zero_add] at this
    exact this
  have e2 : vf 4294967296 (fun j => xs.getD (i + j) 0) 1 = xs.getD i 0 := by simp [vf]
  rw [e1, e2, Int.zero_add, Int.pow_one]
theorem V_none {xs : List Int} (hz : ∀ j, j < xs.length → xs.getD j 0 = 0) : V 4294967296 xs = 0 := by
  have := vf_zero (B := 4294967296) (f := fun j => xs.getD j 0) 0 xs.length (fun j _ h => hz j (by omega))
  rw [Nat.zero_add] at this
  exact this

set_option maxHeartbeats 1000000 in
theorem noughts_any (a : Option Addr) (n0 c : Nat) (xs : List Int) (w : World) (ha : RowK .u32 w a n0 c xs) (hx : Dig 4294967296 xs) (hn0 : n0 ≤ 100000) :
    Calls Try.prog 38 #[.slice a n0 c] w fun e w' => ∃ b : Nat, e = .returned (.int .i64 b) ∧ w = w' ∧ IsHalf (V 4294967296 xs) b := by
  have HA := Lib.hid ha
  have HX := Lib.hid hx
  have HL := Lib.hid ha.1
  clear ha hx
  go_enter Try.func38, Try.ntmps38
  go_wp2_with fail
  go_loopg [8] n0 (fun k u wr => ∃ i : Nat, u = .int .i64 i ∧ i + k = n0 ∧ (∀ j, j < i → xs.getD j 0 = 0) ∧ w = wr)
  case atStart => exact ⟨0, rfl, by omega, fun j h => by omega, rfl⟩
  case round =>
    obtain ⟨i, rfl, hk, hz, rfl⟩ := hrel
    have HK := Lib.hid hk
    have HZ := Lib.hid hz
    clear hk hz
    by_cases hi : i < n0
    · obtain ⟨-, -, -, h4⟩ := HA.out
      rcases h4 with hcap0 | ⟨ba, oa, rfl, -, hc⟩
      · have := HA.out.2.1; omega
      have hc1 := hc i hi
      have hxr := HX.out.at (by decide) i
      obtain ⟨t, ht⟩ : ∃ d, xs.getD i 0 = d := ⟨_, rfl⟩
      rw [ht] at hc1 hxr
      have HT := Lib.hid ht
      obtain ⟨t0, t1⟩ := hxr
      clear hc ht
      by_cases h0 : t = 0
      · subst h0
        go_wp2_with fail
        go_roundg (gk - 1)
        case measure => have := HK.out; omega
        case rel => exact ⟨i + 1, by go_num, by have := HK.out; omega, fun j hj => (by
          by_cases h : j = i
          · rw [h]; exact HT.out
          · exact HZ.out j (by omega)), rfl⟩
      · have hq : (t == 0) = false := by simpa using h0
        obtain ⟨rest, hrest⟩ := V_from (by rw [HL.out]; exact hi) HZ.out
        rw [HT.out] at hrest
        have HR := Lib.hid hrest
        clear hrest
        go_wp2_with fail
        go_loopg [4, 5] 32 (fun k2 tu nu wi => ∃ j : Nat, tu = .int .u32 (t / 2 ^ j) ∧ nu = .int .i64 ((32 * i + j : Nat) : Int) ∧ j + k2 = 32 ∧ t = t / 2 ^ j * 2 ^ j ∧ w = wi)
        case atStart => exact ⟨0, by simp, by go_num, rfl, by simp, rfl⟩
        case round =>
          obtain ⟨j, rfl, rfl, hk2, htj, rfl⟩ := hrel
          have HK2 := Lib.hid hk2
          have HTJ := Lib.hid htj
          have hp : (0 : Int) < 2 ^ j := Int.pow_pos (by decide)
          have q0 : 0 ≤ t / 2 ^ j := Int.ediv_nonneg t0 (by omega)
          have q1 : t / 2 ^ j ≠ 0 := fun e => by rw [e, Int.zero_mul] at htj; omega
          have hlt : j < 32 := by
            rcases Nat.lt_or_ge j 32 with h | h
            · exact h
            · have h5 : (2 : Int) ^ 32 ≤ 2 ^ j := ipow_le (by decide) h
              have h6 := Int.ediv_eq_zero_of_lt t0 (show t < 2 ^ j by omega)
              exact absurd h6 q1
          have q2 : t / 2 ^ j < 4294967296 := Int.lt_of_le_of_lt (Int.ediv_le_self _ t0) t1
          have HD2 : Hid (t / 2 ^ j / 2 = t / 2 ^ (j + 1)) := Lib.hid (by rw [Int.pow_succ, Int.ediv_ediv_of_nonneg (Int.le_of_lt hp)])
          have HEV : Hid (t / 2 ^ j % 2 = 0 → t = t / 2 ^ (j + 1) * 2 ^ (j + 1)) := Lib.hid fun h => by
            rw [← HD2.out, Int.pow_succ, Int.mul_comm (2 ^ j), ← Int.mul_assoc, show t / 2 ^ j / 2 * 2 = t / 2 ^ j from by omega]
            exact HTJ.out
          have HOD : Hid (t / 2 ^ j % 2 = 1 → IsHalf (V 4294967296 xs) (32 * i + j)) := Lib.hid fun h => half_of HR.out (by omega) HTJ.out h
          clear hk2 htj q1
          obtain ⟨q, hqq⟩ : ∃ q, t / 2 ^ j = q := ⟨_, rfl⟩
          rw [hqq] at q0 q2 HD2 HEV HOD ⊢
          clear hqq hp
          by_cases hev : q % 2 = 0
          · have HE := Lib.hid (HEV.out hev)
            go_wp2_with fail
            go_roundg (gk - 1)
            case measure => have := HK2.out; omega
            case rel => exact ⟨j + 1, congrArg (Value.int .u32) HD2.out, by go_num, by have := HK2.out; omega, HE.out, rfl⟩
          · have HB := Lib.hid (HOD.out (by omega))
            have hev2 : (q % 2 == 0) = false := by simpa using hev
            go_wp2_with fail
            go_ret
            exact ⟨_, rfl, rfl, HB.out⟩
    · have hin : i = n0 := by have := HK.out; omega
      have H0 : Hid (V 4294967296 xs = 0) := Lib.hid (V_none fun j hj => HZ.out j (by rw [HL.out] at hj; omega))
      clear hin
      go_wp2_with fail
      go_ret
      exact ⟨0, rfl, rfl, .inl ⟨H0.out, rfl⟩⟩
end Go.Proofs.Ytnbhcemgoifkgaa
