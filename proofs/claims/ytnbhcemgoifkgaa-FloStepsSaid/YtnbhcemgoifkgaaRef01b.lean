/- Contracts of package bushelref01's sum and rest. Conditions: lists of digits of at most 2^40 elements. -/
import Derived.Test.YtnbhcemgoifkgaaApp64
import Derived.Test.YtnbhcemgoifkgaaRef01a
namespace Go.Proofs.Ytnbhcemgoifkgaa
open Go.RowKit

theorem sum_step {xs ys os : List Int} {c s : Int} {k : Nat} (ho : os.length = k) (hv : V 1000 os + c * 1000 ^ k = vf 1000 (fun i => xs.getD i 0 + ys.getD i 0) k) (hs : s = xs.getD k 0 + ys.getD k 0 + c) :
    V 1000 (os ++ [s % 1000]) + s / 1000 * 1000 ^ (k + 1) = vf 1000 (fun i => xs.getD i 0 + ys.getD i 0) (k + 1) := by
  rw [V_snoc, ho]
  show _ = vf 1000 (fun i => xs.getD i 0 + ys.getD i 0) k + (xs.getD k 0 + ys.getD k 0) * 1000 ^ k
  rw [← hv, Int.pow_succ, ← Int.mul_assoc, Int.mul_comm (s / 1000), Int.mul_assoc (1000 ^ k), Int.mul_comm (1000 ^ k)]
  have h1 : s = s % 1000 + s / 1000 * 1000 := by omega
  have h2 : (xs.getD k 0 + ys.getD k 0) = s - c := by omega
  rw [h2, Int.sub_mul]
  have h3 : s * 1000 ^ k = (s % 1000 + s / 1000 * 1000) * 1000 ^ k := by rw [← h1]
  rw [Int.add_mul] at h3
  have h4 : s / 1000 * 1000 * 1000 ^ k = s / 1000 * 1000 * 1000 ^ k := rfl
  omega

theorem sum_any (a b : Option Addr) (n cap m cb : Nat) (xs ys : List Int) (w : World) (ha : RowK .i64 w a n cap xs) (hb : RowK .i64 w b m cb ys) (hx : Dig 1000 xs) (hy : Dig 1000 ys)
    (hn : n ≤ 1099511627776) (hm : m ≤ 1099511627776) :
    Calls Try.prog 71 #[.slice a n cap, .slice b m cb] w (RetDig w (max n m + 1) (V 1000 xs + V 1000 ys)) := by
  have HA := Lib.hid ha
  have HB := Lib.hid hb
  have HX := Lib.hid hx
  have HY := Lib.hid hy
  have HE : Hid (V 1000 xs + V 1000 ys = vf 1000 (fun i => xs.getD i 0 + ys.getD i 0) (max n m)) := by
    have h : V 1000 xs + V 1000 ys = vf 1000 (fun i => xs.getD i 0 + ys.getD i 0) (max n m) := by
      rw [vf_add, vf_ext (by have := ha.1; omega), vf_ext (by have := hb.1; omega)]
    exact Lib.hid h
  clear ha hb hx hy
  go_enter Try.func71, Try.ntmps71
  go_wp2_with fail
  go_loopg [5, 6, 7] (max n m) (fun k v c i wr => ∃ (j : Nat) (os : List Int) (cy : Int), i = .int .i64 j ∧ c = .int .i64 cy ∧ j + k = max n m ∧ OwnK .i64 wr w.heap.size 3 v j os ∧
    Dig 1000 os ∧ 0 ≤ cy ∧ cy ≤ 1 ∧ V 1000 os + cy * 1000 ^ j = vf 1000 (fun i => xs.getD i 0 + ys.getD i 0) j ∧ Below w.heap.size w wr)
  case atStart => exact ⟨0, [], 0, rfl, rfl, by omega, OwnK.nil _ _ _ _, Dig.nil, by omega, by omega, rfl, Below.refl _ _⟩
  case round =>
    obtain ⟨j, os, cy, rfl, rfl, hk, hown, hD, hc0, hc1, hv, hbel⟩ := hrel
    have HK := Lib.hid hk
    have HO := Lib.hid hown
    have HD := Lib.hid hD
    have HV := Lib.hid hv
    have HBe := Lib.hid hbel
    have hlo : os.length = j := hown.len
    have HL := Lib.hid hlo
    have hsz := hbel.size
    clear hk hown hD hv hbel hlo
    by_cases hj : j < max n m
    · obtain ⟨d, hd⟩ : ∃ d, xs.getD j 0 = d := ⟨_, rfl⟩
      obtain ⟨e, he⟩ : ∃ e, ys.getD j 0 = e := ⟨_, rfl⟩
      have hA := Lib.hid (digit_at a n cap xs j d wr (HA.out.below HBe.out (Nat.le_refl _)) (by omega) hd)
      have hB := Lib.hid (digit_at b m cb ys j e wr (HB.out.below HBe.out (Nat.le_refl _)) (by omega) he)
      have hdr := HX.out.at (by decide) j
      have her := HY.out.at (by decide) j
      rw [hd] at hdr
      rw [he] at her
      have HD1 := Lib.hid hd
      have HE1 := Lib.hid he
      clear hd he
      by_cases hnm : n < m
      all_goals
        go_wp2_with fail
        refine hA.out.mono ?_; rintro e w' ⟨rfl, rfl⟩
        go_wp2_with fail
        refine hB.out.mono ?_; rintro e w' ⟨rfl, rfl⟩
        go_wp2_with (at_builtin; refine append1_i64 rfl _ _ rfl w.heap.size wr u5 j os ((d + e + cy) % 1000) rfl rfl HO.out ?c1 ?c2 ?_)
        case c1 => omega
        case c2 => exact hsz
        intro v' w1 hown' _ hbel'
        have HO' := Lib.hid hown'
        have HB' := Lib.hid (hbel' _ HBe.out)
        clear hown' hbel'
        go_wp2_with fail
        go_roundg (gk - 1)
        case measure => have := HK.out; omega
        case rel => exact ⟨j + 1, os ++ [(d + e + cy) % 1000], (d + e + cy) / 1000, by go_num, rfl, by have := HK.out; omega, HO'.out, HD.out.snoc (by omega) (by omega), by omega, by omega,
          sum_step HL.out HV.out (by rw [HD1.out, HE1.out]), HB'.out⟩
    · obtain rfl : j = max n m := by have := HK.out; omega
      by_cases hnm : n < m
      all_goals
        go_wp2_with (at_builtin; refine append1_i64 rfl _ _ rfl w.heap.size wr u5 (max n m) os cy rfl rfl HO.out ?c1 ?c2 ?_)
        case c1 => omega
        case c2 => exact hsz
        intro v' w1 hown' _ hbel'
        have HO' := Lib.hid hown'
        have HB' := Lib.hid (hbel' _ HBe.out)
        clear hown' hbel'
        go_wp2_with fail
        go_ret
        exact RetDig.of_own HO'.out (HD.out.snoc hc0 (by omega)) (by rw [V_snoc, HL.out, HE.out, HV.out]) HB'.out

theorem V_above {B : Int} (hB : 0 < B) {ys : List Int} (hy : Dig B ys) (n : Nat) (h : V B ys < B ^ n) : vf B (fun i => ys.getD i 0) n = V B ys := by
  have key : ∀ m, vf B (fun i => ys.getD i 0) (n + m) < B ^ n → vf B (fun i => ys.getD i 0) (n + m) = vf B (fun i => ys.getD i 0) n := by
    intro m
    induction m with
    | zero => intro _; rfl
    | succ m ih =>
      intro hlt
      have e : vf B (fun i => ys.getD i 0) (n + (m + 1)) = vf B (fun i => ys.getD i 0) (n + m) + ys.getD (n + m) 0 * B ^ (n + m) := rfl
      have h0 := (vf_bd hB (f := fun i => ys.getD i 0) (n + m) (fun i _ => hy.at hB i)).1
      have h1 := (hy.at hB (n + m)).1
      have hp : B ^ n ≤ B ^ (n + m) := ipow_le hB (by omega)
      have hpos : 0 < B ^ (n + m) := Int.pow_pos hB
      have hz : ys.getD (n + m) 0 = 0 := by
        rcases Int.lt_or_eq_of_le h1 with h2 | h2
        · have h3 : 1 * B ^ (n + m) ≤ ys.getD (n + m) 0 * B ^ (n + m) := Int.mul_le_mul_of_nonneg_right (by omega) (by omega)
          omega
        · exact h2.symm
      rw [e, hz, Int.zero_mul, Int.add_zero] at hlt ⊢
      exact ih hlt
  by_cases hl : ys.length ≤ n
  · exact vf_ext hl
  · obtain ⟨m, hm⟩ : ∃ m, ys.length = n + m := ⟨ys.length - n, by omega⟩
    have h1 := key m (by rw [← hm]; exact h)
    rw [← h1, ← hm]; rfl

theorem rest_step {xs ys os : List Int} {c s t c' : Int} {k : Nat} (ho : os.length = k) (hv : V 1000 os - c * 1000 ^ k = vf 1000 (fun i => xs.getD i 0) k - vf 1000 (fun i => ys.getD i 0) k)
    (hs : s = xs.getD k 0 - ys.getD k 0 - c) (ht : t = s + c' * 1000) :
    V 1000 (os ++ [t]) - c' * 1000 ^ (k + 1) = vf 1000 (fun i => xs.getD i 0) (k + 1) - vf 1000 (fun i => ys.getD i 0) (k + 1) := by
  rw [V_snoc, ho]
  show _ = (vf 1000 (fun i => xs.getD i 0) k + xs.getD k 0 * 1000 ^ k) - (vf 1000 (fun i => ys.getD i 0) k + ys.getD k 0 * 1000 ^ k)
  have h1 : t * 1000 ^ k = (xs.getD k 0 - ys.getD k 0 - c + c' * 1000) * 1000 ^ k := by rw [ht, hs]
  rw [Int.add_mul, Int.sub_mul, Int.sub_mul, Int.mul_assoc c'] at h1
  rw [Int.pow_succ, Int.mul_comm (1000 ^ k) 1000]
  omega

theorem rest_end {xs ys os : List Int} {c : Int} {n : Nat} (hx : Dig 1000 xs) (hy : Dig 1000 ys) (ho : Dig 1000 os) (hl : os.length = n) (hn : xs.length = n) (hge : V 1000 ys ≤ V 1000 xs)
    (hv : V 1000 os - c * 1000 ^ n = vf 1000 (fun i => xs.getD i 0) n - vf 1000 (fun i => ys.getD i 0) n) (hc : 0 ≤ c) : V 1000 os = V 1000 xs - V 1000 ys := by
  have h1 : vf 1000 (fun i => xs.getD i 0) n = V 1000 xs := vf_ext (by omega)
  have h2 := (V_bd (by decide) hx).2
  rw [hn] at h2
  have h3 := V_above (B := 1000) (by decide) hy n (by omega)
  have h4 := (V_bd (by decide) ho)
  rw [hl] at h4
  rw [h1, h3] at hv
  have h5 := (V_bd (by decide) hy).1
  have hp : (0 : Int) < 1000 ^ n := Int.pow_pos (by decide)
  have : c = 0 := by
    rcases Int.lt_or_eq_of_le hc with h6 | h6
    · have : 1 * 1000 ^ n ≤ c * 1000 ^ n := Int.mul_le_mul_of_nonneg_right (by omega) (by omega)
      omega
    · exact h6.symm
  rw [this, Int.zero_mul] at hv
  omega

theorem rest_any (a b : Option Addr) (n cap m cb : Nat) (xs ys : List Int) (w : World) (ha : RowK .i64 w a n cap xs) (hb : RowK .i64 w b m cb ys) (hx : Dig 1000 xs) (hy : Dig 1000 ys)
    (hn : n ≤ 1099511627776) (hge : V 1000 ys ≤ V 1000 xs) :
    Calls Try.prog 73 #[.slice a n cap, .slice b m cb] w (RetDig w n (V 1000 xs - V 1000 ys)) := by
  have HA := Lib.hid ha
  have HB := Lib.hid hb
  have HX := Lib.hid hx
  have HY := Lib.hid hy
  have HG := Lib.hid hge
  clear ha hb hx hy hge
  go_enter Try.func73, Try.ntmps73
  go_wp2_with fail
  go_loopg [5, 6, 7] n (fun k v c i wr => ∃ (j : Nat) (os : List Int) (cy : Int), i = .int .i64 j ∧ c = .int .i64 cy ∧ j + k = n ∧ OwnK .i64 wr w.heap.size 3 v j os ∧
    Dig 1000 os ∧ 0 ≤ cy ∧ cy ≤ 1 ∧ V 1000 os - cy * 1000 ^ j = vf 1000 (fun i => xs.getD i 0) j - vf 1000 (fun i => ys.getD i 0) j ∧ Below w.heap.size w wr)
  case atStart => exact ⟨0, [], 0, rfl, rfl, by omega, OwnK.nil _ _ _ _, Dig.nil, by omega, by omega, rfl, Below.refl _ _⟩
  case round =>
    obtain ⟨j, os, cy, rfl, rfl, hk, hown, hD, hc0, hc1, hv, hbel⟩ := hrel
    have HK := Lib.hid hk
    have HO := Lib.hid hown
    have HD := Lib.hid hD
    have HV := Lib.hid hv
    have HBe := Lib.hid hbel
    have hlo : os.length = j := hown.len
    have HL := Lib.hid hlo
    have hsz := hbel.size
    clear hk hown hD hv hbel hlo
    by_cases hj : j < n
    · obtain ⟨d, hd⟩ : ∃ d, xs.getD j 0 = d := ⟨_, rfl⟩
      obtain ⟨e, he⟩ : ∃ e, ys.getD j 0 = e := ⟨_, rfl⟩
      have hA := Lib.hid (digit_at a n cap xs j d wr (HA.out.below HBe.out (Nat.le_refl _)) (by omega) hd)
      have hB := Lib.hid (digit_at b m cb ys j e wr (HB.out.below HBe.out (Nat.le_refl _)) (by omega) he)
      have hdr := HX.out.at (by decide) j
      have her := HY.out.at (by decide) j
      rw [hd] at hdr
      rw [he] at her
      have HD1 := Lib.hid hd
      have HE1 := Lib.hid he
      clear hd he
      by_cases hs : d - e - cy < 0
      · go_wp2_with fail
        refine hA.out.mono ?_; rintro e w' ⟨rfl, rfl⟩
        go_wp2_with fail
        refine hB.out.mono ?_; rintro e w' ⟨rfl, rfl⟩
        go_wp2_with (at_builtin; refine append1_i64 rfl _ _ rfl w.heap.size wr u5 j os (d - e - cy + 1000) rfl rfl HO.out ?c1 ?c2 ?_)
        case c1 => omega
        case c2 => exact hsz
        intro v' w1 hown' _ hbel'
        have HO' := Lib.hid hown'
        have HB' := Lib.hid (hbel' _ HBe.out)
        clear hown' hbel'
        go_wp2_with fail
        go_roundg (gk - 1)
        case measure => have := HK.out; omega
        case rel => exact ⟨j + 1, os ++ [d - e - cy + 1000], 1, by go_num, rfl, by have := HK.out; omega, HO'.out, HD.out.snoc (by omega) (by omega), by omega, by omega,
          rest_step HL.out HV.out (by rw [HD1.out, HE1.out]) (by omega), HB'.out⟩
      · go_wp2_with fail
        refine hA.out.mono ?_; rintro e w' ⟨rfl, rfl⟩
        go_wp2_with fail
        refine hB.out.mono ?_; rintro e w' ⟨rfl, rfl⟩
        go_wp2_with (at_builtin; refine append1_i64 rfl _ _ rfl w.heap.size wr u5 j os (d - e - cy) rfl rfl HO.out ?c1 ?c2 ?_)
        case c1 => omega
        case c2 => exact hsz
        intro v' w1 hown' _ hbel'
        have HO' := Lib.hid hown'
        have HB' := Lib.hid (hbel' _ HBe.out)
        clear hown' hbel'
        go_wp2_with fail
        go_roundg (gk - 1)
        case measure => have := HK.out; omega
        case rel => exact ⟨j + 1, os ++ [d - e - cy], 0, by go_num, rfl, by have := HK.out; omega, HO'.out, HD.out.snoc (by omega) (by omega), by omega, by omega,
          rest_step HL.out HV.out (by rw [HD1.out, HE1.out]) (by omega), HB'.out⟩
    · obtain rfl : j = n := by have := HK.out; omega
      go_wp2_with fail
      go_ret
      exact RetDig.of_own HO.out HD.out (rest_end HX.out HY.out HD.out HL.out HA.out.1 HG.out HV.out hc0) HBe.out

theorem nat_step {os : List Int} {x z : Int} {j : Nat} (hl : os.length = j) (hv : V 1000 os + x * 1000 ^ j = z) : V 1000 (os ++ [x % 1000]) + x / 1000 * 1000 ^ (j + 1) = z := by
  rw [V_snoc, hl, ← hv, Int.pow_succ, Int.mul_comm (1000 ^ j) 1000, ← Int.mul_assoc]
  have h : x * 1000 ^ j = (x % 1000 + x / 1000 * 1000) * 1000 ^ j := by rw [show x % 1000 + x / 1000 * 1000 = x from by omega]
  rw [Int.add_mul] at h
  omega

theorem nat_j {k j : Nat} (hk : 0 < k) (h : (k : Int) * 1000 ^ j ≤ 18446744073709551615) : j + 1 ≤ 100000 := by
  refine Nat.le_of_not_lt fun hj => ?_
  have h1 : (1000 : Int) ^ 7 ≤ 1000 ^ j := ipow_le (by decide) (by omega)
  have h2 : 1 * (1000 : Int) ^ j ≤ k * 1000 ^ j := Int.mul_le_mul_of_nonneg_right (by omega) (by omega)
  omega
theorem nat_le {k j : Nat} (h : (k : Int) * 1000 ^ j ≤ 18446744073709551615) : ((k / 1000 : Nat) : Int) * 1000 ^ (j + 1) ≤ 18446744073709551615 := by
  have hp : (0 : Int) < 1000 ^ j := Int.pow_pos (by decide)
  rw [Int.pow_succ, Int.mul_comm (1000 ^ j) 1000, ← Int.mul_assoc]
  have : ((k / 1000 : Nat) : Int) * 1000 * 1000 ^ j ≤ k * 1000 ^ j := Int.mul_le_mul_of_nonneg_right (by omega) (by omega)
  omega
theorem trimmed_snoc {xs : List Int} {d : Int} (h : d ≠ 0) : Trimmed (xs ++ [d]) := by
  right
  rw [List.length_append, List.length_singleton, Nat.add_sub_cancel, getD_snoc]
  exact h

theorem nat_any (x : Int) (w : World) (h0 : 0 ≤ x) (h1 : x ≤ 18446744073709551615) :
    Calls Try.prog 27 #[.int .u64 x] w (RetNum w x) := by
  go_enter Try.func27, Try.ntmps27
  go_wp2_with fail
  go_loopg [0, 3] x.toNat (fun k i v wr => ∃ (j : Nat) (os : List Int) (a : Option Addr) (c : Nat), i = .int .u64 k ∧ v = .slice a j c ∧ OwnK .i64 wr (w.heap.size + 1) 3 v j os ∧ (k : Int) ≤ 18446744073709551615 ∧ j ≤ 100000 ∧
    (k : Int) * 1000 ^ j ≤ 18446744073709551615 ∧ Dig 1000 os ∧ V 1000 os + k * 1000 ^ j = x ∧ (k = 0 → Trimmed os) ∧ Below (w.heap.size + 1) (w.alloc (.cells #[.bool false, .slice none 0 0] 27)) wr)
  case atStart => exact ⟨0, [], none, 0, congrArg (Value.int .u64) (by omega), rfl, OwnK.nil _ _ _ _, by omega, by omega, by rw [Int.pow_zero]; omega, Dig.nil, by rw [V_nil, Int.pow_zero]; omega, fun _ => .inl rfl, Below.refl _ _⟩
  case round =>
    obtain ⟨j, os, a, c, rfl, rfl, hown, hk, hj, hjk, hD, hv, hT, hbel⟩ := hrel
    have HO := Lib.hid hown
    have HD := Lib.hid hD
    have HV := Lib.hid hv
    have HT := Lib.hid hT
    have HBe := Lib.hid hbel
    have hlo : os.length = j := hown.len
    have HL := Lib.hid hlo
    have HJ := Lib.hid hjk
    have hsz : w.heap.size + 1 ≤ wr.heap.size := by have := hbel.size; simpa using this
    obtain ⟨bc, bf⟩ := bcell hbel
    clear hown hD hv hbel hlo hT hjk
    by_cases h0 : gk = 0
    · subst h0
      go_wp2
      have hN : NumC ((wr.setCell ⟨w.heap.size, 0, none⟩ (.bool false)).setCell ⟨w.heap.size, 1, none⟩ (.slice a j c)) false a j c x :=
        ⟨os, ((HO.out.set_below (by simp) _).set_below (by simp) _).row, HD.out, HT.out trivial, by rw [← HV.out]; simp, fun h => by cases h⟩
      refine bodyPost_ret (v := .agg #[.bool false, .slice a j c]) (by simp [results, Try.results27, go_sem, bc]) rfl ⟨_, _, _, _, rfl, hN, ?_, HO.out.fresh.mono (by omega)⟩
      exact ((((Below.refl _ _).alloc (Nat.le_refl _) _).trans (HBe.out.mono (by omega))).setCell (Nat.le_refl _) _).setCell (Nat.le_refl _) _
    · have h1' : 0 < gk := by omega
      go_wp2_with (at_builtin; refine append1_i64 rfl _ _ rfl (w.heap.size + 1) wr (.slice a j c) j os ((gk : Int) % 1000) rfl rfl HO.out ?c1 ?c2 ?_)
      case c1 => omega
      case c2 => exact hsz
      intro v' w1 hown' _ hbel'
      obtain ⟨a', c', hv'⟩ := hown'.form
      have HV' := Lib.hid hv'
      have HO' := Lib.hid hown'
      have HB' := Lib.hid (hbel' _ HBe.out)
      clear hown' hbel' hv'
      go_wp2_with fail
      go_roundg (gk / 1000)
      case measure => omega
      case rel => exact ⟨j + 1, os ++ [(gk : Int) % 1000], a', c', by first | rfl | go_num, HV'.out, HO'.out, by omega, nat_j h1' HJ.out, nat_le HJ.out, HD.out.snoc (by omega) (by omega), nat_step HL.out HV.out, fun h => trimmed_snoc (by omega), HB'.out⟩
end Go.Proofs.Ytnbhcemgoifkgaa
