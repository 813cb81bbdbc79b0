/- Contract of package nat's Root. Conditions: the words are below 2^32; at most 40000 of them. -/
import Derived.Test.YtnbhcemgoifkgaaNatN
namespace Go.Proofs.Ytnbhcemgoifkgaa
open Go.RowKit

theorem NatC.len {w : World} {a : Option Addr} {n c k : Nat} {z : Int} (h : NatC w a n c z) (hz : z < 4294967296 ^ k) : n ≤ k := by
  obtain ⟨xs, hr, hd, ht, hv⟩ := h
  rcases Nat.lt_or_ge k n with h | h
  · have h1 := V_ge (B := 4294967296) (by decide) hd ht (fun e => by have := hr.1; rw [e] at this; simp at this; omega)
    have h2 : (4294967296 : Int) ^ k ≤ 4294967296 ^ (xs.length - 1) := ipow_le (by decide) (by have := hr.1; omega)
    omega
  · exact h
theorem NatC.tl {w : World} {a : Option Addr} {n c : Nat} {z : Int} (h : NatC w a n c z) : ∃ xs, RowK .u32 w a n c xs ∧ Dig 4294967296 xs ∧ V 4294967296 xs = z ∧ tl xs = n := by
  obtain ⟨xs, hr, hd, ht, hv⟩ := h
  exact ⟨xs, hr, hd, hv, by rw [tl_of_trim ht, hr.1]⟩
/-- one of Newton's steps from above -/
theorem newton {X x : Int} (hX : 1 ≤ X) (hx : 1 ≤ x) : X < ((x + X / x) / 2 + 1) * ((x + X / x) / 2 + 1) ∧ 1 ≤ (x + X / x) / 2 := by
  have h1 : X < (X / x + 1) * x := Int.lt_ediv_add_one_mul_self X (by omega)
  have h0 : 0 ≤ X / x := Int.ediv_nonneg (by omega) (by omega)
  generalize X / x = q at *
  obtain ⟨y, hy⟩ : ∃ y, (x + q) / 2 = y := ⟨_, rfl⟩
  rw [hy]
  have h2 : x + q + 1 ≤ 2 * (y + 1) := by omega
  have h3 : (x + q + 1) * (x + q + 1) ≤ (2 * (y + 1)) * (2 * (y + 1)) := Int.mul_le_mul h2 h2 (by omega) (by omega)
  have h4 : 4 * ((q + 1) * x) ≤ (x + q + 1) * (x + q + 1) := by
    have h5 : 0 ≤ (x - (q + 1)) * (x - (q + 1)) := by
      rcases Int.lt_or_le (x - (q + 1)) 0 with h | h
      · exact Int.mul_nonneg_of_nonpos_of_nonpos (by omega) (by omega)
      · exact Int.mul_nonneg h h
    have e1 : ∀ p : Int, (x - p) * (x - p) = x * x - 2 * (p * x) + p * p := fun p => by
      rw [Int.sub_mul, Int.mul_sub, Int.mul_sub, Int.mul_comm x p]; omega
    have e2 : ∀ p : Int, (x + p) * (x + p) = x * x + 2 * (p * x) + p * p := fun p => by
      rw [Int.add_mul, Int.mul_add, Int.mul_add, Int.mul_comm x p]; omega
    rw [show x + q + 1 = x + (q + 1) from by omega, e2]
    rw [e1] at h5
    omega
  have e3 : (2 * (y + 1)) * (2 * (y + 1)) = 4 * ((y + 1) * (y + 1)) := by
    rw [Int.mul_assoc, Int.mul_left_comm (y + 1), ← Int.mul_assoc]; omega
  have h6 : X < (y + 1) * (y + 1) := by omega
  refine ⟨h6, ?_⟩
  rcases Int.lt_or_le 0 y with h | h
  · omega
  · have h7 : y = 0 := by omega
    rw [h7] at h6
    omega
theorem newton_end {X x : Int} (hx : 1 ≤ x) (h : x ≤ (x + X / x) / 2) : x * x ≤ X := by
  have h1 : x ≤ X / x := by omega
  exact (Int.le_ediv_iff_mul_le (by omega)).1 h1
theorem root_start {X : Int} {b : Nat} (h : IsBits X b) : X < (4294967296 ^ (b / 64 + 1) + 1) * (4294967296 ^ (b / 64 + 1) + 1) := by
  have e : (4294967296 : Int) ^ (b / 64 + 1) * 4294967296 ^ (b / 64 + 1) = 2 ^ (64 * (b / 64 + 1)) := by
    rw [← Int.pow_add, show (4294967296 : Int) = 2 ^ 32 from rfl, ← Int.pow_mul]
    congr 1
    omega
  have hp : (0 : Int) < 4294967296 ^ (b / 64 + 1) := Int.pow_pos (by decide)
  have h1 : X < 2 ^ (64 * (b / 64 + 1)) := by
    rcases h with ⟨h1, h2⟩ | ⟨h1, h2, h3⟩
    · rw [h1]; exact Int.pow_pos (by decide)
    · have : (2 : Int) ^ b ≤ 2 ^ (64 * (b / 64 + 1)) := ipow_le (by decide) (by omega)
      omega
  rw [Int.add_mul, Int.mul_add, Int.mul_one, Int.one_mul, e]
  omega
theorem pow_sum {z q : Int} {k n : Nat} (hz : z ≤ 4294967296 ^ k) (hq : q < 4294967296 ^ n) : z + q < 4294967296 ^ (k + n + 1) := by
  have h1 : (4294967296 : Int) ^ k ≤ 4294967296 ^ (k + n) := ipow_le (by decide) (by omega)
  have h2 : (4294967296 : Int) ^ n ≤ 4294967296 ^ (k + n) := ipow_le (by decide) (by omega)
  have h3 : (0 : Int) < 4294967296 ^ (k + n) := Int.pow_pos (by decide)
  rw [Int.pow_succ]
  omega
/-- a list of noughts with a 1 at its end -/
theorem one_at (k : Nat) : V 4294967296 ((List.replicate (k + 1) (0 : Int)).set k 1) = 4294967296 ^ k ∧ Dig 4294967296 ((List.replicate (k + 1) (0 : Int)).set k 1) ∧ Trimmed ((List.replicate (k + 1) (0 : Int)).set k 1) := by
  refine ⟨by rw [V_set (by simp), V_replicate, getD_replicate]; omega, (Dig.replicate (by decide) _).set k (by decide) (by decide), .inr ?_⟩
  rw [List.length_set, List.length_replicate, Nat.add_sub_cancel, getD_set_self (by simp)]
  decide

set_option maxHeartbeats 1000000 in
theorem root_any (a : Option Addr) (n0 c : Nat) (xs : List Int) (w : World) (ha : RowK .u32 w a n0 c xs) (hx : Dig 4294967296 xs) (hn0 : n0 ≤ 40000) :
    Calls Try.prog 25 #[.slice a n0 c] w fun e w' => ∃ r, 0 ≤ r ∧ r * r ≤ V 4294967296 xs ∧ V 4294967296 xs < (r + 1) * (r + 1) ∧ RetNat w r e w' := by
  have HA := Lib.hid ha
  have HX := Lib.hid hx
  have SA := Lib.hid (size_any a n0 c xs w ha)
  have HBI := Lib.hid (bits_any a n0 c xs w ha hx (by omega))
  have hn : tl xs ≤ n0 := by have := tl_le xs; rw [ha.1] at this; exact this
  have hV0 := (V_bd (B := 4294967296) (by decide) hx).1
  have hVb := (V_bd (B := 4294967296) (by decide) hx).2
  rw [ha.1] at hVb
  have HVB := Lib.hid hVb
  by_cases hz : tl xs = 0
  · have HXZ := Lib.hid ((tl_pos (by decide) hx).2 hz)
    rw [hz] at SA
    clear ha hx hn hVb
    go_enter Try.func25, Try.ntmps25
    go_wp2_with fail
    refine SA.out.mono ?_; rintro e w1 ⟨rfl, rfl⟩
    go_wp2_with fail
    go_ret
    exact ⟨0, Int.le_refl _, by rw [HXZ.out]; decide, by rw [HXZ.out]; decide, RetNat.nil rfl⟩
  · have hX1 : 1 ≤ V 4294967296 xs := by
      have : V 4294967296 xs ≠ 0 := fun e => hz ((tl_pos (by decide) hx).1 e)
      omega
    clear ha hx
    generalize tl xs = n at *
    have HDV := Lib.hid (fun (w1 : World) (b : Option Addr) (m0 d : Nat) (z : Int) (h : Below w.heap.size w w1) (hb : NatC w1 b m0 d z) (hm : m0 ≤ 90000) (h0 : z ≠ 0) =>
      show Calls Try.prog 18 #[.slice a n0 c, .slice b m0 d] w1 (RetQR w1 (V 4294967296 xs / z) (V 4294967296 xs % z)) from by
        obtain ⟨ys, hr, hd, -, rfl⟩ := hb
        exact ndiv_any a b n0 c m0 d xs ys w1 (HA.out.below h (Nat.le_refl _)) hr HX.out hd (by omega) hm h0)
    generalize V 4294967296 xs = X at *
    go_enter Try.func25, Try.ntmps25
    go_wp2_with fail
    refine SA.out.mono ?_; rintro e w1 ⟨rfl, rfl⟩
    go_wp2_with fail
    refine HBI.out.mono ?_; rintro e w1 ⟨bb, rfl, rfl, hbits⟩
    have hbb : bb ≤ 32 * n0 := by
      rcases hbits with ⟨h1, h2⟩ | ⟨h1, h2, h3⟩
      · omega
      · rcases Nat.lt_or_ge (32 * n0) bb with h | h
        · have h4 : (2 : Int) ^ (32 * n0) ≤ 2 ^ (bb - 1) := ipow_le (by decide) (by omega)
          rw [Int.pow_mul] at h4
          have h5 : ((2 : Int) ^ 32) ^ n0 = 4294967296 ^ n0 := rfl
          omega
        · exact h
    have hst := root_start hbits
    obtain ⟨k, hk⟩ : ∃ k, bb / 64 + 1 = k := ⟨_, rfl⟩
    rw [hk] at hst
    have e1 : (bb : Int) / 64 + 2 = (k : Int) + 1 := by omega
    have hk2 : k ≤ 40001 := by omega
    clear hbits hVb
    go_wp2_with (at_make; refine make_arr .u32 22 55 4 info_u32 (by decide) Try.underlying22 rfl _ _ rfl .i64 .i64 _ _ (k + 1) _ rfl rfl (by omega) (by omega) (by omega) ?_)
    intro w0 harr hb0 hs0
    have hco := harr.cell (i := k) (by simp)
    have hfo := harr.frozen k
    have harr2 := harr.set k 1
    obtain ⟨o1, o2, o3⟩ := one_at k
    have hfull := harr2.full (by rw [List.length_set, List.length_replicate]; omega)
    rw [List.length_set, List.length_replicate] at hfull
    have hnat : NatC _ _ _ _ _ := ⟨_, hfull, o2, o3, o1⟩
    have HNAT := Lib.hid hnat
    have HB0 := Lib.hid (hb0.setCell (p := ⟨w.heap.size, k, none⟩) (Nat.le_refl _) (.int .u32 1))
    have HST := Lib.hid hst
    clear harr harr2 hfull hnat o1 o2 o3 hb0 hst e1
    go_wp2_with fail
    go_loopg [3] (4294967296 ^ k + 1) (fun g u wr => ∃ (b : Option Addr) (m d : Nat) (z : Int), u = .slice b m d ∧ NatC wr b m d z ∧ 1 ≤ z ∧ z ≤ 4294967296 ^ k ∧ z < (g : Int) ∧ X < (z + 1) * (z + 1) ∧ Fresh w.heap.size b ∧ Below w.heap.size w wr)
    case atStart => exact ⟨_, _, _, _, rfl, HNAT.out, Int.pow_pos (by decide), Int.le_refl _, by rw [Int.natCast_add, Int.natCast_pow]; exact Int.lt_succ _, HST.out, Fresh.at (Nat.le_refl _), HB0.out⟩
    case round =>
      obtain ⟨b, m, d, z, rfl, hN, hz1, hzk, hzg, hXz, hf, hbl⟩ := hrel
      have hm : m ≤ k + 1 := hN.len (by rw [Int.pow_succ]; have : (0 : Int) < 4294967296 ^ k := Int.pow_pos (by decide); omega)
      obtain ⟨hnw1, hnw2⟩ := newton hX1 hz1
      have hq0 : 0 ≤ X / z := Int.ediv_nonneg hV0 (by omega)
      have HEND := Lib.hid (newton_end (X := X) hz1)
      have HDV1 := Lib.hid (HDV.out wr b m d z hbl hN (by omega) (by omega))
      have HN := Lib.hid hN
      have HF := Lib.hid hf
      have HBL := Lib.hid hbl
      have HNW := Lib.hid hnw1
      have HXZ := Lib.hid hXz
      have HZK := Lib.hid hzk
      have hqn : X / z < 4294967296 ^ n0 := Int.lt_of_le_of_lt (Int.ediv_le_self z hV0) HVB.out
      have HZQ : Hid (z + X / z < 4294967296 ^ (k + n0 + 1)) := Lib.hid (pow_sum HZK.out hqn)
      clear hN hf hbl hnw1 hXz hzk
      generalize X / z = q at *
      generalize X % z = r at *
      go_wp2_with fail
      refine HDV1.out.mono ?_; rintro e w1 ⟨a1, m1, d1, a2, m2, d2, rfl, hN1, hN2, hb1, hf1, hf2⟩
      have hm1 := hN1.len hqn
      obtain ⟨zs, hzr, hzd, hzv, hzt⟩ := HN.out.tl
      obtain ⟨qs, hqr, hqd, hqv, hqt⟩ := hN1.tl
      have hadd := nadd_any b a1 m d m1 d1 zs qs w1 (hzr.below hb1 (Nat.le_refl _)) hqr hzd hqd (by omega) (by omega)
      rw [hzv, hqv] at hadd
      have HADD := Lib.hid hadd
      have HB1 := Lib.hid hb1
      have HZR := Lib.hid hzr
      have HZD := Lib.hid hzd
      have HZV := Lib.hid hzv
      have HZT := Lib.hid hzt
      clear hN1 hN2 hf1 hf2 hqr hqd hqv hqt hadd hqn hb1 hzr hzd hzv hzt
      go_wp2_with fail
      refine HADD.out.mono ?_; rintro e w2 ⟨a3, m3, d3, rfl, hN3, hb3, hf3⟩
      have hm3 : m3 ≤ 90000 := by have := hN3.len HZQ.out; omega
      obtain ⟨ss, hsr, hsd, hsv, -⟩ := hN3.tl
      have hshr := shr_any a3 m3 d3 1 1 0 1 ss w2 hsr hsd (by omega) (by decide) (by decide) (by decide) (by decide)
      rw [hsv, Int.pow_one] at hshr
      have HSHR := Lib.hid hshr
      have HB3 := Lib.hid hb3
      clear hN3 hb3 hf3 hsr hsd hsv hshr
      go_wp2_with fail
      refine HSHR.out.mono ?_; rintro e w3 ⟨a4, m4, d4, rfl, hN4, hb4, hf4⟩
      obtain ⟨yv, hyv⟩ : ∃ y, (z + q) / 2 = y := ⟨_, rfl⟩
      rw [hyv] at hN4 hnw2 HNW HEND
      obtain ⟨us, hur, hud, huv, -⟩ := hN4.tl
      have hbx : Below wr.heap.size wr w3 := (HB1.out.trans (HB3.out.mono HB1.out.size)).trans (hb4.mono (by have := HB1.out.size; have := HB3.out.size; omega))
      have hcmp := ncmp_any a4 b m4 d4 m d us zs w3 hur (HZR.out.below hbx (Nat.le_refl _)) hud HZD.out
      rw [huv, HZV.out] at hcmp
      have HCMP := Lib.hid hcmp
      have HBX := Lib.hid hbx
      have HN4 := Lib.hid hN4
      have HF4 : Hid (Fresh w.heap.size a4) := Lib.hid (hf4.mono (by have := HB1.out.size; have := HB3.out.size; have := HBL.out.size; omega))
      have HYV := Lib.hid hyv
      clear hN4 hb4 hf4 hur hud huv hcmp hbx hyv
      by_cases hge : z ≤ yv
      · have hcz := cmpZ_ge hge
        generalize cmpZ yv z = cz at *
        have hcz' : cz ≥ 0 := hcz
        go_wp2_with fail
        refine HCMP.out.mono ?_; rintro e w4 ⟨rfl, hb5⟩
        have HB5 := Lib.hid (HBX.out.trans (hb5.mono HBX.out.size))
        have hsz := size_any b m d zs w4 (HZR.out.below HB5.out (Nat.le_refl _))
        rw [HZT.out] at hsz
        have HSZ := Lib.hid hsz
        have hml : m ≤ d := HZR.out.2.1
        have hdl : d ≤ 9223372036854775807 := by have := HZR.out.2.2.1; unfold maxLen at this; exact this
        clear hb5 hsz
        go_wp2_with fail
        refine HSZ.out.mono ?_; rintro e w5 ⟨rfl, rfl⟩
        go_wp2_with fail
        go_ret
        exact ⟨z, by omega, HEND.out (by have := HYV.out; omega), HXZ.out, b, m, d, rfl, HN.out.below HB5.out (Nat.le_refl _), HBL.out.trans (HB5.out.mono HBL.out.size), HF.out⟩
      · have hcz := cmpZ_lt (show yv < z by omega)
        rw [hcz] at HCMP
        go_wp2_with fail
        refine HCMP.out.mono ?_; rintro e w4 ⟨rfl, hb5⟩
        have HB5 := Lib.hid (HBX.out.trans (hb5.mono HBX.out.size))
        have HN5 := Lib.hid (HN4.out.below hb5 (Nat.le_refl _))
        clear hb5 hcz
        go_wp2_with fail
        go_roundg yv.toNat.succ
        case measure => omega
        case rel => exact ⟨a4, m4, d4, yv, rfl, HN5.out, hnw2, by have := HZK.out; omega, by omega, HNW.out, HF4.out, HBL.out.trans (HB5.out.mono HBL.out.size)⟩
end Go.Proofs.Ytnbhcemgoifkgaa
