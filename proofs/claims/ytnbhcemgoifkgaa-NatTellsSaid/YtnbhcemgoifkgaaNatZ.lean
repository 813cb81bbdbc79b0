/- The walk of the law NatTells. No conditions. -/
import Derived.Test.YtnbhcemgoifkgaaNatU
import Derived.Test.YtnbhcemgoifkgaaRef02c
import Derived.Test.YtnbhcemgoifkgaaRef02f
import Derived.Deep.CutBlock
import Derived.Deep.DeepCutAuto
namespace Go.Proofs.Ytnbhcemgoifkgaa
open Go.RowKit

theorem bits_exist {X : Int} (h : 0 ≤ X) : ∃ b, IsBits X b := by
  by_cases h0 : X = 0
  · exact ⟨0, .inl ⟨h0, rfl⟩⟩
  · have h1 : 2 ^ X.toNat.log2 ≤ X.toNat := Nat.log2_self_le (by omega)
    have h2 : X.toNat < 2 ^ (X.toNat.log2 + 1) := Nat.lt_log2_self
    refine ⟨X.toNat.log2 + 1, .inr ⟨by omega, ?_, ?_⟩⟩
    · rw [Nat.add_sub_cancel]
      have e1 : ((2 ^ X.toNat.log2 : Nat) : Int) = 2 ^ X.toNat.log2 := by rw [Int.natCast_pow]; rfl
      omega
    · have e1 : ((2 ^ (X.toNat.log2 + 1) : Nat) : Int) = 2 ^ (X.toNat.log2 + 1) := by rw [Int.natCast_pow]; rfl
      omega
/-- a number's bit, by its words -/
theorem bit_at {ks : List Int} {i j : Nat} (hk : Dig 4294967296 ks) (hi : i < ks.length) (hj : j ≤ 31) : ks.getD i 0 / 2 ^ j % 2 = V 4294967296 ks / 2 ^ (32 * i + j) % 2 := by
  obtain ⟨r, hr⟩ : ∃ r, V 4294967296 ks = vf 4294967296 (fun t => ks.getD t 0) i + 4294967296 ^ i * (ks.getD i 0 + 4294967296 * r) := by
    have h : ∀ n, ∃ r, vf 4294967296 (fun t => ks.getD t 0) (i + 1 + n) = vf 4294967296 (fun t => ks.getD t 0) i + 4294967296 ^ i * (ks.getD i 0 + 4294967296 * r) := by
      intro n
      induction n with
      | zero => exact ⟨0, by rw [Int.mul_zero, Int.add_zero, Int.mul_comm]; rfl⟩
      | succ n ih =>
        obtain ⟨r, hr⟩ := ih
        refine ⟨r + ks.getD (i + 1 + n) 0 * 4294967296 ^ n, ?_⟩
        show vf 4294967296 (fun t => ks.getD t 0) (i + 1 + n) + ks.getD (i + 1 + n) 0 * 4294967296 ^ (i + 1 + n) = _
        rw [hr, Int.mul_add 4294967296 r, ← Int.add_assoc, Int.mul_add (4294967296 ^ i) (ks.getD i 0 + _), ← Int.add_assoc]
        congr 1
        rw [Int.pow_add, Int.pow_succ]
        ac_rfl
    obtain ⟨n, hn⟩ : ∃ n, ks.length = i + 1 + n := ⟨ks.length - (i + 1), by omega⟩
    unfold V
    rw [hn]
    exact h n
  have hlo := vf_bd (B := 4294967296) (by decide) (f := fun t => ks.getD t 0) i fun t _ => hk.at (by decide) t
  have e : (2 : Int) ^ (32 * i + j) = 4294967296 ^ i * 2 ^ j := by rw [Int.pow_add, Int.pow_mul]; rfl
  have p : (0 : Int) < 4294967296 ^ i := Int.pow_pos (by decide)
  rw [hr, e, ← Int.ediv_ediv_of_nonneg (Int.le_of_lt p), Int.add_mul_ediv_left _ _ (Int.ne_of_gt p), Int.ediv_eq_zero_of_lt hlo.1 hlo.2, Int.zero_add]
  obtain ⟨q, hq⟩ : ∃ q : Int, 4294967296 = 2 ^ j * (2 * q) := ⟨2 ^ (31 - j), by rw [Int.mul_comm 2, ← Int.pow_succ, ← Int.pow_add, show j + (31 - j + 1) = 32 from by omega]; rfl⟩
  have p2 : (0 : Int) < 2 ^ j := Int.pow_pos (by decide)
  have e2 : (4294967296 : Int) * r = 2 ^ j * (2 * (q * r)) := by rw [← Int.mul_assoc 2, ← Int.mul_assoc, ← hq]
  rw [e2, Int.add_mul_ediv_left _ _ (Int.ne_of_gt p2)]
  omega
theorem even_more {X : Int} {i : Nat} (h : X % 2 ^ i = 0) (h2 : X / 2 ^ i % 2 = 0) : X % 2 ^ (i + 1) = 0 := by
  have e := Int.mul_ediv_add_emod X (2 ^ i)
  rw [h, Int.add_zero] at e
  have e3 : X = 2 ^ (i + 1) * (X / 2 ^ i / 2) := by
    have e4 : X / 2 ^ i = 2 * (X / 2 ^ i / 2) := by omega
    rw [Int.pow_succ, Int.mul_assoc, ← e4, e]
  rw [e3]
  exact Int.mul_emod_right _ _
theorem half_odd {X : Int} {i : Nat} (h : X % 2 ^ i = 0) (h2 : X / 2 ^ i % 2 = 1) : IsHalf X i := by
  have e := Int.mul_ediv_add_emod X (2 ^ i)
  rw [h, Int.add_zero] at e
  refine .inr ⟨X / 2 ^ i / 2, ?_⟩
  have e4 : X / 2 ^ i = 2 * (X / 2 ^ i / 2) + 1 := by omega
  rw [← e4, e]
theorem none_high {X : Int} {n : Nat} (h : X % 2 ^ (32 * n) = 0) (h0 : 0 ≤ X) (h1 : X < 4294967296 ^ n) : X = 0 := by
  have e : (2 : Int) ^ (32 * n) = 4294967296 ^ n := by rw [Int.pow_mul]; rfl
  rw [e, Int.emod_eq_of_lt h0 h1] at h
  exact h
theorem NumC.lenle {w : World} {neg : Bool} {a : Option Addr} {n c k : Nat} {z : Int} (h : NumC w neg a n c z) (h0 : 0 ≤ z) (hz : z < 1000 ^ k) : n ≤ k := by
  obtain ⟨xs, hr, hd, ht, he, hg⟩ := h
  rcases Nat.lt_or_ge k n with h1 | h1
  · have hne : xs ≠ [] := fun e => by have := hr.1; rw [e] at this; simp at this; omega
    have h2 := V_ge (B := 1000) (by decide) hd ht hne
    rw [hr.1] at h2
    have h3 : (1000 : Int) ^ k ≤ 1000 ^ (n - 1) := ipow_le (by decide) (by omega)
    have h4 := (V_bd (B := 1000) (by decide) hd).1
    cases neg
    · simp at he; omega
    · simp at he; omega
  · exact h1
theorem wf_u64n {n : Int} (h : (Lit.int .u64 n).wf = true) : 0 ≤ n ∧ n ≤ 18446744073709551615 := by
  simp [Lit.wf, IntKind.min, IntKind.max, IntKind.signed, IntKind.bits] at h; omega

set_option maxRecDepth 100000 in
set_option maxHeartbeats 8000000 in
theorem walk_tells (a : Option Addr) (n c : Nat) (xs : List Int) (b : Option Addr) (m d : Nat) (ys : List Int) (x : Int) (w : World) (hA : IsRow .u32 w a n c xs) (hB : IsRow .u32 w b m d ys) (w2 : (Lit.int .u64 x).wf = true) :
    Calls Try.prog 8 #[.slice a n c, .slice b m d, .int .u64 x] w fun e w' => e = .returned (.bool true) ∧ Below w.heap.size w w' := by
  obtain ⟨hx0, hx1⟩ := wf_u64n w2
  have ha := hA.row
  have hb := hB.row
  have hx := hA.dig
  have hy := hB.dig
  clear hA hB w2
  generalize xs.take n = xs at *
  generalize ys.take m = ys at *
  have hn : n ≤ 9223372036854775807 := by have := ha.2.1; have := ha.2.2.1; unfold maxLen at this; omega
  have hm : m ≤ 9223372036854775807 := by have := hb.2.1; have := hb.2.2.1; unfold maxLen at this; omega
  have HL := Lib.hid (light_any a b n c m d w hn hm)
  have HA := Lib.hid ha
  have HB := Lib.hid hb
  have HX := Lib.hid hx
  have HY := Lib.hid hy
  by_cases hl : n ≤ 40 ∧ m ≤ 40
  · rw [show decide (n ≤ 40 ∧ m ≤ 40) = true from by simpa using hl] at HL
    obtain ⟨hn4, hm4⟩ := hl
    have VX := V_bd (B := 4294967296) (by decide) hx
    rw [ha.1] at VX
    have X1 := Int.lt_of_lt_of_le VX.2 (ipow_le (by decide) hn4)
    have HX0 := Lib.hid VX.1
    have HX1 := Lib.hid X1
    have HX2 : Hid (V 4294967296 xs < 2 ^ 1280) := Lib.hid (by
      have e : (2 : Int) ^ (32 * 40) = 4294967296 ^ 40 := by rw [Int.pow_mul]; rfl
      have h := X1
      rw [← e] at h
      exact h)
    have HXD : Hid (V 4294967296 xs < 1000 ^ 160) := Lib.hid (Int.lt_of_lt_of_le X1 (by decide))
    obtain ⟨nb, hnb⟩ := bits_exist VX.1
    have HNB := Lib.hid hnb
    have Htrim := Lib.hid (fun (w1 : World) (hw : Below w.heap.size w w1) => trim_any a n c xs w1 (ha.below hw (Nat.le_refl _)) hx (by omega))
    have Hcmp := Lib.hid (fun (w1 : World) (hw : Below w.heap.size w w1) => ncmp_any a b n c m d xs ys w1 (ha.below hw (Nat.le_refl _)) (hb.below hw (Nat.le_refl _)) hx hy)
    have Hbits := Lib.hid (fun (w1 : World) (hw : Below w.heap.size w w1) => bits_any a n c xs w1 (ha.below hw (Nat.le_refl _)) hx (by omega))
    have Hngh := Lib.hid (fun (w1 : World) (hw : Below w.heap.size w w1) => noughts_any a n c xs w1 (ha.below hw (Nat.le_refl _)) hx (by omega))
    have Huint := Lib.hid (fun (w1 : World) (hw : Below w.heap.size w w1) => nuint_any a n c xs w1 (ha.below hw (Nat.le_refl _)) hx (by omega))
    clear ha hb hx hy VX X1 hnb
    go_enter Try.func8, Try.ntmps8
    go_wp2_with fail
    refine HL.out.mono ?_; rintro e w1 ⟨rfl, rfl⟩
    go_wp2_with fail
    refine (rnum_any a n c xs w HA.out HX.out (by omega)).mono ?_; rintro e w1 ⟨np, pp, lp, cp, rfl, hP, hb1, -⟩
    have HB1 := Lib.hid hb1
    have HP1 := Lib.hid hP
    clear hP hb1
    go_wp2_with fail
    refine (rnum_any b m d ys w1 (HB.out.below HB1.out (Nat.le_refl _)) HY.out (by omega)).mono ?_; rintro e w2 ⟨nq, pq, lq, cq, rfl, hQ, hb2, -⟩
    have HB2 := Lib.hid (HB1.out.trans (hb2.mono HB1.out.size))
    have HP2 := Lib.hid (HP1.out.below hb2 (Nat.le_refl _))
    have HQ2 := Lib.hid hQ
    clear hQ hb2 HB1 HP1
    go_upto_region 4 with fail
    obtain ⟨hk0, hk1, hbw, hsz⟩ := two_bx w2 27 #[.bool np, .slice pp lp cp] #[.bool nq, .slice pq lq cq]
    have HB3 := Lib.hid (HB2.out.trans (hbw.mono HB2.out.size))
    have HP3 := Lib.hid (HP2.out.below hbw (Nat.le_refl _))
    have HQ3 := Lib.hid (HQ2.out.below hbw (Nat.le_refl _))
    have HK0 := Lib.hid hk0
    have HK1 := Lib.hid hk1
    clear hbw hsz HP2 HQ2 HB2 HA HB HX HY
    generalize (w2.alloc (.cells #[.bool np, .slice pp lp cp] 27)).alloc (.cells #[.bool nq, .slice pq lq cq] 27) = w3 at *
    generalize w2.heap.size = s at *
    clear w1 w2
    generalize V 4294967296 xs = X at *
    generalize V 4294967296 ys = Y at *
    have x0 : w3.cell? ⟨s, 0, none⟩ = some (.bool np) := hk0.cell 0
    have x1 : w3.cell? ⟨s, 1, none⟩ = some (.slice pp lp cp) := hk0.cell 1
    have hlp : lp ≤ 100000 := Nat.le_trans (HP3.out.lenle HX0.out HXD.out) (by decide)
    clear hk0 hk1
    go_wp2_with fail
    refine (rof_any _ _ _ _ X w3 HP3.out HX0.out hlp).mono ?_; rintro e w4 ⟨ak, nk, ck, rfl, hN, hb4, -⟩
    have hnk : nk ≤ 40 := hN.len HX1.out
    obtain ⟨ks, hkr, hkd, hkt, hkv⟩ := hN
    have HB4 := Lib.hid hb4
    have HKR := Lib.hid hkr
    have HKD := Lib.hid hkd
    have HKT := Lib.hid hkt
    have HKV := Lib.hid hkv
    clear hb4 hkr hkd hkt hkv x0 x1
    go_upto_block 0 with fail
    go_cut [9] (fun u wx => ∃ i : Nat, u = .int .i64 i ∧ IsHalf X i ∧ Below w3.heap.size w3 wx)
    case first =>
      go_wp2_with fail
      go_loop [9] (fun u => ∃ i : Nat, u = .int .i64 i ∧ i ≤ 32 * nk ∧ X % 2 ^ i = 0) (fun u => 32 * nk - (intOf u).toNat)
      case atStart => exact ⟨0, rfl, Nat.zero_le _, by rw [Int.pow_zero, Int.emod_one]⟩
      case round =>
        obtain ⟨i, rfl, hi, hmod⟩ := hrel
        have HMOD := Lib.hid hmod
        clear hmod
        by_cases hlt : i < 32 * nk
        · have hq : (i : Int) / 32 = ((i / 32 : Nat) : Int) := by omega
          have hr : (i : Int) % 32 = ((i % 32 : Nat) : Int) := by omega
          have hi32 : i / 32 < nk := by omega
          have hbit := bit_at (i := i / 32) (j := i % 32) HKD.out (by rw [HKR.out.1]; exact hi32) (by omega)
          rw [HKV.out, show 32 * (i / 32) + i % 32 = i from by omega] at hbit
          have hdr := HKD.out.at (by decide) (i / 32)
          obtain ⟨-, -, -, h4⟩ := HKR.out
          rcases h4 with hcap0 | ⟨ba, oa, rfl, -, hc⟩
          · have := HKR.out.2.1; omega
          have hc1 := hc _ hi32
          clear hc
          obtain ⟨y, hy⟩ : ∃ y, ks.getD (i / 32) 0 = y := ⟨_, rfl⟩
          rw [hy] at hbit hdr hc1
          clear hy
          generalize hiq : i / 32 = iq at *
          generalize hir : i % 32 = ir at *
          have g0 : (0 : Int) ≤ (iq : Int) := by omega
          have g1 : (iq : Int) < (nk : Int) := by omega
          have g2 : (0 : Int) ≤ (ir : Int) := by omega
          have g3 : (ir : Int) < 32 := by omega
          have hlt2 : (i : Int) < 32 * (nk : Int) := by omega
          obtain ⟨hy0, hy1⟩ := hdr
          obtain ⟨v, hv⟩ : ∃ v, y / 2 ^ ir = v := ⟨_, rfl⟩
          have hv0 : 0 ≤ v := by rw [← hv]; exact Int.ediv_nonneg hy0 (Int.le_of_lt (Int.pow_pos (by decide)))
          rw [hv] at hbit
          have HBIT := Lib.hid hbit
          have HQ' := Lib.hid hiq
          have HR' := Lib.hid hir
          clear hbit hiq hir
          by_cases hv2 : v % 2 = 0
          · have hv2' : (v % 2 == 0) = true := by simpa using hv2
            have HM2 := Lib.hid (even_more HMOD.out (by rw [← HBIT.out]; exact hv2))
            clear hv2
            go_wp2_with fail
            go_round
            case rel => exact ⟨i + 1, by go_num, by omega, HM2.out⟩
            case measure => simp [intOf]; omega
          · have hv2' : (v % 2 == 0) = false := by simpa using hv2
            have HH := Lib.hid (half_odd HMOD.out (by rw [← HBIT.out]; omega))
            clear hv2
            go_wp2_with fail
            go_meet
            exact ⟨i, rfl, HH.out, HB4.out⟩
        · have hie : i = 32 * nk := by omega
          have HH : Hid (IsHalf X i) := Lib.hid (by
            have h1 := HMOD.out
            rw [hie] at h1
            have hz : X = 0 := none_high h1 HX0.out (by
              have h2 := (V_bd (B := 4294967296) (by decide) HKD.out).2
              rw [HKV.out, HKR.out.1] at h2
              exact h2)
            have hk0 : nk = 0 := by
              have h3 := (V_pos (B := 4294967296) (by decide) HKD.out HKT.out)
              rw [HKV.out, hz] at h3
              have h4 : ks = [] := Decidable.byContradiction fun h => absurd (h3.2 h) (by omega)
              rw [← HKR.out.1, h4]; rfl
            exact .inl ⟨hz, by rw [hie, hk0]⟩)
          clear hie
          go_wp2_with fail
          go_meet
          exact ⟨i, rfl, HH.out, HB4.out⟩
    case rest =>
      obtain ⟨nh, rfl, hnh, hb4⟩ := hcut
      have HNH := Lib.hid hnh
      clear HB4 HKR HKD HKT HKV
      have HB4 := Lib.hid (HB3.out.trans (hb4.mono HB3.out.size))
      have HP4 := Lib.hid (HP3.out.below hb4 (Nat.le_refl _))
      have HQ4 := Lib.hid (HQ3.out.below hb4 (Nat.le_refl _))
      have HK04 := Lib.hid (HK0.out.below hb4 HK0.out.lt)
      have HK14 := Lib.hid (HK1.out.below hb4 HK1.out.lt)
      clear hnh hb4 HB3 HP3 HQ3 HK0 HK1
      go_wp2_with fail
      refine (Huint.out wc HB4.out).mono ?_; rintro e w5 ⟨hu, hb5⟩
      have HB5 := Lib.hid (HB4.out.trans (hb5.mono HB4.out.size))
      have HP5 := Lib.hid (HP4.out.below hb5 (Nat.le_refl _))
      have HQ5 := Lib.hid (HQ4.out.below hb5 (Nat.le_refl _))
      have HK05 := Lib.hid (HK04.out.below hb5 HK04.out.lt)
      have HK15 := Lib.hid (HK14.out.below hb5 HK14.out.lt)
      clear hb5 HB4 HP4 HQ4 HK04 HK14
      by_cases hf : X < 18446744073709551616
      · have he := hu.1 hf
        subst he
        have HC : Hid (cmpZ X (2 ^ 64) = -1) := Lib.hid (cmpZ_lt (by
          have e : (2 : Int) ^ 64 = 18446744073709551616 := by decide
          rw [e]
          exact hf))
        clear hu
        have x0 : w5.cell? ⟨s, 0, none⟩ = some (.bool np) := HK05.out.cell 0
        have x1 : w5.cell? ⟨s, 1, none⟩ = some (.slice pp lp cp) := HK05.out.cell 1
        have hs0 : s < w5.heap.size := HK05.out.lt
        have hbA : Below w5.heap.size w5 w5.drew := (Below.refl _ _).drew
        go_wp2_with fail
        go_region_held3 (fun w' => w'.cell? ⟨s, 0, none⟩ = some (.bool np) ∧ w'.cell? ⟨s, 1, none⟩ = some (.slice pp lp cp)) (go_keep)
          (first
            | (go_at_call 36; refine (two_any 64 _ (by decide)).mono ?_; rintro e w8 ⟨n8, a8, l8, c8, rfl, hM8, hb8, -⟩; replace hbA := hbA.trans (hb8.mono (Nat.le_trans (by simp) hbA.size)); clear hb8; obtain ⟨bc8, bf8⟩ := bcell hbA)
            | (go_at_call 28; refine (cmp_at _ _ _ _ _ _ _ _ X (2 ^ 64) (-1) _ HC.out (HP5.out.below hbA (Nat.le_refl _)) hM8).mono ?_; rintro e w9 ⟨rfl, hb9⟩; clear hM8; replace hbA := hbA.trans (hb9.mono (Nat.le_trans (by simp) hbA.size)); clear hb9 bc8 bf8; obtain ⟨bc8, bf8⟩ := bcell hbA))
        clear bc8 bf8 x0 x1
        have HB6 := Lib.hid (HB5.out.trans (hbA.mono HB5.out.size))
        have HP6 := Lib.hid (HP5.out.below hbA (Nat.le_refl _))
        have HQ6 := Lib.hid (HQ5.out.below hbA (Nat.le_refl _))
        have HK06 := Lib.hid (HK05.out.below hbA HK05.out.lt)
        have HK16 := Lib.hid (HK15.out.below hbA HK15.out.lt)
        clear hbA hs0 HB5 HP5 HQ5 HK05 HK15
        have z0 : w9.cell? ⟨s, 0, none⟩ = some (.bool np) := HK06.out.cell 0
        have z1 : w9.cell? ⟨s, 1, none⟩ = some (.slice pp lp cp) := HK06.out.cell 1
        have hui := uint_any np pp lp cp X w9 HP6.out (by have := HX0.out; omega)
        rw [show ((X.natAbs : Nat) : Int) = X from by have := HX0.out; omega] at hui
        have HUI := Lib.hid hui
        clear hui hf
        go_wp2_with fail
        refine HUI.out.mono ?_; rintro e w7 ⟨rfl, hb7⟩
        have HB7 := Lib.hid (HB6.out.trans (hb7.mono HB6.out.size))
        have HP7 := Lib.hid (HP6.out.below hb7 (Nat.le_refl _))
        have HQ7 := Lib.hid (HQ6.out.below hb7 (Nat.le_refl _))
        have HK07 := Lib.hid (HK06.out.below hb7 HK06.out.lt)
        have HK17 := Lib.hid (HK16.out.below hb7 HK16.out.lt)
        clear hb7 z0 z1 HB6 HP6 HQ6 HK06 HK16 HUI
        have x0 : w7.cell? ⟨s, 0, none⟩ = some (.bool np) := HK07.out.cell 0
        have x1 : w7.cell? ⟨s, 1, none⟩ = some (.slice pp lp cp) := HK07.out.cell 1
        have y0 : w7.cell? ⟨s + 1, 0, none⟩ = some (.bool nq) := HK17.out.cell 0
        have y1 : w7.cell? ⟨s + 1, 1, none⟩ = some (.slice pq lq cq) := HK17.out.cell 1
        have hs0 : s < w7.heap.size := HK07.out.lt
        have hs1 : s + 1 < w7.heap.size := HK17.out.lt
        have hbA : Below w7.heap.size w7 w7.drew := (Below.refl _ _).drew
        obtain ⟨rc, hrc⟩ : ∃ r, cmpZ X Y = r := ⟨_, rfl⟩
        rw [hrc] at Hcmp
        have HRC := Lib.hid hrc
        clear hrc
        go_wp2_with fail
        go_region_held3 (fun w' => w'.cell? ⟨s, 0, none⟩ = some (.bool np) ∧ w'.cell? ⟨s, 1, none⟩ = some (.slice pp lp cp) ∧ w'.cell? ⟨s + 1, 0, none⟩ = some (.bool nq) ∧ w'.cell? ⟨s + 1, 1, none⟩ = some (.slice pq lq cq)) (go_keep)
          (first
            | (go_at_call 42; refine (nof_any x _ hx0 (by omega)).mono ?_; rintro e w8 ⟨a8, n8, c8, rfl, hN8, hb8, -⟩; have hn8 : n8 ≤ 1000 := Nat.le_trans (hN8.len (k := 2) (by omega)) (by decide); replace hbA := hbA.trans (hb8.mono (Nat.le_trans (by simp) hbA.size)); clear hb8; obtain ⟨bc8, bf8⟩ := bcell hbA)
            | (go_at_call 27; refine (nat_any x _ hx0 hx1).mono ?_; rintro e w8 ⟨m8, b8, l8, d8, rfl, hM8, hb8, -⟩; replace hN8 := NatC.below hN8 hb8 (Nat.le_refl _); replace hbA := hbA.trans (hb8.mono (Nat.le_trans (by simp) hbA.size)); clear hb8 bc8 bf8; obtain ⟨bc8, bf8⟩ := bcell hbA)
            | (go_at_call 20; refine (ris2_any _ _ _ _ _ _ _ _ _ hN8 hM8 hn8).mono ?_; rintro e w9 ⟨rfl, hb9⟩; clear hN8 hM8 hn8; replace hbA := hbA.trans (hb9.mono (Nat.le_trans (by simp) hbA.size)); clear hb9 bc8 bf8; obtain ⟨bc8, bf8⟩ := bcell hbA)
            | (go_at_call 21; refine (Htrim.out _ (HB7.out.trans (hbA.mono HB7.out.size))).mono ?_; rintro e w8 ⟨a8, n8, c8, rfl, hN9, hb8, -⟩; have hn9 : n8 ≤ 1000 := Nat.le_trans (hN9.len HX1.out) (by decide); replace hbA := hbA.trans (hb8.mono (Nat.le_trans (by simp) hbA.size)); clear hb8 bc8 bf8; obtain ⟨bc8, bf8⟩ := bcell hbA)
            | (go_at_call 20; refine (ris2_any _ _ _ _ _ _ _ _ _ hN9 (HP7.out.below hbA (Nat.le_refl _)) hn9).mono ?_; rintro e w9 ⟨rfl, hb9⟩; clear hN9 hn9; replace hbA := hbA.trans (hb9.mono (Nat.le_trans (by simp) hbA.size)); clear hb9 bc8 bf8; obtain ⟨bc8, bf8⟩ := bcell hbA)
            | (go_at_call 22; refine (Hcmp.out _ (HB7.out.trans (hbA.mono HB7.out.size))).mono ?_; rintro e w9 ⟨rfl, hb9⟩; replace hbA := hbA.trans (hb9.mono (Nat.le_trans (by simp) hbA.size)); clear hb9 bc8 bf8; obtain ⟨bc8, bf8⟩ := bcell hbA)
            | (go_at_call 28; refine (cmp_at _ _ _ _ _ _ _ _ X Y rc _ HRC.out (HP7.out.below hbA (Nat.le_refl _)) (HQ7.out.below hbA (Nat.le_refl _))).mono ?_; rintro e w9 ⟨rfl, hb9⟩; replace hbA := hbA.trans (hb9.mono (Nat.le_trans (by simp) hbA.size)); clear hb9 bc8 bf8; obtain ⟨bc8, bf8⟩ := bcell hbA)
            | (go_at_call 37; refine (Hbits.out _ (HB7.out.trans (hbA.mono HB7.out.size))).mono ?_; rintro e w9 ⟨b9, rfl, rfl, hbb⟩; have hbe := hbb.unique HNB.out; subst hbe; clear hbb)
            | (go_at_call 43; refine (rbits_any _ _ _ _ 1280 X _ (HP7.out.below hbA (Nat.le_refl _)) HX0.out HX2.out (by decide)).mono ?_; rintro e w9 ⟨b9, rfl, hbb, hb9⟩; have hbe := hbb.unique HNB.out; subst hbe; clear hbb; replace hbA := hbA.trans (hb9.mono (Nat.le_trans (by simp) hbA.size)); clear hb9 bc8 bf8; obtain ⟨bc8, bf8⟩ := bcell hbA)
            | (go_at_call 38; refine (Hngh.out _ (HB7.out.trans (hbA.mono HB7.out.size))).mono ?_; rintro e w9 ⟨b9, rfl, rfl, hbb⟩; have hbe := hbb.unique HNH.out; subst hbe; clear hbb)
            | (go_at_call 16; refine (awake_nat _).mono ?_; rintro e w9 ⟨rfl, hb9⟩; replace hbA := hbA.trans (hb9.mono (Nat.le_trans (by simp) hbA.size)); clear hb9 bc8 bf8; obtain ⟨bc8, bf8⟩ := bcell hbA))
        all_goals
          clear bc8 bf8
          have HBE := Lib.hid (HB7.out.trans (hbA.mono HB7.out.size))
          clear hbA
          go_wp2_with fail
          go_ret
          exact ⟨rfl, HBE.out⟩
      · have he := hu.2 (by omega)
        subst he
        have hcr : ∃ r, cmpZ X (2 ^ 64) = r ∧ ¬ r < 0 := ⟨_, rfl, by
          have e : (2 : Int) ^ 64 = 18446744073709551616 := by decide
          rw [e]
          unfold cmpZ
          rw [if_neg (by omega)]
          split <;> omega⟩
        obtain ⟨r, hcr0, hcr1⟩ := hcr
        have HC := Lib.hid hcr0
        clear hu hcr0 hf
        have x0 : w5.cell? ⟨s, 0, none⟩ = some (.bool np) := HK05.out.cell 0
        have x1 : w5.cell? ⟨s, 1, none⟩ = some (.slice pp lp cp) := HK05.out.cell 1
        have hs0 : s < w5.heap.size := HK05.out.lt
        have hbA : Below w5.heap.size w5 w5.drew := (Below.refl _ _).drew
        go_wp2_with fail
        go_region_held3 (fun w' => w'.cell? ⟨s, 0, none⟩ = some (.bool np) ∧ w'.cell? ⟨s, 1, none⟩ = some (.slice pp lp cp)) (go_keep)
          (first
            | (go_at_call 36; refine (two_any 64 _ (by decide)).mono ?_; rintro e w8 ⟨n8, a8, l8, c8, rfl, hM8, hb8, -⟩; replace hbA := hbA.trans (hb8.mono (Nat.le_trans (by simp) hbA.size)); clear hb8; obtain ⟨bc8, bf8⟩ := bcell hbA)
            | (go_at_call 28; refine (cmp_at _ _ _ _ _ _ _ _ X (2 ^ 64) r _ HC.out (HP5.out.below hbA (Nat.le_refl _)) hM8).mono ?_; rintro e w9 ⟨rfl, hb9⟩; clear hM8; replace hbA := hbA.trans (hb9.mono (Nat.le_trans (by simp) hbA.size)); clear hb9 bc8 bf8; obtain ⟨bc8, bf8⟩ := bcell hbA))
        clear bc8 bf8 x0 x1
        have HB6 := Lib.hid (HB5.out.trans (hbA.mono HB5.out.size))
        have HP6 := Lib.hid (HP5.out.below hbA (Nat.le_refl _))
        have HQ6 := Lib.hid (HQ5.out.below hbA (Nat.le_refl _))
        have HK06 := Lib.hid (HK05.out.below hbA HK05.out.lt)
        have HK16 := Lib.hid (HK15.out.below hbA HK15.out.lt)
        clear hbA hs0 HB5 HP5 HQ5 HK05 HK15
        obtain ⟨w7, rfl⟩ : ∃ w7 : World, w7 = w9 := ⟨_, rfl⟩
        have HB7 := HB6
        have HP7 := HP6
        have HQ7 := HQ6
        have HK07 := HK06
        have HK17 := HK16
        have x0 : w7.cell? ⟨s, 0, none⟩ = some (.bool np) := HK07.out.cell 0
        have x1 : w7.cell? ⟨s, 1, none⟩ = some (.slice pp lp cp) := HK07.out.cell 1
        have y0 : w7.cell? ⟨s + 1, 0, none⟩ = some (.bool nq) := HK17.out.cell 0
        have y1 : w7.cell? ⟨s + 1, 1, none⟩ = some (.slice pq lq cq) := HK17.out.cell 1
        have hs0 : s < w7.heap.size := HK07.out.lt
        have hs1 : s + 1 < w7.heap.size := HK17.out.lt
        have hbA : Below w7.heap.size w7 w7.drew := (Below.refl _ _).drew
        obtain ⟨rc, hrc⟩ : ∃ r, cmpZ X Y = r := ⟨_, rfl⟩
        rw [hrc] at Hcmp
        have HRC := Lib.hid hrc
        clear hrc
        go_wp2_with fail
        go_region_held3 (fun w' => w'.cell? ⟨s, 0, none⟩ = some (.bool np) ∧ w'.cell? ⟨s, 1, none⟩ = some (.slice pp lp cp) ∧ w'.cell? ⟨s + 1, 0, none⟩ = some (.bool nq) ∧ w'.cell? ⟨s + 1, 1, none⟩ = some (.slice pq lq cq)) (go_keep)
          (first
            | (go_at_call 42; refine (nof_any x _ hx0 (by omega)).mono ?_; rintro e w8 ⟨a8, n8, c8, rfl, hN8, hb8, -⟩; have hn8 : n8 ≤ 1000 := Nat.le_trans (hN8.len (k := 2) (by omega)) (by decide); replace hbA := hbA.trans (hb8.mono (Nat.le_trans (by simp) hbA.size)); clear hb8; obtain ⟨bc8, bf8⟩ := bcell hbA)
            | (go_at_call 27; refine (nat_any x _ hx0 hx1).mono ?_; rintro e w8 ⟨m8, b8, l8, d8, rfl, hM8, hb8, -⟩; replace hN8 := NatC.below hN8 hb8 (Nat.le_refl _); replace hbA := hbA.trans (hb8.mono (Nat.le_trans (by simp) hbA.size)); clear hb8 bc8 bf8; obtain ⟨bc8, bf8⟩ := bcell hbA)
            | (go_at_call 20; refine (ris2_any _ _ _ _ _ _ _ _ _ hN8 hM8 hn8).mono ?_; rintro e w9 ⟨rfl, hb9⟩; clear hN8 hM8 hn8; replace hbA := hbA.trans (hb9.mono (Nat.le_trans (by simp) hbA.size)); clear hb9 bc8 bf8; obtain ⟨bc8, bf8⟩ := bcell hbA)
            | (go_at_call 21; refine (Htrim.out _ (HB7.out.trans (hbA.mono HB7.out.size))).mono ?_; rintro e w8 ⟨a8, n8, c8, rfl, hN9, hb8, -⟩; have hn9 : n8 ≤ 1000 := Nat.le_trans (hN9.len HX1.out) (by decide); replace hbA := hbA.trans (hb8.mono (Nat.le_trans (by simp) hbA.size)); clear hb8 bc8 bf8; obtain ⟨bc8, bf8⟩ := bcell hbA)
            | (go_at_call 20; refine (ris2_any _ _ _ _ _ _ _ _ _ hN9 (HP7.out.below hbA (Nat.le_refl _)) hn9).mono ?_; rintro e w9 ⟨rfl, hb9⟩; clear hN9 hn9; replace hbA := hbA.trans (hb9.mono (Nat.le_trans (by simp) hbA.size)); clear hb9 bc8 bf8; obtain ⟨bc8, bf8⟩ := bcell hbA)
            | (go_at_call 22; refine (Hcmp.out _ (HB7.out.trans (hbA.mono HB7.out.size))).mono ?_; rintro e w9 ⟨rfl, hb9⟩; replace hbA := hbA.trans (hb9.mono (Nat.le_trans (by simp) hbA.size)); clear hb9 bc8 bf8; obtain ⟨bc8, bf8⟩ := bcell hbA)
            | (go_at_call 28; refine (cmp_at _ _ _ _ _ _ _ _ X Y rc _ HRC.out (HP7.out.below hbA (Nat.le_refl _)) (HQ7.out.below hbA (Nat.le_refl _))).mono ?_; rintro e w9 ⟨rfl, hb9⟩; replace hbA := hbA.trans (hb9.mono (Nat.le_trans (by simp) hbA.size)); clear hb9 bc8 bf8; obtain ⟨bc8, bf8⟩ := bcell hbA)
            | (go_at_call 37; refine (Hbits.out _ (HB7.out.trans (hbA.mono HB7.out.size))).mono ?_; rintro e w9 ⟨b9, rfl, rfl, hbb⟩; have hbe := hbb.unique HNB.out; subst hbe; clear hbb)
            | (go_at_call 43; refine (rbits_any _ _ _ _ 1280 X _ (HP7.out.below hbA (Nat.le_refl _)) HX0.out HX2.out (by decide)).mono ?_; rintro e w9 ⟨b9, rfl, hbb, hb9⟩; have hbe := hbb.unique HNB.out; subst hbe; clear hbb; replace hbA := hbA.trans (hb9.mono (Nat.le_trans (by simp) hbA.size)); clear hb9 bc8 bf8; obtain ⟨bc8, bf8⟩ := bcell hbA)
            | (go_at_call 38; refine (Hngh.out _ (HB7.out.trans (hbA.mono HB7.out.size))).mono ?_; rintro e w9 ⟨b9, rfl, rfl, hbb⟩; have hbe := hbb.unique HNH.out; subst hbe; clear hbb)
            | (go_at_call 16; refine (awake_nat _).mono ?_; rintro e w9 ⟨rfl, hb9⟩; replace hbA := hbA.trans (hb9.mono (Nat.le_trans (by simp) hbA.size)); clear hb9 bc8 bf8; obtain ⟨bc8, bf8⟩ := bcell hbA))
        all_goals
          clear bc8 bf8
          have HBE := Lib.hid (HB7.out.trans (hbA.mono HB7.out.size))
          clear hbA
          go_wp2_with fail
          go_ret
          exact ⟨rfl, HBE.out⟩
  · rw [show decide (n ≤ 40 ∧ m ≤ 40) = false from by simpa using hl] at HL
    clear ha hb hx hy hl
    go_enter Try.func8, Try.ntmps8
    go_wp2_with fail
    refine HL.out.mono ?_; rintro e w1 ⟨rfl, rfl⟩
    go_wp2_with fail
    refine (awake_nat w).mono ?_; rintro e w1 ⟨rfl, hb1⟩
    have HB1 := Lib.hid hb1
    clear hb1
    go_wp2_with fail
    go_ret
    exact ⟨rfl, HB1.out⟩
end Go.Proofs.Ytnbhcemgoifkgaa
