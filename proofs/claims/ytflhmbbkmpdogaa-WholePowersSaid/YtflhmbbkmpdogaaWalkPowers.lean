/- The walk of the law WholePowers: it answers true for every input. -/
import Derived.Test.YtflhmbbkmpdogaaWalkSums
import Derived.Test.YtflhmbbkmpdogaaRef01h
import Derived.Deep.DeepCutAuto
namespace Go.Proofs.Ytflhmbbkmpdogaa
open Go.RowKit

theorem pow_far (a : Int) (h : 2 ≤ a.natAbs) (n : Nat) (hn : 70 ≤ n) : fits (a ^ n) = false := by
  refine fits_no ?_
  have h1 : (a ^ n).natAbs = a.natAbs ^ n := Int.natAbs_pow a n
  have h2 : (2 : Nat) ^ 70 ≤ a.natAbs ^ n := Nat.le_trans (Nat.pow_le_pow_left h 70) (Nat.pow_le_pow_right (by omega) hn)
  rw [← h1] at h2
  omega
theorem pow_m1 (n : Nat) : (-1 : Int) ^ n = if n % 2 = 0 then 1 else -1 := by
  induction n with
  | zero => rfl
  | succ n ih => rw [Int.pow_succ, ih]; split <;> (split <;> omega)
/-- beyond 70 nothing new comes -/
theorem pow_same (a : Int) (n : Nat) (hn : 70 < n) : clip (a ^ n) = clip (a ^ (70 + n % 2)) ∧ fits (a ^ n) = fits (a ^ (70 + n % 2)) := by
  by_cases h : 2 ≤ a.natAbs
  · have h1 := pow_far a h n (by omega)
    have h2 := pow_far a h (70 + n % 2) (by omega)
    rw [clip_no h1, clip_no h2, h1, h2]; exact ⟨rfl, rfl⟩
  · have : a ^ n = a ^ (70 + n % 2) := by
      rcases (by omega : a = 0 ∨ a = 1 ∨ a = -1) with rfl | rfl | rfl
      · rw [Int.zero_pow (by omega), Int.zero_pow (by omega)]
      · rw [Int.one_pow, Int.one_pow]
      · rw [pow_m1, pow_m1]; split <;> (split <;> omega)
    rw [this]; exact ⟨rfl, rfl⟩

def PowCase (a n p : Int) (one : Bool) : Prop :=
  (n < 0 ∧ p = 0 ∧ one = false) ∨ (∃ k : Nat, ¬ n < 0 ∧ k ≤ 71 ∧ (n ≤ 70 ∧ n = k ∨ 70 < n ∧ 70 + n % 2 = k) ∧ p = clip (a ^ k) ∧ one = fits (a ^ k))

theorem whole_pow_case (a n : Int) (w : World) (h1 : -9223372036854775808 ≤ a) (h2 : a ≤ 9223372036854775807) (h3 : n ≤ 9223372036854775807) :
    Calls Try.prog 27 #[.int .i64 a, .int .i64 n] w fun e w' => ∃ p one, e = .returned (.tuple #[.int .i64 p, .bool one]) ∧ PowCase a n p one ∧ Below w.heap.size w w' := by
  by_cases hn : n < 0
  · refine (whole_pow_no a n w hn).mono ?_
    rintro e w' ⟨rfl, hb⟩
    exact ⟨0, false, rfl, .inl ⟨hn, rfl, rfl⟩, hb⟩
  · obtain ⟨m, rfl⟩ := Int.eq_ofNat_of_zero_le (by omega : 0 ≤ n)
    refine (whole_pow a m w h1 h2 h3).mono ?_
    rintro e w' ⟨rfl, hb⟩
    refine ⟨_, _, rfl, .inr ?_, hb⟩
    by_cases h : m ≤ 70
    · exact ⟨m, by omega, by omega, .inl ⟨by omega, rfl⟩, rfl, rfl⟩
    · have := pow_same a m (by omega)
      exact ⟨70 + m % 2, by omega, by omega, .inr ⟨by omega, by omega⟩, this.1, this.2⟩

theorem fit_pow (a : Int) (h1 : -9223372036854775808 ≤ a) (h2 : a ≤ 9223372036854775807) (k : Nat) (hk : k ≤ 71) : ∀ m, m ≤ k → Fit (a ^ m) := by
  intro m hm
  obtain ⟨j, hj⟩ : ∃ j, j = 71 := ⟨_, rfl⟩
  refine Fit.of_pow (k := 10 * j) ?_ (by omega)
  rw [Int.natAbs_pow, Nat.pow_mul]
  exact Nat.lt_of_le_of_lt (Nat.pow_le_pow_left (by omega : a.natAbs ≤ 9223372036854775808) m) (Nat.lt_of_le_of_lt (Nat.pow_le_pow_right (by decide) (by omega : m ≤ j)) (Nat.pow_lt_pow_left (by decide) (by omega)))

set_option maxHeartbeats 1000000 in
set_option maxRecDepth 100000 in
theorem walk_powers (a n : Int) (w0 : (Lit.int .i64 a).wf = true) (w1 : (Lit.int .i64 n).wf = true) (w : World) :
    Calls Try.prog 7 #[.int .i64 a, .int .i64 n] w fun e w' => e = .returned (.bool true) ∧ Below w.heap.size w w' := by
  obtain ⟨a1, a2⟩ := wf_i64b w0
  obtain ⟨b1, b2⟩ := wf_i64b w1
  clear w0 w1
  have FK := Lib.hid (fit_pow a a1 a2)
  go_enter Try.func7, Try.ntmps7
  go_wp2_with fail
  refine (whole_pow_case a n _ a1 a2 b2).mono ?_; rintro e w1 ⟨p, one, rfl, hcase, hb1⟩
  have HC := Lib.hid hcase
  have HB1 := Lib.hid hb1
  clear hcase hb1
  go_wp2_with fail
  by_cases ha : a < 0
  · refine (whole_root_no a _ ha).mono ?_; rintro e w2 ⟨rfl, hb2⟩
    have HBt := Lib.hid (HB1.out.trans (hb2.mono HB1.out.size))
    clear hb2 HB1
    have hd : decide (0 ≤ a) = false := by simp; omega
    have ha' : ¬ (0 ≤ a) := by omega
    rcases HC.out with ⟨hn, rfl, rfl⟩ | ⟨k, hn, hk, ⟨h70, rfl⟩ | ⟨h70, hkk⟩, rfl, rfl⟩
    · go_wp2_with fail
      refine (awake_any _).mono ?_; rintro e w6 ⟨rfl, hb6⟩
      have HB6 := Lib.hid (HBt.out.trans (hb6.mono HBt.out.size))
      clear hb6
      go_wp2_with fail
      go_ret
      exact ⟨rfl, HB6.out⟩
    · have h70' : ¬ (70 < (k : Int)) := by omega
      go_wp2_with fail
      refine (of_any a _ a1 a2).mono ?_; rintro e w6 ⟨n6, p6, l6, c6, rfl, hN6, hb6, -⟩
      have HN6 := Lib.hid hN6
      have HB6 := Lib.hid (HBt.out.trans (hb6.mono HBt.out.size))
      clear hN6 hb6
      go_wp2_with fail
      refine (power_any k _ _ _ _ a _ HN6.out (FK.out k hk) (by omega)).mono ?_; rintro e w7 ⟨n7, p7, l7, c7, rfl, hN7, hb7, -⟩
      have HN7 := Lib.hid hN7
      have HB7 := Lib.hid (HB6.out.trans (hb7.mono HB6.out.size))
      clear hN7 hb7
      go_wp2_with fail
      refine (is_any _ _ _ _ _ _ HN7.out).mono ?_; rintro e w8 ⟨rfl, hb8⟩
      have HB8 := Lib.hid (HB7.out.trans (hb8.mono HB7.out.size))
      clear hb8
      go_wp2_with fail
      refine (awake_any _).mono ?_; rintro e w9 ⟨rfl, hb9⟩
      have HB9 := Lib.hid (HB8.out.trans (hb9.mono HB8.out.size))
      clear hb9
      go_wp2_with fail
      go_ret
      exact ⟨rfl, HB9.out⟩
    · have h70' : 70 < n := by omega
      go_wp2_with fail
      refine (of_any a _ a1 a2).mono ?_; rintro e w6 ⟨n6, p6, l6, c6, rfl, hN6, hb6, -⟩
      have HN6 := Lib.hid hN6
      have HB6 := Lib.hid (HBt.out.trans (hb6.mono HBt.out.size))
      clear hN6 hb6
      go_wp2_with fail
      refine (power_any k _ _ _ _ a _ HN6.out (FK.out k hk) (by omega)).mono ?_; rintro e w7 ⟨n7, p7, l7, c7, rfl, hN7, hb7, -⟩
      have HN7 := Lib.hid hN7
      have HB7 := Lib.hid (HB6.out.trans (hb7.mono HB6.out.size))
      clear hN7 hb7
      go_wp2_with fail
      refine (is_any _ _ _ _ _ _ HN7.out).mono ?_; rintro e w8 ⟨rfl, hb8⟩
      have HB8 := Lib.hid (HB7.out.trans (hb8.mono HB7.out.size))
      clear hb8
      go_wp2_with fail
      refine (awake_any _).mono ?_; rintro e w9 ⟨rfl, hb9⟩
      have HB9 := Lib.hid (HB8.out.trans (hb9.mono HB8.out.size))
      clear hb9
      go_wp2_with fail
      go_ret
      exact ⟨rfl, HB9.out⟩
  · have ha' : 0 ≤ a := by omega
    refine (whole_root a _ ha' a2).mono ?_; rintro e w2 ⟨r, rfl, hr0, hr1, hr2, hr3, hb2⟩
    have HBt := Lib.hid (HB1.out.trans (hb2.mono HB1.out.size))
    have hw2 : w.heap.size ≤ w2.heap.size := HBt.out.size
    clear hb2 HB1
    have HR2 := Lib.hid hr2
    have HR3 := Lib.hid hr3
    clear hr2 hr3
    have hr0' : ¬ (r < 0) := by omega
    have hd : decide (0 ≤ a) = true := by simpa using ha'
    go_wp2_with fail
    refine (of_any r _ (by omega) (by omega)).mono ?_; rintro e w3 ⟨n3, p3, l3, c3, rfl, hX, hb3, -⟩
    have HX := Lib.hid hX
    have HB3 := Lib.hid (HBt.out.trans (hb3.mono hw2))
    have hw3 : w.heap.size ≤ w3.heap.size := HB3.out.size
    clear hX hb3 HBt
    go_wp2_with fail
    have x0 : (w3.alloc (.cells #[.bool n3, .slice p3 l3 c3] 26)).cell? ⟨w3.heap.size, 0, none⟩ = some (.bool n3) := by simp [go_sem]
    have x1 : (w3.alloc (.cells #[.bool n3, .slice p3 l3 c3] 26)).cell? ⟨w3.heap.size, 1, none⟩ = some (.slice p3 l3 c3) := by simp [go_sem]
    have HX4 := Lib.hid (HX.out.below ((Below.refl _ _).alloc (Nat.le_refl _) (.cells #[.bool n3, .slice p3 l3 c3] 26)) (Nat.le_refl _))
    have HB4 := Lib.hid (HB3.out.alloc hw3 (.cells #[.bool n3, .slice p3 l3 c3] 26))
    have hz4 : w3.heap.size < (w3.alloc (.cells #[.bool n3, .slice p3 l3 c3] 26)).heap.size := by simp
    generalize (w3.alloc (.cells #[.bool n3, .slice p3 l3 c3] 26)) = wb at *
    clear HX HB3
    generalize w3.heap.size = s at *
    have hbA : Below wb.heap.size wb wb.drew := (Below.refl _ _).drew
    have FR : Hid (Fit r) := Lib.hid (fit2 (by omega) (by omega))
    have F1 : Hid (Fit 1) := Lib.hid (fit2 (by omega) (by omega))
    go_upto_region 7 with fail
    go_cut [10] (fun s10 wx => ∃ (t : Nat) (n5 : Bool) (p5 : Option Addr) (l5 c5 : Nat), s10 = .pointer (some ⟨t, 0, none⟩) ∧ wx.cell? ⟨s, 0, none⟩ = some (.bool n3) ∧ wx.cell? ⟨s, 1, none⟩ = some (.slice p3 l3 c3) ∧
      wx.cell? ⟨t, 0, none⟩ = some (.bool n5) ∧ wx.cell? ⟨t, 1, none⟩ = some (.slice p5 l5 c5) ∧ NumC wx n5 p5 l5 c5 (r + 1) ∧ Below wb.heap.size wb wx)
    case first =>
      go_region_held3 (fun w' => w'.cell? ⟨s, 0, none⟩ = some (.bool n3) ∧ w'.cell? ⟨s, 1, none⟩ = some (.slice p3 l3 c3)) (first | (exact ⟨x0, x1⟩) | go_keep | (exact ⟨s40, s41⟩) | (exact ⟨s50, s51⟩) | (refine ⟨?_, ?_⟩ <;> (rw [World.cell?_alloc_lt _ _ _ (by (try simp) <;> omega)]; assumption)) | (refine ⟨?_, ?_⟩ <;> (rw [World.cell?_setCell_other _ _ _ _ (by (try simp) <;> omega), World.cell?_setCell_other _ _ _ _ (by (try simp) <;> omega)]; assumption)))
        (first
          | (go_at_call 23; refine (nat_any 1 _ (by omega) (by omega)).mono ?_; rintro e w4 ⟨n4, p4, l4, c4, rfl, hN4, hb4, -⟩; have hbN : Below wb.heap.size wb w4 := (by first | exact hbA.trans (hb4.mono (by simp)) | exact (hbA.alloc (by simp) _).trans (hb4.mono (by simp))); have hsN := hbN.size; have s40 : w4.cell? ⟨s, 0, none⟩ = some (.bool n3) := (by rw [(bcell hbN).1 _ _ hz4]; exact x0); have s41 : w4.cell? ⟨s, 1, none⟩ = some (.slice p3 l3 c3) := (by rw [(bcell hbN).1 _ _ hz4]; exact x1); (try (have q4 : wb.heap.size < w4.heap.size := (by have := hb4.size; simp at this; omega); have t40 : w4.cell? ⟨wb.heap.size, 0, none⟩ = some (.bool false) := (by rw [(bcell hb4).1 _ _ (by simp)]; simp [go_sem]); have t41 : w4.cell? ⟨wb.heap.size, 1, none⟩ = some (.slice none 0 0) := (by rw [(bcell hb4).1 _ _ (by simp)]; simp [go_sem]); have t4f : ∀ o, w4.frozen? ⟨wb.heap.size, o, none⟩ = false := (fun o => by rw [(bcell hb4).2 _ _ (by simp)]; simp [go_sem]))))
          | (go_at_call 9; refine (add_any _ _ _ _ _ _ _ _ r 1 _ (by first | exact HX4.out.below hbN (Nat.le_refl _) | exact HX4.out.below (hbN.alloc hbN.size _) (Nat.le_refl _)) (by first | exact hN4 | exact hN4.below ((Below.refl _ _).alloc (Nat.le_refl _) _) (Nat.le_refl _)) FR.out F1.out).mono ?_; rintro e w5 ⟨n5, p5, l5, c5, rfl, hN5, hb5, -⟩; have hbM : Below wb.heap.size wb w5 := (by first | exact hbN.trans (hb5.mono hbN.size) | exact (hbN.alloc hbN.size _).trans (hb5.mono (Nat.le_trans hbN.size (by simp)))); have hsM := hbM.size; have s50 : w5.cell? ⟨s, 0, none⟩ = some (.bool n3) := (by rw [(bcell hbM).1 _ _ hz4]; exact x0); have s51 : w5.cell? ⟨s, 1, none⟩ = some (.slice p3 l3 c3) := (by rw [(bcell hbM).1 _ _ hz4]; exact x1); (first | (have t50 : w5.cell? ⟨wb.heap.size, 0, none⟩ = some (.bool false) := (by rw [(bcell hb5).1 _ _ q4]; exact t40); have t51 : w5.cell? ⟨wb.heap.size, 1, none⟩ = some (.slice none 0 0) := (by rw [(bcell hb5).1 _ _ q4]; exact t41); have t5f : ∀ o, w5.frozen? ⟨wb.heap.size, o, none⟩ = false := (fun o => by rw [(bcell hb5).2 _ _ q4]; exact t4f o)) | (have t50 : w5.cell? ⟨w4.heap.size, 0, none⟩ = some (.bool false) := (by rw [(bcell hb5).1 _ _ (by simp)]; simp [go_sem]); have t51 : w5.cell? ⟨w4.heap.size, 1, none⟩ = some (.slice none 0 0) := (by rw [(bcell hb5).1 _ _ (by simp)]; simp [go_sem]); have t5f : ∀ o, w5.frozen? ⟨w4.heap.size, o, none⟩ = false := (fun o => by rw [(bcell hb5).2 _ _ (by simp)]; simp [go_sem])) | skip)))
      all_goals go_wp2_with fail
      · go_meet
        exact ⟨w5.heap.size, n5, p5, l5, c5, rfl, (by rw [World.cell?_alloc_lt _ _ _ (by (try simp) <;> omega)]; assumption), (by rw [World.cell?_alloc_lt _ _ _ (by (try simp) <;> omega)]; assumption), by simp [go_sem], by simp [go_sem],
          hN5.below ((Below.refl _ _).alloc (Nat.le_refl _) _) (Nat.le_refl _), hbM.alloc hsM _⟩
      all_goals
        go_meet
        exact ⟨_, n5, p5, l5, c5, rfl, (by rw [World.cell?_setCell_other _ _ _ _ (by (try simp) <;> omega), World.cell?_setCell_other _ _ _ _ (by (try simp) <;> omega)]; assumption), (by rw [World.cell?_setCell_other _ _ _ _ (by (try simp) <;> omega), World.cell?_setCell_other _ _ _ _ (by (try simp) <;> omega)]; assumption),
          by simp [go_sem, t50], by simp [go_sem, t51], NumC.set2 hN5 t50 t51 _ _ _ _, (hbM.setCell (by (try simp) <;> omega) _).setCell (by (try simp) <;> omega) _⟩
    case rest =>
      obtain ⟨t, n5, p5, l5, c5, rfl, k0, k1, k2, k3, hN5, hb5⟩ := hcut
      have HX5 := Lib.hid (HX4.out.below hb5 (Nat.le_refl _))
      have HY5 := Lib.hid hN5
      have HB5 := Lib.hid (HB4.out.trans (hb5.mono (Nat.le_trans hw3 (by omega))))
      have hw5 : w.heap.size ≤ wc.heap.size := HB5.out.size
      have ht : t < wc.heap.size := World.block_lt_of_cell? wc _ k2
      have c1 : cmpZ (r * r) a ≤ 0 := by have h2 := HR2.out; unfold cmpZ; split; omega; split <;> omega
      have c2 : 0 < cmpZ ((r + 1) * (r + 1)) a := by have h3 := HR3.out; unfold cmpZ; rw [if_neg (by omega), if_neg (by omega)]; omega
      obtain ⟨d1, hd1⟩ : ∃ d, cmpZ (r * r) a = d := ⟨_, rfl⟩
      obtain ⟨d2, hd2⟩ : ∃ d, cmpZ ((r + 1) * (r + 1)) a = d := ⟨_, rfl⟩
      rw [hd1] at c1
      rw [hd2] at c2
      have HD1 := Lib.hid hd1
      have HD2 := Lib.hid hd2
      have FY : Hid (Fit (r + 1)) := Lib.hid (fit2 (by omega) (by omega))
      clear hN5 hb5 hd1 hd2 HX4 HB4
      go_wp2_with fail
      refine (mul_any _ _ _ _ _ _ _ _ r r _ HX5.out HX5.out FR.out FR.out).mono ?_; rintro e v1 ⟨m1, q1, e1, f1, rfl, hM1, hv1, -⟩
      have HM1 := Lib.hid hM1
      have hz1 := hv1.size
      have k2a : v1.cell? ⟨t, 0, none⟩ = some (.bool n5) := by rw [(bcell hv1).1 _ _ ht]; exact k2
      have k3a : v1.cell? ⟨t, 1, none⟩ = some (.slice p5 l5 c5) := by rw [(bcell hv1).1 _ _ ht]; exact k3
      have HY6 := Lib.hid (HY5.out.below hv1 (Nat.le_refl _))
      have HB6 := Lib.hid (HB5.out.trans (hv1.mono hw5))
      clear hM1 hv1 HX5 HY5 HB5 k0 k1 k2 k3
      go_wp2_with fail
      refine (of_any a _ a1 a2).mono ?_; rintro e v2 ⟨m2, q2, e2, f2, rfl, hM2, hv2, -⟩
      have HM1b := Lib.hid (HM1.out.below hv2 (Nat.le_refl _))
      have HM2 := Lib.hid hM2
      have hz2 := hv2.size
      have k2b : v2.cell? ⟨t, 0, none⟩ = some (.bool n5) := by rw [(bcell hv2).1 _ _ (by omega)]; exact k2a
      have k3b : v2.cell? ⟨t, 1, none⟩ = some (.slice p5 l5 c5) := by rw [(bcell hv2).1 _ _ (by omega)]; exact k3a
      have HY7 := Lib.hid (HY6.out.below hv2 (Nat.le_refl _))
      have HB7 := Lib.hid (HB6.out.trans (hv2.mono (by omega)))
      clear hM2 hv2 HM1 HY6 HB6 k2a k3a
      go_wp2_with fail
      refine (cmp_at _ _ _ _ _ _ _ _ (r * r) a d1 _ HD1.out HM1b.out HM2.out).mono ?_; rintro e v3 ⟨rfl, hv3⟩
      have hz3 := hv3.size
      have k2c : v3.cell? ⟨t, 0, none⟩ = some (.bool n5) := by rw [(bcell hv3).1 _ _ (by omega)]; exact k2b
      have k3c : v3.cell? ⟨t, 1, none⟩ = some (.slice p5 l5 c5) := by rw [(bcell hv3).1 _ _ (by omega)]; exact k3b
      have HY8 := Lib.hid (HY7.out.below hv3 (Nat.le_refl _))
      have HB8 := Lib.hid (HB7.out.trans (hv3.mono (by omega)))
      clear hv3 HM1b HM2 HY7 HB7 k2b k3b
      go_wp2_with fail
      refine (mul_any _ _ _ _ _ _ _ _ (r + 1) (r + 1) _ HY8.out HY8.out FY.out FY.out).mono ?_; rintro e v4 ⟨m4, q4, e4, f4, rfl, hM4, hv4, -⟩
      have HM4 := Lib.hid hM4
      have hz4 := hv4.size
      have HB9 := Lib.hid (HB8.out.trans (hv4.mono (by omega)))
      clear hM4 hv4 HY8 HB8 k2c k3c
      go_wp2_with fail
      refine (of_any a _ a1 a2).mono ?_; rintro e v5 ⟨m5, q5, e5, f5, rfl, hM5, hv5, -⟩
      have HM4b := Lib.hid (HM4.out.below hv5 (Nat.le_refl _))
      have HM5 := Lib.hid hM5
      have hz5 := hv5.size
      have HB10 := Lib.hid (HB9.out.trans (hv5.mono (by omega)))
      clear hM5 hv5 HM4 HB9
      go_wp2_with fail
      refine (cmp_at _ _ _ _ _ _ _ _ ((r + 1) * (r + 1)) a d2 _ HD2.out HM4b.out HM5.out).mono ?_; rintro e v6 ⟨rfl, hv6⟩
      have HBt := Lib.hid (HB10.out.trans (hv6.mono (by omega)))
      have hd2' : ¬ (d2 ≤ 0) := by omega
      have hd1' : ¬ (0 < d1) := by omega
      clear hv6 HM4b HM5 HB10
      rcases HC.out with ⟨hn, rfl, rfl⟩ | ⟨k, hn, hk, ⟨h70, rfl⟩ | ⟨h70, hkk⟩, rfl, rfl⟩
      · go_wp2_with fail
        refine (awake_any _).mono ?_; rintro e w6 ⟨rfl, hb6⟩
        have HB6 := Lib.hid (HBt.out.trans (hb6.mono HBt.out.size))
        clear hb6
        go_wp2_with fail
        go_ret
        exact ⟨rfl, HB6.out⟩
      · have h70' : ¬ (70 < (k : Int)) := by omega
        go_wp2_with fail
        refine (of_any a _ a1 a2).mono ?_; rintro e w6 ⟨n6, p6, l6, c6, rfl, hN6, hb6, -⟩
        have HN6 := Lib.hid hN6
        have HB6 := Lib.hid (HBt.out.trans (hb6.mono HBt.out.size))
        clear hN6 hb6
        go_wp2_with fail
        refine (power_any k _ _ _ _ a _ HN6.out (FK.out k hk) (by omega)).mono ?_; rintro e w7 ⟨n7, p7, l7, c7, rfl, hN7, hb7, -⟩
        have HN7 := Lib.hid hN7
        have HB7 := Lib.hid (HB6.out.trans (hb7.mono HB6.out.size))
        clear hN7 hb7
        go_wp2_with fail
        refine (is_any _ _ _ _ _ _ HN7.out).mono ?_; rintro e w8 ⟨rfl, hb8⟩
        have HB8 := Lib.hid (HB7.out.trans (hb8.mono HB7.out.size))
        clear hb8
        go_wp2_with fail
        refine (awake_any _).mono ?_; rintro e w9 ⟨rfl, hb9⟩
        have HB9 := Lib.hid (HB8.out.trans (hb9.mono HB8.out.size))
        clear hb9
        go_wp2_with fail
        go_ret
        exact ⟨rfl, HB9.out⟩
      · have h70' : 70 < n := by omega
        go_wp2_with fail
        refine (of_any a _ a1 a2).mono ?_; rintro e w6 ⟨n6, p6, l6, c6, rfl, hN6, hb6, -⟩
        have HN6 := Lib.hid hN6
        have HB6 := Lib.hid (HBt.out.trans (hb6.mono HBt.out.size))
        clear hN6 hb6
        go_wp2_with fail
        refine (power_any k _ _ _ _ a _ HN6.out (FK.out k hk) (by omega)).mono ?_; rintro e w7 ⟨n7, p7, l7, c7, rfl, hN7, hb7, -⟩
        have HN7 := Lib.hid hN7
        have HB7 := Lib.hid (HB6.out.trans (hb7.mono HB6.out.size))
        clear hN7 hb7
        go_wp2_with fail
        refine (is_any _ _ _ _ _ _ HN7.out).mono ?_; rintro e w8 ⟨rfl, hb8⟩
        have HB8 := Lib.hid (HB7.out.trans (hb8.mono HB7.out.size))
        clear hb8
        go_wp2_with fail
        refine (awake_any _).mono ?_; rintro e w9 ⟨rfl, hb9⟩
        have HB9 := Lib.hid (HB8.out.trans (hb9.mono HB8.out.size))
        clear hb9
        go_wp2_with fail
        go_ret
        exact ⟨rfl, HB9.out⟩
end Go.Proofs.Ytflhmbbkmpdogaa
