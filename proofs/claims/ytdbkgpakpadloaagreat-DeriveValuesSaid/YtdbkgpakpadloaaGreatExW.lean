/- Contracts of the means of sums: bushelref05's Mean and exact's Mean. Conditions: below 2^2240 units; units come with their flag. -/
import Derived.Test.YtdbkgpakpadloaaGreatExU
namespace Go.Proofs.YtdbkgpakpadloaaGreat
open Go.RowKit Ieee

/-- v is the nearest number to z units by k -/
def IsMeanS (b : Nat) (z k : Int) (v : Nat) : Prop := v < 18446744073709551616 ∧
 ((k < 1 ∧ INF < v % S63) ∨ (1 ≤ k ∧ (b % 8 ≠ 0 ∨ z = 0) ∧ IsVal b z v) ∨ (1 ≤ k ∧ b % 8 = 0 ∧ z ≠ 0 ∧ ∃ y, IsNear z.natAbs k.toNat y ∧ v = sgnW (decide (z < 0)) y))
theorem IsMeanS.one {b : Nat} {z k : Int} {u v : Nat} (h : IsMeanS b z k u) (j : IsMeanS b z k v) : keyN u = keyN v := by
 obtain ⟨-, h⟩ := h
 obtain ⟨-, j⟩ := j
 rcases h with ⟨h1, h2⟩ | ⟨h1, h2, h3⟩ | ⟨h1, h2, h3, y, h4, h5⟩ <;> rcases j with ⟨j1, j2⟩ | ⟨j1, j2, j3⟩ | ⟨j1, j2, j3, x, j4, j5⟩ <;> try omega
 ·rw [key_nan h2, key_nan j2]
 ·exact h3.one j3
 ·rw [h5, j5, h4.one j4]
def RMeanS (b : Nat) (z k : Int) (w : World) (e : Ending) (w' : World) : Prop := ∃ v, e = .returned (.float .f64 v) ∧ IsMeanS b z k v ∧ Below w.heap.size w w'
theorem room_nat {z : Int} (h : z.natAbs < ROOM) : z.natAbs < 2 ^ K2240 := by rw [← room_eq]; exact h

set_option maxRecDepth 100000 in
set_option maxHeartbeats 8000000 in
theorem rsmean_b (w : World) (b : Nat) (z k : Int) (n u d m p ng : Bool) (a : Option Addr) (l c : Nat) (hN : NumC w ng a l c z) (hz : z.natAbs < ROOM) (hb : b < 32) (hpl : Plus b z) (hn : fN b = n) (hu : fU b = u) (hd : fD b = d) (hm : fM b = m) (hp : fP b = p) (hk1 : -9223372036854775808 ≤ k) (hk2 : k ≤ 9223372036854775807) :
  Calls Tryz.prog 29 #[.agg #[.bool n, .bool u, .bool d, .bool m, .bool p, .bool ng, .slice a l c], .int .i64 k] w (RMeanS b z k w) := by
 have HV : Hid (∀ w', Below w.heap.size w w' → Calls Tryz.prog 65 #[.agg #[.bool n, .bool u, .bool d, .bool m, .bool p, .bool ng, .slice a l c]] w' (RVal b z w')) :=
  Lib.hid (fun w' hw => rsval_b w' b z n u d m p ng a l c (hN.below hw (Nat.le_refl _)) hz hb hpl hn hu hd hm hp)
 have H8 : Hid (b % 8 = 0 ↔ (n = false ∧ u = false ∧ d = false)) := Lib.hid (by
  rw [← hn, ← hu, ← hd]
  unfold fN fU fD
  simp only [decide_eq_false_iff_not]
  omega)
 have hsg := hN.sign
 obtain ⟨hk, hbw⟩ := one_box w 76 #[.bool n, .bool u, .bool d, .bool m, .bool p, .bool ng, .slice a l c]
 have HNN := Lib.hid hN.abs
 have HSG := Lib.hid hsg
 have hlz := hN.abs.lenb
 have HB := Lib.hid hbw
 have HZ := Lib.hid (room_nat hz)
 clear hN hz hb hpl hn hu hd hm hp hsg hbw
 by_cases hk0 : k < 1
 ·have hkd : decide (k < 1) = true := decide_eq_true hk0
  have HK0 := Lib.hid hk0
  obtain ⟨r, hr0, hr1, hrun⟩ := run_float_nan .quo 38 0 0 (by decide) (by simp) (w.alloc (.cells #[.bool n, .bool u, .bool d, .bool m, .bool p, .bool ng, .slice a l c] 76))
  have R0 := Lib.hid hr0
  have R1 := Lib.hid hr1
  clear hr0 hr1 hk0 hlz
  go_enter Tryz.func29, Tryz.ntmps29
  go_wp2_with fail
  go_ret
  exact ⟨r, rfl, ⟨R0.out, .inl ⟨HK0.out, R1.out⟩⟩, HB.out.drew⟩
 ·have hkd : decide (k < 1) = false := decide_eq_false hk0
  have hk0 : 1 ≤ k := by omega
  have HK0 := Lib.hid hk0
  go_enter Tryz.func29, Tryz.ntmps29
  go_upto_region 1 with fail
  generalize (w.alloc (.cells #[.bool n, .bool u, .bool d, .bool m, .bool p, .bool ng, .slice a l c] 76)) = w7 at *
  generalize hsz : w.heap.size = s at *
  have HSZ := Lib.hid hsz
  have HK := Lib.hid hk
  have x0 : w7.cell? ⟨s, 0, none⟩ = some (.bool n) := hk.cell 0
  have x1 : w7.cell? ⟨s, 1, none⟩ = some (.bool u) := hk.cell 1
  have x2 : w7.cell? ⟨s, 2, none⟩ = some (.bool d) := hk.cell 2
  have x3 : w7.cell? ⟨s, 3, none⟩ = some (.bool m) := hk.cell 3
  have x4 : w7.cell? ⟨s, 4, none⟩ = some (.bool p) := hk.cell 4
  have x5 : w7.cell? ⟨s, 5, none⟩ = some (.bool ng) := hk.cell 5
  have x6 : w7.cell? ⟨s, 6, none⟩ = some (.slice a l c) := hk.cell 6
  clear hk hsz hk0
  have hcase : (n = true ∨ (n = false ∧ u = true) ∨ (n = false ∧ u = false ∧ d = true)) ∨ (n = false ∧ u = false ∧ d = false) := by cases n <;> cases u <;> cases d <;> simp
  rcases hcase with hcase | ⟨rfl, rfl, rfl⟩
  ·rcases hcase with rfl | ⟨rfl, rfl⟩ | ⟨rfl, rfl, rfl⟩
   all_goals
    clear hlz
    have H80 : Hid (b % 8 ≠ 0) := Lib.hid (fun h => by have := H8.out.1 h; simp at this)
    go_wp2_with fail
    refine (HV.out _ HB.out).mono ?_; rintro e w8 ⟨v, rfl, hv, hb8⟩
    have HV8 := Lib.hid hv
    have HB8 := Lib.hid (HB.out.trans (hb8.mono (by rw [← HSZ.out]; exact HB.out.size)))
    clear hv hb8 x0 x1 x2 x3 x4 x5 x6
    go_wp2_with fail
    go_ret
    exact ⟨v, rfl, ⟨HV8.out.1, .inr (.inl ⟨HK0.out, .inl H80.out, HV8.out⟩)⟩, by rw [HSZ.out]; exact HB8.out⟩
  ·have H80 : Hid (b % 8 = 0) := Lib.hid (H8.out.2 ⟨rfl, rfl, rfl⟩)
   rcases hlz with ⟨l1, z0, rfl⟩ | ⟨l1, z0⟩
   ·have Z0 : Hid (z = 0) := Lib.hid (by omega)
    clear z0
    go_wp2_with fail
    refine (HV.out _ HB.out).mono ?_; rintro e w8 ⟨v, rfl, hv, hb8⟩
    have HV8 := Lib.hid hv
    have HB8 := Lib.hid (HB.out.trans (hb8.mono (by rw [← HSZ.out]; exact HB.out.size)))
    clear hv hb8 x0 x1 x2 x3 x4 x5 x6
    go_wp2_with fail
    go_ret
    exact ⟨v, rfl, ⟨HV8.out.1, .inr (.inl ⟨HK0.out, .inr Z0.out, HV8.out⟩)⟩, by rw [HSZ.out]; exact HB8.out⟩
   ·have Z0 : Hid (z ≠ 0) := Lib.hid (by intro h; rw [h] at z0; simp at z0)
    have HOF := Lib.hid (fun w => of_any k w hk1 hk2)
    have HNE : Hid (∀ (w : World) (n1 : Bool) (a1 : Option Addr) (l1 c1 : Nat), NumC w false a l c ((z.natAbs : Nat) : Int) → NumC w n1 a1 l1 c1 k → Calls Tryz.prog 67 #[.agg #[.bool false, .slice a l c], .agg #[.bool n1, .slice a1 l1 c1], .int .i64 (-1074)] w (RNear z.natAbs k.toNat w)) := Lib.hid (fun w n1 a1 l1 c1 h1 h2 => by
     have e1 : k = ((k.toNat : Nat) : Int) := by have := HK0.out; omega
     rw [e1] at h2
     have hq : k.toNat < 2 ^ K2240 := Nat.lt_of_lt_of_le (show k.toNat < 2 ^ 63 from by omega) (Nat.pow_le_pow_right (by decide) (by decide))
     have h := rnearest_any false n1 a a1 l c l1 c1 z.natAbs k.toNat K2240 (-1074) 0 0 w h1 h2 HZ.out hq (by decide) (by have := HK0.out; omega) (by omega) (by omega) (by omega)
     rw [Nat.pow_zero, Nat.mul_one, Nat.mul_one] at h
     exact h)
    clear z0
    go_wp2_with fail
    replace hk := HK.out.drew
    have hB : Below s w w7.drew := HB.out.drew
    have hwS : w.heap.size ≤ s := Nat.le_of_eq HSZ.out
    refine wp_regionN (fun w' => w'.cell? ⟨s, 5, none⟩ = some (.bool ng) ∧ w'.cell? ⟨s, 6, none⟩ = some (.slice a l c)) [] (by kernel_rfl) (by exact ⟨hk.cell 5, hk.cell 6⟩) (fun hHeld => ?_)
    refine wpAnyN_t 0 ⟨some 30, _, _, _, _, _⟩ ?_ rfl ?_ ?_
    rotate_left 1
    ·(intro w hSw; (try dsimp only at hSw); go_simp; try with_reducible rfl)
    try simp only [Act.put, putA, putB, putC]
    refine wpAnyN_t 1 ⟨some 31, _, _, _, _, _⟩ ?_ rfl ?_ ?_
    rotate_left 1
    ·(intro w hSw; (try dsimp only at hSw); go_simp; try with_reducible rfl)
    try simp only [Act.put, putA, putB, putC]
    refine wpAnyN_t 2 ⟨some 32, _, _, _, _, _⟩ ?_ rfl ?_ ?_
    rotate_left 1
    ·(intro w hSw; (try dsimp only at hSw); go_simp; try with_reducible rfl)
    try simp only [Act.put, putA, putB, putC]
    refine wpAnyN_t 3 ⟨some 33, _, _, _, _, _⟩ ?_ rfl ?_ ?_
    rotate_left 1
    ·(intro w hSw; (try dsimp only at hSw); go_simp; try with_reducible rfl)
    try simp only [Act.put, putA, putB, putC]
    refine wpAnyN_t 4 ⟨some 34, _, _, _, _, _⟩ ?_ rfl ?_ ?_
    rotate_left 1
    ·(intro w hSw; (try dsimp only at hSw); go_simp; try with_reducible rfl)
    try simp only [Act.put, putA, putB, putC]
    refine wpAnyN_t 5 ⟨some 35, _, _, _, _, _⟩ ?_ rfl ?_ ?_
    rotate_left 1
    ·(intro w hSw; (try dsimp only at hSw); go_simp; try with_reducible rfl)
    try simp only [Act.put, putA, putB, putC]
    refine wpAnyN_t 6 ⟨some 36, _, _, _, _, _⟩ ?_ rfl ?_ ?_
    rotate_left 1
    ·(intro w hSw; (try dsimp only at hSw); go_simp; try with_reducible rfl)
    try simp only [Act.put, putA, putB, putC]
    refine wpAnyN_t 7 ⟨some 37, _, _, _, _, _⟩ ?_ rfl ?_ ?_
    rotate_left 1
    ·(intro w hSw; (try dsimp only at hSw); go_simp; try with_reducible rfl)
    try simp only [Act.put, putA, putB, putC]
    refine wpAnyN_one (i := 8) (o := ⟨some 38, _, _, _, _, _⟩) (by kernel_rfl) rfl (fun K hK => ?_)
    go_simp
    refine (HOF.out _).mono ?_
    rintro e w1 ⟨n1, a1, l1, c1, rfl, hN1, hbb, -⟩
    have hNN := HNN.out.below (hB.trans (hbb.mono (Nat.le_trans (Nat.le_of_eq HSZ.out.symm) hB.size))) hwS
    have hk := hk.below hbb hk.lt
    have hB := hB.trans (hbb.mono (Nat.le_trans (Nat.le_of_eq HSZ.out.symm) hB.size))
    clear hbb
    refine hK.out _ _ (by exact ⟨hk.cell 5, hk.cell 6⟩) ?_
    clear hK K hHeld
    intro hHeld
    try simp only [Act.put, putA, putB, putC]
    refine wpAnyN_one (i := 9) (o := ⟨some 39, _, _, _, _, _⟩) (by kernel_rfl) rfl (fun K hK => ?_)
    go_simp
    refine (HNE.out _ _ _ _ _ hNN hN1).mono ?_
    rintro e w2 ⟨y, rfl, hy, hbb⟩
    have hk := hk.below hbb hk.lt
    have hB := hB.trans (hbb.mono (Nat.le_trans (Nat.le_of_eq HSZ.out.symm) hB.size))
    clear hbb
    refine hK.out _ _ (by exact ⟨hk.cell 5, hk.cell 6⟩) ?_
    clear hK K hHeld
    intro hHeld
    try simp only [Act.put, putA, putB, putC]
    refine wpAnyN_one (i := 10) (o := ⟨some 40, _, _, _, _, _⟩) (by kernel_rfl) rfl (fun K hK => ?_)
    go_simp
    refine (rsign_sgn ng y _ hy.le).mono ?_
    rintro e w3 ⟨rfl, rfl⟩
    refine hK.out _ _ (by exact ⟨hk.cell 5, hk.cell 6⟩) ?_
    clear hK K hHeld
    intro hHeld
    try simp only [Act.put, putA, putB, putC]
    refine wpAnyN_t 11 ⟨some 4, _, _, _, _, _⟩ ?_ rfl ?_ ?_
    rotate_left 1
    ·(intro w hSw; (try dsimp only at hSw); go_simp; try with_reducible rfl)
    try simp only [Act.put, putA, putB, putC]
    refine wpAnyN_end (by kernel_rfl) ?_
    go_wp2_with fail
    go_ret
    exact ⟨_, rfl, ⟨sgnW_lt hy.le, .inr (.inr ⟨HK0.out, H80.out, Z0.out, y, hy, by rw [HSG.out]⟩)⟩, by rw [HSZ.out]; exact hB⟩

theorem key_big {v b : Nat} {z : Int} (hv : IsVal b z v) (hb : b % 8 ≠ 0) : 2 ≤ kindZ v := by
 obtain ⟨-, hv⟩ := hv
 unfold kindZ
 rcases hv with ⟨-, h2⟩ | ⟨-, -, -, h2⟩ | ⟨-, -, -, h2⟩ | ⟨h1, h2, h3, -⟩
 ·rw [if_pos h2]; decide
 ·rw [h2]; decide
 ·rw [h2]; decide
 ·omega
theorem near_mean {N D z k : Nat} (hD : 0 < D) (hk : 0 < k) (h : IsNear (N * k) (D * k) z) : IsNear N D z := by
 obtain ⟨t, ht⟩ := unit_exist N hD
 have h1 : IsNear N D (min (t * B52 + rne N (D * 2 ^ t)) INF) := ⟨t, ht, rfl⟩
 rw [h.one (h1.scale hk)]
 exact h1
theorem wrap_u64_any {d : Int} (h0 : 0 ≤ d) (h1 : d ≤ 9223372036854775807) : IntKind.u64.wrap d = d := by
 simp only [IntKind.wrap, IntKind.bits, IntKind.signed]
 simp
 omega

set_option maxRecDepth 100000 in
set_option maxHeartbeats 8000000 in
theorem summean_any (w : World) (g b : Nat) (z k : Int) (hs : SumAt w g b z) (hz : z.natAbs < ROOM) (hb : b < 32) (hk1 : -9223372036854775808 ≤ k) (hk2 : k ≤ 9223372036854775807) :
  Calls Tryz.prog 45 #[.pointer (some ⟨g, 0, none⟩), .int .i64 k] w (RMeanS b z k w) := by
 have HV := Lib.hid (sumval_any w g b z hs hz hb)
 have HZ := Lib.hid (room_nat hz)
 have HZR := Lib.hid hz
 obtain ⟨-, -, -, f7⟩ := and_flags b (by omega)
 have a7 : bits .and .u8 (b : Int) 7 = ((b % 8 : Nat) : Int) := by rw [← f7]; exact bits_and_u8 (b := 7) (by omega) (by omega)
 have HS := Lib.hid hs
 clear hz hs f7
 go_enter Tryz.func45, Tryz.ntmps45
 go_wp2_with fail
 refine HV.out.mono ?_; rintro e w1 ⟨v, rfl, hv, hb1⟩
 have HVV := Lib.hid hv
 have HS1 := HS.out.below hb1 (Nat.le_refl _)
 have HB1 := Lib.hid hb1
 have HI := Lib.hid (sumis_any w1 g b z HS1)
 have HKI := Lib.hid (fkind_any v w1 hv.1)
 have hbig := fun h => key_big hv h
 obtain ⟨a, n, c, hk, hN⟩ := HS1
 have hl := hN.words HZR.out
 have hnul := hN.nul
 have HK := Lib.hid hk
 have HN := Lib.hid hN
 have c1 : w1.cell? ⟨g, 1, none⟩ = some (.int .u8 (b : Int)) := hk.cell 1
 have c2 : w1.cell? ⟨g, 2, none⟩ = some (.bool (decide (z < 0))) := hk.cell 2
 have c3 : w1.cell? ⟨g, 3, none⟩ = some (.slice a n c) := hk.cell 3
 have hg : g < w1.heap.size := hk.lt
 clear hv hb1 HV HS hk hN
 by_cases hk0 : k < 1
 ·have hkd : decide (k < 1) = true := decide_eq_true hk0
  have HK0 := Lib.hid hk0
  have HNA := Lib.hid (nan_any w1)
  clear hk0 hbig hnul hl
  go_wp2_with fail
  refine HNA.out.mono ?_; rintro e w2 ⟨rfl, rfl⟩
  go_wp2_with fail
  go_ret
  exact ⟨_, rfl, ⟨by decide, .inl ⟨HK0.out, by decide⟩⟩, HB1.out⟩
 ·have hkd : decide (k < 1) = false := decide_eq_false hk0
  have hk0 : 1 ≤ k := by omega
  have HK0 := Lib.hid hk0
  have hq2 : b % 8 < 256 := by omega
  obtain ⟨q, hq⟩ : ∃ q, b % 8 = q := ⟨_, rfl⟩
  rw [hq] at a7 hbig hq2
  have HQ8 := Lib.hid hq
  clear hq
  obtain ⟨kd, hkd2⟩ : ∃ kd, kindZ v = kd := ⟨_, rfl⟩
  rw [hkd2] at HKI hbig
  have hcase : (decide (2 ≤ kd) = true ∧ ((q : Int) != 0) = true ∧ q ≠ 0) ∨ (decide (2 ≤ kd) = true ∧ ((q : Int) != 0) = false ∧ q = 0) ∨ (decide (2 ≤ kd) = false ∧ q = 0) := by
   by_cases h2 : 2 ≤ kd
   ·by_cases h3 : q = 0
    ·right; left; exact ⟨decide_eq_true h2, by rw [h3]; rfl, h3⟩
    ·left; exact ⟨decide_eq_true h2, by simp; omega, h3⟩
   ·right; right; exact ⟨decide_eq_false h2, Decidable.byContradiction fun h3 => h2 (hbig h3)⟩
  clear hbig hkd2
  rcases hcase with ⟨d1, d2, hq0⟩ | hcase
  ·have HQ0 : Hid (b % 8 ≠ 0) := Lib.hid (by rw [HQ8.out]; exact hq0)
   clear hnul hl hq0 hk0
   go_wp2_with fail
   refine HKI.out.mono ?_; rintro e w2 ⟨rfl, rfl⟩
   go_wp2_with fail
   go_ret
   exact ⟨v, rfl, ⟨HVV.out.1, .inr (.inl ⟨HK0.out, .inl HQ0.out, HVV.out⟩)⟩, HB1.out⟩
  ·have HOF := Lib.hid (fun w => nof_any k w (by omega) (by omega))
   have HSH : Hid (∀ (w : World) (a5 : Option Addr) (n5 c5 : Nat), NatC w a5 n5 c5 k → Calls Tryz.prog 86 #[.slice a5 n5 c5, .int .i64 1074] w (RetNatB w ((k.toNat * 2 ^ K1074 : Nat) : Int))) := Lib.hid (fun w a5 n5 c5 h => by
    have e1 : k = ((k.toNat : Nat) : Int) := by omega
    have hs : n5 ≤ 64 := NatC.short (K := 64) (z := k.toNat) (by rw [← e1]; exact h) (by omega)
    obtain ⟨xs, x1, x2, -, x3⟩ := h
    obtain ⟨N, hN⟩ : ∃ N : Nat, N = K1074 := ⟨_, rfl⟩
    have hNi : ((N : Nat) : Int) = 1074 := by rw [hN]; rfl
    have h2 := nshl_yes a5 n5 c5 N xs w x1 x2 (by omega) (by omega)
    rw [x3, cast_shl (N := N) e1, hNi, hN] at h2
    exact h2)
   have HQU : Hid (∀ (w : World) (a5 : Option Addr) (n5 c5 : Nat), NatC w a n c ((z.natAbs : Nat) : Int) → NatC w a5 n5 c5 ((k.toNat * 2 ^ K1074 : Nat) : Int) → Calls Tryz.prog 46 #[.bool (decide (z < 0)), .slice a n c, .slice a5 n5 c5] w (RQuot (decide (z < 0)) z.natAbs (k.toNat * 2 ^ K1074) w)) := Lib.hid (fun w a5 n5 c5 h1 h2 => by
    have hq1 : k.toNat * 2 ^ K1074 < 2 ^ K2240 := Nat.lt_of_lt_of_le (shl_lt (K := 64) (M := K1074) (show k.toNat < 2 ^ 64 from by omega) (Nat.le_refl _)) (Nat.pow_le_pow_right (by decide) (by decide))
    have hs2 := h2.short hq1
    have hs1 := h1.short HZ.out
    have hK : K2240 ≤ 3000 := by decide
    obtain ⟨xs, x1, x2, -, x3⟩ := h1
    obtain ⟨ys, y1, y2, -, y3⟩ := h2
    exact fquot_any (decide (z < 0)) a a5 n c n5 c5 z.natAbs (k.toNat * 2 ^ K1074) K2240 xs ys w x1 y1 x2 y2 x3 y3 (by omega) (by omega) HZ.out hq1 hK)
   have hwk : IntKind.u64.wrap k = k := wrap_u64_any (by omega) hk2
   have hk0' : 0 ≤ k := by omega
   have hq0 : q = 0 := by rcases hcase with ⟨-, -, h⟩ | ⟨-, h⟩ <;> exact h
   have HQ0 : Hid (b % 8 = 0) := Lib.hid (by rw [HQ8.out]; exact hq0)
   subst hq0
   have hcase : (decide (2 ≤ kd) = true) ∨ (decide (2 ≤ kd) = false) := by rcases hcase with ⟨h, -⟩ | ⟨h, -⟩; exact .inl h; exact .inr h
   by_cases hz0 : z.natAbs = 0
   ·rw [hz0, decide_eq_true rfl] at hnul
    have Z0 : Hid (z = 0) := Lib.hid (by omega)
    clear hz0 hl hk0 hwk hk0'
    rcases hcase with d1 | d1
    all_goals
     go_wp2_with fail
     refine HKI.out.mono ?_; rintro e w2 ⟨rfl, rfl⟩
     go_wp2_with fail
     refine HI.out.mono ?_; rintro e w2 ⟨rfl, rfl⟩
     go_wp2_with fail
     go_ret
     exact ⟨v, rfl, ⟨HVV.out.1, .inr (.inl ⟨HK0.out, .inr Z0.out, HVV.out⟩)⟩, HB1.out⟩
   ·rw [decide_eq_false hz0] at hnul
    have Z0 : Hid (z ≠ 0) := Lib.hid (by intro h; apply hz0; rw [h]; rfl)
    have Z1 := Lib.hid hz0
    clear hz0 hl hk0
    rcases hcase with d1 | d1
    all_goals
     go_wp2_with fail
     refine HKI.out.mono ?_; rintro e w2 ⟨rfl, rfl⟩
     go_wp2_with fail
     refine HI.out.mono ?_; rintro e w2 ⟨rfl, rfl⟩
     go_wp2_with fail
     refine (HOF.out _).mono ?_; rintro e w4 ⟨a4, n4, c4, rfl, hN4, hb4, -⟩
     have HN4 := Lib.hid hN4
     have HB4 := Lib.hid (HB1.out.trans (hb4.mono HB1.out.size))
     have HK4 := Lib.hid (HK.out.below hb4 HK.out.lt)
     have HZ4 := Lib.hid (HN.out.below hb4 (Nat.le_refl _))
     clear hN4 hb4 c1 c2 c3 hg
     go_wp2_with fail
     refine (HSH.out _ _ _ _ HN4.out).mono ?_; rintro e w5 ⟨a5, n5, c5, rfl, hN5, hb5, -⟩
     have HM5 := Lib.hid hN5
     have HB5 := Lib.hid (HB4.out.trans (hb5.mono HB4.out.size))
     have HK5 := Lib.hid (HK4.out.below hb5 HK4.out.lt)
     have HN5 := Lib.hid (HZ4.out.below hb5 (Nat.le_refl _))
     clear hN5 hb5
     have c2 : w5.cell? ⟨g, 2, none⟩ = some (.bool (decide (z < 0))) := HK5.out.cell 2
     have c3 : w5.cell? ⟨g, 3, none⟩ = some (.slice a n c) := HK5.out.cell 3
     have hg : g < w5.heap.size := HK5.out.lt
     go_wp2_with fail
     have hk := HK5.out.drew
     have hB := HB5.out.drew
     refine wp_regionN (fun w' => w'.cell? ⟨g, 2, none⟩ = some (.bool (decide (z < 0))) ∧ w'.cell? ⟨g, 3, none⟩ = some (.slice a n c)) [] (by kernel_rfl) (by exact ⟨hk.cell 2, hk.cell 3⟩) (fun hHeld => ?_)
     refine wpAnyN_t 0 ⟨some 45, _, _, _, _, _⟩ ?_ rfl ?_ ?_
     rotate_left 1
     ·(intro w hSw; (try dsimp only at hSw); go_simp; try with_reducible rfl)
     try simp only [Act.put, putA, putB, putC]
     refine wpAnyN_t 1 ⟨some 46, _, _, _, _, _⟩ ?_ rfl ?_ ?_
     rotate_left 1
     ·(intro w hSw; (try dsimp only at hSw); go_simp; try with_reducible rfl)
     try simp only [Act.put, putA, putB, putC]
     refine wpAnyN_t 2 ⟨some 47, _, _, _, _, _⟩ ?_ rfl ?_ ?_
     rotate_left 1
     ·(intro w hSw; (try dsimp only at hSw); go_simp; try with_reducible rfl)
     try simp only [Act.put, putA, putB, putC]
     refine wpAnyN_t 3 ⟨some 48, _, _, _, _, _⟩ ?_ rfl ?_ ?_
     rotate_left 1
     ·(intro w hSw; (try dsimp only at hSw); go_simp; try with_reducible rfl)
     try simp only [Act.put, putA, putB, putC]
     refine wpAnyN_t 4 ⟨some 49, _, _, _, _, _⟩ ?_ rfl ?_ ?_
     rotate_left 1
     ·(intro w hSw; (try dsimp only at hSw); go_simp; try with_reducible rfl)
     try simp only [Act.put, putA, putB, putC]
     refine wpAnyN_t 5 ⟨some 50, _, _, _, _, _⟩ ?_ rfl ?_ ?_
     rotate_left 1
     ·(intro w hSw; (try dsimp only at hSw); go_simp; try with_reducible rfl)
     try simp only [Act.put, putA, putB, putC]
     refine wpAnyN_t 6 ⟨some 51, _, _, _, _, _⟩ ?_ rfl ?_ ?_
     rotate_left 1
     ·(intro w hSw; (try dsimp only at hSw); go_simp; try with_reducible rfl)
     try simp only [Act.put, putA, putB, putC]
     refine wpAnyN_t 7 ⟨some 52, _, _, _, _, _⟩ ?_ rfl ?_ ?_
     rotate_left 1
     ·(intro w hSw; (try dsimp only at hSw); go_simp; try with_reducible rfl)
     try simp only [Act.put, putA, putB, putC]
     refine wpAnyN_t 8 ⟨some 53, _, _, _, _, _⟩ ?_ rfl ?_ ?_
     rotate_left 1
     ·(intro w hSw; (try dsimp only at hSw); go_simp; try with_reducible rfl)
     try simp only [Act.put, putA, putB, putC]
     refine wpAnyN_one (i := 9) (o := ⟨some 54, _, _, _, _, _⟩) (by kernel_rfl) rfl (fun K hK => ?_)
     go_simp
     refine (HQU.out _ _ _ _ (HN5.out.below ((Below.refl _ _).drew) (Nat.le_refl _)) (HM5.out.below ((Below.refl _ _).drew) (Nat.le_refl _))).mono ?_
     rintro e w6 ⟨v6, rfl, hv6, hbb⟩
     have hk := hk.below hbb hk.lt
     have hB := hB.trans (hbb.mono hB.size)
     clear hbb
     refine hK.out _ _ (by exact ⟨hk.cell 2, hk.cell 3⟩) ?_
     clear hK K hHeld
     intro hHeld
     try simp only [Act.put, putA, putB, putC]
     refine wpAnyN_t 10 ⟨some 4, _, _, _, _, _⟩ ?_ rfl ?_ ?_
     rotate_left 1
     ·(intro w hSw; (try dsimp only at hSw); go_simp; try with_reducible rfl)
     try simp only [Act.put, putA, putB, putC]
     refine wpAnyN_end (by kernel_rfl) ?_
     go_wp2_with fail
     go_ret
     refine ⟨v6, rfl, ⟨hv6.1, .inr (.inr ⟨HK0.out, HQ0.out, Z0.out, ?_⟩)⟩, hB⟩
     have hkn : 0 < k.toNat := by have := HK0.out; omega
     rcases hv6.2 with ⟨h1, -⟩ | ⟨-, h2, -⟩ | ⟨h1, -⟩ | ⟨-, -, y, h3, h4⟩
     ·exact absurd h1 Z1.out
     ·exact absurd h2 (Nat.ne_of_gt (Nat.mul_pos hkn (Nat.two_pow_pos _)))
     ·exact absurd h1 Z1.out
     ·exact ⟨y, near_mean hkn (Nat.two_pow_pos _) h3, h4⟩
end Go.Proofs.YtdbkgpakpadloaaGreat
