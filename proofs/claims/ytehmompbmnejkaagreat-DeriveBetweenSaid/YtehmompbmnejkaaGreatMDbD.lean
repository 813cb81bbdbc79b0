/- Rounding keeps the order; a mean of whole numbers, rounded, lies between the rounded least and greatest (plain). No conditions. -/
import Derived.Test.YtehmompbmnejkaaGreatMRat2
import Derived.Test.YtehmompbmnejkaaGreatMExr
import Derived.Test.YtehmompbmnejkaaGreatMReg
import Derived.Test.YtehmompbmnejkaaGreatMRat1
namespace Go.Proofs.YtehmompbmnejkaaGreat
open Go.RowKit Ieee

/-- what a rounded quotient is at most -/
theorem rne_top {n d e : Nat} (hd : 0 < d) (h : 2 * n < (2 * e + 1) * d ∨ (2 * n = (2 * e + 1) * d ∧ e % 2 = 0)) : rne n d ≤ e := by
 have h1 := Nat.div_add_mod n d
 have h2 := Nat.mod_lt n hd
 unfold rne
 generalize n / d = q at *
 generalize n % d = r at *
 have hq : q ≤ e := by
  rcases Nat.lt_or_ge e q with h3 | h3
  ·have h4 : d * (e + 1) ≤ d * q := Nat.mul_le_mul_left _ h3
   rw [Nat.mul_add, Nat.mul_one] at h4
   have h5 : (2 * e + 1) * d = 2 * (d * e) + d := by rw [Nat.add_mul, Nat.one_mul, Nat.mul_assoc, Nat.mul_comm e d]
   omega
  ·exact h3
 rcases Nat.lt_or_ge q e with h3 | h3
 ·cases decide (d < 2 * r) || (decide (d = 2 * r) && decide (q % 2 = 1)) <;> simp <;> omega
 ·obtain rfl : q = e := by omega
  have h5 : (2 * q + 1) * d = 2 * (d * q) + d := by rw [Nat.add_mul, Nat.one_mul, Nat.mul_assoc, Nat.mul_comm q d]
  have h6 : decide (d < 2 * r) = false := decide_eq_false (by omega)
  have h7 : (decide (d = 2 * r) && decide (q % 2 = 1)) = false := by
   by_cases h8 : d = 2 * r
   ·have : q % 2 = 0 := by omega
    rw [this]; simp
   ·rw [decide_eq_false h8]; rfl
  rw [h6, h7]
  exact Nat.le_refl _
/-- and what it is of -/
theorem rne_bot {n d : Nat} (hd : 0 < d) : 2 * n < (2 * rne n d + 1) * d ∨ (2 * n = (2 * rne n d + 1) * d ∧ rne n d % 2 = 0) := by
 have h1 := Nat.div_add_mod n d
 have h2 := Nat.mod_lt n hd
 unfold rne
 generalize n / d = q at *
 generalize n % d = r at *
 have h5 : ∀ e : Nat, (2 * e + 1) * d = 2 * (d * e) + d := fun e => by rw [Nat.add_mul, Nat.one_mul, Nat.mul_assoc, Nat.mul_comm e d]
 by_cases ha : d < 2 * r
 ·rw [decide_eq_true ha]
  show 2 * n < (2 * (q + 1) + 1) * d ∨ _
  left
  rw [h5, Nat.mul_add, Nat.mul_one]
  omega
 ·rw [decide_eq_false ha]
  by_cases hb : d = 2 * r
  ·rw [decide_eq_true hb]
   by_cases hc : q % 2 = 1
   ·rw [decide_eq_true hc]
    show 2 * n < (2 * (q + 1) + 1) * d ∨ _
    left
    rw [h5, Nat.mul_add, Nat.mul_one]
    omega
   ·rw [decide_eq_false hc]
    show 2 * n < (2 * q + 1) * d ∨ (2 * n = (2 * q + 1) * d ∧ q % 2 = 0)
    right
    rw [h5]
    omega
  ·rw [decide_eq_false hb]
   show 2 * n < (2 * q + 1) * d ∨ _
   left
   rw [h5]
   omega
theorem rne_mono {n d m c : Nat} (hd : 0 < d) (hc : 0 < c) (h : n * c ≤ m * d) : rne n d ≤ rne m c := by
 have hb := rne_bot (n := m) hc
 refine rne_top hd ?_
 generalize rne m c = e at *
 have h1 : 2 * n * c ≤ 2 * m * d := by rw [Nat.mul_assoc, Nat.mul_assoc]; exact Nat.mul_le_mul_left _ h
 have e1 : (2 * e + 1) * d * c = (2 * e + 1) * c * d := Nat.mul_right_comm _ _ _
 rcases hb with hb | ⟨hb, he⟩
 ·left
  have h2 : 2 * m * d < (2 * e + 1) * c * d := Nat.mul_lt_mul_of_pos_right hb hd
  exact Nat.lt_of_mul_lt_mul_right (a := c) (by omega)
 ·have h2 : 2 * m * d = (2 * e + 1) * c * d := by rw [hb]
  rcases Nat.lt_or_ge (2 * n) ((2 * e + 1) * d) with h3 | h3
  ·exact .inl h3
  ·right
   refine ⟨Nat.le_antisymm ?_ h3, he⟩
   exact Nat.le_of_mul_le_mul_right (by omega : 2 * n * c ≤ (2 * e + 1) * d * c) hc
theorem steps_add {T R U R2 B : Nat} (h2 : R ≤ 2 * B) (h3 : B ≤ R2) (h4 : T + 1 * B ≤ U) : T + R ≤ U + R2 := by omega
theorem zmul (P : Nat) : (0 : Int).natAbs * P = 0 := Nat.zero_mul P
/-- the nearest numbers of two quotients stand as the quotients -/
theorem near_mono {N D M C y z : Nat} (h : IsNear N D y) (k : IsNear M C z) (hle : N * C ≤ M * D) : y ≤ z := by
 obtain ⟨t, ht, rfl⟩ := h
 obtain ⟨u, hu, rfl⟩ := k
 have hlow : ∀ P, D * P ≤ N → M < C * P → False := fun P h3 h2 => by
  have h4 : M * D < C * P * D := Nat.mul_lt_mul_of_pos_right h2 ht.hD
  have h5 : D * P * C ≤ N * C := Nat.mul_le_mul_right _ h3
  have e : C * P * D = D * P * C := by ac_rfl
  rw [e] at h4
  exact absurd (Nat.lt_of_lt_of_le h4 (Nat.le_trans h5 hle)) (Nat.lt_irrefl _)
 have htu : t ≤ u := by
  rcases ht.lo with h0 | h0
  ·rw [h0]; exact Nat.zero_le _
  ·rcases Nat.lt_or_ge u t with h1 | h1
   ·have h2 : M < C * 2 ^ (t + 52) := Nat.lt_of_lt_of_le hu.hi (Nat.mul_le_mul_left _ (Nat.pow_le_pow_right (by decide) (Nat.add_lt_add_right h1 52)))
    exact (hlow _ h0 h2).elim
   ·exact h1
 have key : t * B52 + rne N (D * 2 ^ t) ≤ u * B52 + rne M (C * 2 ^ u) := by
  rcases Nat.lt_or_ge t u with h1 | h1
  ·have h2 := ht.rne_le
   have h3 := hu.rne_ge (Nat.ne_of_gt (Nat.lt_of_le_of_lt (Nat.zero_le _) h1))
   have h4 : (t + 1) * B52 ≤ u * B52 := Nat.mul_le_mul_right _ h1
   rw [Nat.add_mul] at h4
   exact steps_add h2 h3 h4
  ·obtain rfl : t = u := Nat.le_antisymm htu h1
   refine Nat.add_le_add_left (rne_mono (Nat.mul_pos ht.hD (Nat.two_pow_pos t)) (Nat.mul_pos hu.hD (Nat.two_pow_pos t)) ?_) _
   have e1 : ∀ P, N * (C * P) ≤ M * (D * P) := fun P => by
    rw [← Nat.mul_assoc, ← Nat.mul_assoc]
    exact Nat.mul_le_mul_right _ hle
   exact e1 _
 exact Nat.le_min.2 ⟨Nat.le_trans (Nat.min_le_left _ _) key, Nat.min_le_right _ _⟩
theorem near_nought {D : Nat} (hD : 0 < D) : IsNear 0 D 0 :=
 ⟨0, ⟨hD, Nat.mul_pos hD (Nat.two_pow_pos _), .inl rfl⟩, by rw [Nat.zero_mul, Nat.zero_add, Nat.pow_zero, Nat.mul_one, Nat.le_zero.1 (rne_le (m := 0) hD (Nat.zero_le _)), Nat.zero_min]⟩
theorem near0 : IsNear 0 1 0 := near_nought Nat.one_pos
theorem word_sgn (neg : Bool) (r : Nat) : double.word neg r = sgnW neg r := by cases neg <;> rfl
/-- the float of a whole number -/
theorem int_nearA (x : Int) {a : Nat} (ha : (0 : Int) + 1074 = (a : Int) - ((0 : Nat) : Int)) : ∃ r, floatOfInt .f64 x = sgnW (decide (x < 0)) r ∧ IsNear (x.natAbs * 2 ^ a) 1 r := by
 rcases Nat.eq_zero_or_pos x.natAbs with h0 | h0
 ·obtain rfl : x = 0 := by omega
  refine ⟨0, int_float0, ?_⟩
  rw [zmul]
  exact near0
 ·obtain ⟨t, ht⟩ := unit_exist (x.natAbs * 2 ^ a) (D := 1) (by decide)
  refine ⟨min (t * B52 + rne (x.natAbs * 2 ^ a) (1 * 2 ^ t)) INF, ?_, t, ht, rfl⟩
  show double.nearest (decide (x < 0)) x.natAbs 0 = _
  rw [nearest_of (a := a) (b := 0) (decide (x < 0)) ht h0 ha (by rw [Nat.pow_zero])]
  exact word_sgn _ _
theorem int_near (x : Int) : ∃ r, floatOfInt .f64 x = sgnW (decide (x < 0)) r ∧ IsNear (x.natAbs * 2 ^ K1074) 1 r := int_nearA x (by unfold K1074; omega)
theorem sk_sgnB {neg : Bool} {y : Nat} (h : y ≤ INF) : sk (sgnW neg y) = sg neg y ∧ sgnW neg y % S63 = y := by
 unfold sk sgnW
 unfold INF at h
 cases neg
 ·simp only [Bool.false_eq_true, if_false]
  have h1 : y % S63 = y := Nat.mod_eq_of_lt (by unfold S63; omega)
  rw [h1, show decide (S63 ≤ y) = false from by unfold S63; simp; omega]
  exact ⟨rfl, rfl⟩
 ·simp only [if_true]
  have h1 : (S63 + y) % S63 = y := by rw [Nat.add_mod_left]; exact Nat.mod_eq_of_lt (by unfold S63; omega)
  rw [h1, show decide (S63 ≤ S63 + y) = true from by simp]
  exact ⟨rfl, rfl⟩
theorem near_nul {N D y : Nat} (h : IsNear N D y) (h0 : N = 0) : y = 0 := by
 subst h0
 have h1 := near_mono h near0 (by rw [Nat.zero_mul]; exact Nat.zero_le _)
 omega
/-- the mean against one number, however great -/
theorem mean_vsB {s k x : Int} {z : Nat} (hk : 1 ≤ k) (hz : IsMean s k z) :
  z < 18446744073709551616 ∧ z % S63 ≤ INF ∧ floatOfInt .f64 x < 18446744073709551616 ∧ floatOfInt .f64 x % S63 ≤ INF ∧ (k * x ≤ s → sk (floatOfInt .f64 x) ≤ sk z) ∧ (s ≤ k * x → sk z ≤ sk (floatOfInt .f64 x)) := by
 obtain ⟨r, hr0, hr2⟩ := int_near x
 have hr1 := hr2.le
 obtain ⟨q1, q2⟩ := sk_sgnB (neg := decide (x < 0)) hr1
 have hlt := sgnW_lt (neg := decide (x < 0)) hr1
 have hxr : x = 0 → r = 0 := fun h => near_nul hr2 (by rw [h]; exact zmul _)
 have hkx : ((k.natAbs : Nat) : Int) = k := by omega
 rw [← hr0] at q1 q2 hlt
 have hmul : ((k.natAbs * x.natAbs : Nat) : Int) = if x < 0 then -(k * x) else k * x := by
  rw [Int.natCast_mul, hkx]
  split
  ·rw [show ((x.natAbs : Nat) : Int) = -x from by omega, Int.mul_neg]
  ·rw [show ((x.natAbs : Nat) : Int) = x from by omega]
 have sgT : ∀ n : Nat, sg true n = -(n : Int) := fun _ => rfl
 have sgF : ∀ n : Nat, sg false n = (n : Int) := fun _ => rfl
 have hac : ∀ P : Nat, x.natAbs * P * k.natAbs = k.natAbs * x.natAbs * P := fun P => by rw [Nat.mul_right_comm, Nat.mul_comm x.natAbs]
 have hup : ∀ y, IsNear (s.natAbs * 2 ^ K1074) k.natAbs y → s.natAbs ≤ k.natAbs * x.natAbs → y ≤ r := fun y hy hle => near_mono hy hr2 (by
  rw [Nat.mul_one, hac]
  exact Nat.mul_le_mul_right _ hle)
 have hdn : ∀ y, IsNear (s.natAbs * 2 ^ K1074) k.natAbs y → k.natAbs * x.natAbs ≤ s.natAbs → r ≤ y := fun y hy hle => near_mono hr2 hy (by
  rw [Nat.mul_one, hac]
  exact Nat.mul_le_mul_right _ hle)
 rcases hz with ⟨h1, h2, h3⟩ | ⟨h1, hq⟩
 ·subst h3
  subst h1
  refine ⟨by omega, by decide, hlt, by rw [q2]; exact hr1, ?_, ?_⟩
  ·intro h
   have hx0 : x ≤ 0 := by
    rcases Int.lt_or_le 0 x with h4 | h4
    ·have := Int.mul_pos (show 0 < k by omega) h4
     omega
    ·exact h4
   rw [q1, show sk 0 = 0 from by decide]
   rcases Int.lt_or_le x 0 with h4 | h4
   ·rw [decide_eq_true h4, sgT]; omega
   ·rw [show decide (x < 0) = false from by simpa using h4, sgF, hxr (by omega)]
    exact Int.le_refl _
  ·intro h
   have hx0 : 0 ≤ x := by
    rcases Int.lt_or_le x 0 with h4 | h4
    ·have := Int.mul_neg_of_pos_of_neg (show 0 < k by omega) h4
     omega
    ·exact h4
   rw [q1, show sk 0 = 0 from by decide, show decide (x < 0) = false from by simpa using hx0, sgF]
   omega
 ·have hs0 : s ≠ 0 := fun h => h1 ⟨h, by omega⟩
  rw [show decide (k < 0) = false from by simp; omega, Bool.bne_false] at hq
  obtain ⟨hzl, hq⟩ := hq
  rcases hq with ⟨h2, -, -⟩ | ⟨-, h2, -⟩ | ⟨h2, -, -⟩ | ⟨-, -, y, h3, h4⟩
  ·omega
  ·omega
  ·omega
  ·obtain ⟨u1, u2⟩ := sk_sgnB (neg := decide (s < 0)) h3.le
   rw [← h4] at u1 u2
   refine ⟨hzl, by rw [u2]; exact h3.le, hlt, by rw [q2]; exact hr1, ?_, ?_⟩
   ·intro h
    rw [q1, u1]
    rcases Int.lt_or_le s 0 with hs | hs
    ·have hx0 : x < 0 := by
      rcases Int.lt_or_le x 0 with h5 | h5
      ·exact h5
      ·have := Int.mul_nonneg (show 0 ≤ k by omega) h5
       omega
     rw [decide_eq_true hs, decide_eq_true hx0, sgT, sgT]
     rw [if_pos hx0] at hmul
     have := hup y h3 (by omega)
     omega
    ·rw [show decide (s < 0) = false from by simpa using hs, sgF]
     rcases Int.lt_or_le x 0 with h5 | h5
     ·rw [decide_eq_true h5, sgT]; omega
     ·rw [show decide (x < 0) = false from by simpa using h5, sgF]
      rw [if_neg (by omega)] at hmul
      have := hdn y h3 (by omega)
      omega
   ·intro h
    rw [q1, u1]
    rcases Int.lt_or_le s 0 with hs | hs
    ·rw [decide_eq_true hs, sgT]
     rcases Int.lt_or_le x 0 with h5 | h5
     ·rw [decide_eq_true h5, sgT]
      rw [if_pos h5] at hmul
      have := hdn y h3 (by omega)
      omega
     ·rw [show decide (x < 0) = false from by simpa using h5, sgF]; omega
    ·have hx0 : 0 ≤ x := by
      rcases Int.lt_or_le x 0 with h5 | h5
      ·have := Int.mul_neg_of_pos_of_neg (show 0 < k by omega) h5
       omega
      ·exact h5
     rw [show decide (s < 0) = false from by simpa using hs, show decide (x < 0) = false from by simpa using hx0, sgF, sgF]
     rw [if_neg (by omega)] at hmul
     have := hup y h3 (by omega)
     omega
end Go.Proofs.YtehmompbmnejkaaGreat
/- Rows stay where a block without such cells changes; sums of at most 40 numbers never lack room. No conditions. -/
namespace Go.Proofs.YtehmompbmnejkaaGreat
open Go.RowKit Ieee

end Go.Proofs.YtehmompbmnejkaaGreat
/- Contracts of the means of sums: bushelref05's Mean and exact's Mean. Conditions: below 2^2240 units; units come with their flag. -/
namespace Go.Proofs.YtehmompbmnejkaaGreat
open Go.RowKit Ieee

/-- v is the nearest number to z units by k -/
def IsMeanS (b : Nat) (z k : Int) (v : Nat) : Prop := v < 18446744073709551616 ∧
 ((k < 1 ∧ INF < v % S63) ∨ (1 ≤ k ∧ (b % 8 ≠ 0 ∨ z = 0) ∧ IsVal b z v) ∨ (1 ≤ k ∧ b % 8 = 0 ∧ z ≠ 0 ∧ ∃ y, IsNear z.natAbs k.toNat y ∧ v = sgnW (decide (z < 0)) y))
def RMeanS (b : Nat) (z k : Int) (w : World) (e : Ending) (w' : World) : Prop := ∃ v, e = .returned (.float .f64 v) ∧ IsMeanS b z k v ∧ Below w.heap.size w w'
theorem room_nat {z : Int} (h : z.natAbs < ROOM) : z.natAbs < 2 ^ K2240 := by rw [← room_eq]; exact h

theorem key_big {v b : Nat} {z : Int} (hv : IsVal b z v) (hb : b % 8 ≠ 0) : 2 ≤ kindZ v := by
 obtain ⟨-, hv⟩ := hv
 unfold kindZ
 rcases hv with ⟨-, h2⟩ | ⟨-, -, -, h2⟩ | ⟨-, -, -, h2⟩ | ⟨h1, h2, h3, -⟩
 ·rw [if_pos h2]; decide
 ·rw [h2]; decide
 ·rw [h2]; decide
 ·omega
theorem near_mean {N D z k : Nat} (hD : 0 < D) (hk : 0 < k) (h : IsNear (N * k) (D * k) z) : IsNear N D z := by
 obtain ⟨t, ht⟩ := unit_exist N hD
 have h1 : IsNear N D (min (t * B52 + rne N (D * 2 ^ t)) INF) := ⟨t, ht, rfl⟩
 rw [h.one (h1.scale hk)]
 exact h1
theorem wrap_u64_any {d : Int} (h0 : 0 ≤ d) (h1 : d ≤ 9223372036854775807) : IntKind.u64.wrap d = d := by
 simp only [IntKind.wrap, IntKind.bits, IntKind.signed]
 simp
 omega

set_option maxRecDepth 100000 in
set_option maxHeartbeats 8000000 in
theorem summean_any (w : World) (g b : Nat) (z k : Int) (hs : SumAt w g b z) (hz : z.natAbs < ROOM) (hb : b < 32) (hk1 : -9223372036854775808 ≤ k) (hk2 : k ≤ 9223372036854775807) :
  Calls Tryz.prog 41 #[.pointer (some ⟨g, 0, none⟩), .int .i64 k] w (RMeanS b z k w) := by
 have HV := Lib.hid (sumval_any w g b z hs hz hb)
 have HZ := Lib.hid (room_nat hz)
 have HZR := Lib.hid hz
 obtain ⟨-, -, -, f7⟩ := and_flags b (by omega)
 have a7 : bits .and .u8 (b : Int) 7 = ((b % 8 : Nat) : Int) := by rw [← f7]; exact bits_and_u8 (b := 7) (by omega) (by omega)
 have HS := Lib.hid hs
 clear hz hs f7
 go_enter Tryz.func41, Tryz.ntmps41
 go_wp2_with fail
 refine HV.out.mono ?_; rintro e w1 ⟨v, rfl, hv, hb1⟩
 have HVV := Lib.hid hv
 have HS1 := HS.out.below hb1 (Nat.le_refl _)
 have HB1 := Lib.hid hb1
 have HI := Lib.hid (sumis_any w1 g b z HS1)
 have HKI := Lib.hid (fkind_any v w1 hv.1)
 have hbig := fun h => key_big hv h
 obtain ⟨a, n, c, hk, hN⟩ := HS1
 have hl := hN.words HZR.out
 have hnul := hN.nul
 have HK := Lib.hid hk
 have HN := Lib.hid hN
 have c1 : w1.cell? ⟨g, 1, none⟩ = some (.int .u8 (b : Int)) := hk.cell 1
 have c2 : w1.cell? ⟨g, 2, none⟩ = some (.bool (decide (z < 0))) := hk.cell 2
 have c3 : w1.cell? ⟨g, 3, none⟩ = some (.slice a n c) := hk.cell 3
 have hg : g < w1.heap.size := hk.lt
 clear hv hb1 HV HS hk hN
 by_cases hk0 : k < 1
 ·have hkd : decide (k < 1) = true := decide_eq_true hk0
  have HK0 := Lib.hid hk0
  have HNA := Lib.hid (nan_any w1)
  clear hk0 hbig hnul hl
  go_wp2_with fail
  refine HNA.out.mono ?_; rintro e w2 ⟨rfl, rfl⟩
  go_wp2_with fail
  go_ret
  exact ⟨_, rfl, ⟨by decide, .inl ⟨HK0.out, by decide⟩⟩, HB1.out⟩
 ·have hkd : decide (k < 1) = false := decide_eq_false hk0
  have hk0 : 1 ≤ k := by omega
  have HK0 := Lib.hid hk0
  have hq2 : b % 8 < 256 := by omega
  obtain ⟨q, hq⟩ : ∃ q, b % 8 = q := ⟨_, rfl⟩
  rw [hq] at a7 hbig hq2
  have HQ8 := Lib.hid hq
  clear hq
  obtain ⟨kd, hkd2⟩ : ∃ kd, kindZ v = kd := ⟨_, rfl⟩
  rw [hkd2] at HKI hbig
  have hcase : (decide (2 ≤ kd) = true ∧ ((q : Int) != 0) = true ∧ q ≠ 0) ∨ (decide (2 ≤ kd) = true ∧ ((q : Int) != 0) = false ∧ q = 0) ∨ (decide (2 ≤ kd) = false ∧ q = 0) := by
   by_cases h2 : 2 ≤ kd
   ·by_cases h3 : q = 0
    ·right; left; exact ⟨decide_eq_true h2, by rw [h3]; rfl, h3⟩
    ·left; exact ⟨decide_eq_true h2, by simp; omega, h3⟩
   ·right; right; exact ⟨decide_eq_false h2, Decidable.byContradiction fun h3 => h2 (hbig h3)⟩
  clear hbig hkd2
  rcases hcase with ⟨d1, d2, hq0⟩ | hcase
  ·have HQ0 : Hid (b % 8 ≠ 0) := Lib.hid (by rw [HQ8.out]; exact hq0)
   clear hnul hl hq0 hk0
   go_wp2_with fail
   refine HKI.out.mono ?_; rintro e w2 ⟨rfl, rfl⟩
   go_wp2_with fail
   go_ret
   exact ⟨v, rfl, ⟨HVV.out.1, .inr (.inl ⟨HK0.out, .inl HQ0.out, HVV.out⟩)⟩, HB1.out⟩
  ·have HOF := Lib.hid (fun w => nof_any k w (by omega) (by omega))
   have HSH : Hid (∀ (w : World) (a5 : Option Addr) (n5 c5 : Nat), NatC w a5 n5 c5 k → Calls Tryz.prog 72 #[.slice a5 n5 c5, .int .i64 1074] w (RetNatB w ((k.toNat * 2 ^ K1074 : Nat) : Int))) := Lib.hid (fun w a5 n5 c5 h => by
    have e1 : k = ((k.toNat : Nat) : Int) := by omega
    have hs : n5 ≤ 64 := NatC.short (K := 64) (z := k.toNat) (by rw [← e1]; exact h) (by omega)
    obtain ⟨xs, x1, x2, -, x3⟩ := h
    obtain ⟨N, hN⟩ : ∃ N : Nat, N = K1074 := ⟨_, rfl⟩
    have hNi : ((N : Nat) : Int) = 1074 := by rw [hN]; rfl
    have h2 := nshl_yes a5 n5 c5 N xs w x1 x2 (by omega) (by omega)
    rw [x3, cast_shl (N := N) e1, hNi, hN] at h2
    exact h2)
   have HQU : Hid (∀ (w : World) (a5 : Option Addr) (n5 c5 : Nat), NatC w a n c ((z.natAbs : Nat) : Int) → NatC w a5 n5 c5 ((k.toNat * 2 ^ K1074 : Nat) : Int) → Calls Tryz.prog 42 #[.bool (decide (z < 0)), .slice a n c, .slice a5 n5 c5] w (RQuot (decide (z < 0)) z.natAbs (k.toNat * 2 ^ K1074) w)) := Lib.hid (fun w a5 n5 c5 h1 h2 => by
    have hq1 : k.toNat * 2 ^ K1074 < 2 ^ K2240 := Nat.lt_of_lt_of_le (shl_lt (K := 64) (M := K1074) (show k.toNat < 2 ^ 64 from by omega) (Nat.le_refl _)) (Nat.pow_le_pow_right (by decide) (by decide))
    have hs2 := h2.short hq1
    have hs1 := h1.short HZ.out
    have hK : K2240 ≤ 3000 := by decide
    obtain ⟨xs, x1, x2, -, x3⟩ := h1
    obtain ⟨ys, y1, y2, -, y3⟩ := h2
    exact fquot_any (decide (z < 0)) a a5 n c n5 c5 z.natAbs (k.toNat * 2 ^ K1074) K2240 xs ys w x1 y1 x2 y2 x3 y3 (by omega) (by omega) HZ.out hq1 hK)
   have hwk : IntKind.u64.wrap k = k := wrap_u64_any (by omega) hk2
   have hk0' : 0 ≤ k := by omega
   have hq0 : q = 0 := by rcases hcase with ⟨-, -, h⟩ | ⟨-, h⟩ <;> exact h
   have HQ0 : Hid (b % 8 = 0) := Lib.hid (by rw [HQ8.out]; exact hq0)
   subst hq0
   have hcase : (decide (2 ≤ kd) = true) ∨ (decide (2 ≤ kd) = false) := by rcases hcase with ⟨h, -⟩ | ⟨h, -⟩; exact .inl h; exact .inr h
   by_cases hz0 : z.natAbs = 0
   ·rw [hz0, decide_eq_true rfl] at hnul
    have Z0 : Hid (z = 0) := Lib.hid (by omega)
    clear hz0 hl hk0 hwk hk0'
    rcases hcase with d1 | d1
    all_goals
     go_wp2_with fail
     refine HKI.out.mono ?_; rintro e w2 ⟨rfl, rfl⟩
     go_wp2_with fail
     refine HI.out.mono ?_; rintro e w2 ⟨rfl, rfl⟩
     go_wp2_with fail
     go_ret
     exact ⟨v, rfl, ⟨HVV.out.1, .inr (.inl ⟨HK0.out, .inr Z0.out, HVV.out⟩)⟩, HB1.out⟩
   ·rw [decide_eq_false hz0] at hnul
    have Z0 : Hid (z ≠ 0) := Lib.hid (by intro h; apply hz0; rw [h]; rfl)
    have Z1 := Lib.hid hz0
    clear hz0 hl hk0
    rcases hcase with d1 | d1
    all_goals
     go_wp2_with fail
     refine HKI.out.mono ?_; rintro e w2 ⟨rfl, rfl⟩
     go_wp2_with fail
     refine HI.out.mono ?_; rintro e w2 ⟨rfl, rfl⟩
     go_wp2_with fail
     refine (HOF.out _).mono ?_; rintro e w4 ⟨a4, n4, c4, rfl, hN4, hb4, -⟩
     have HN4 := Lib.hid hN4
     have HB4 := Lib.hid (HB1.out.trans (hb4.mono HB1.out.size))
     have HK4 := Lib.hid (HK.out.below hb4 HK.out.lt)
     have HZ4 := Lib.hid (HN.out.below hb4 (Nat.le_refl _))
     clear hN4 hb4 c1 c2 c3 hg
     go_wp2_with fail
     refine (HSH.out _ _ _ _ HN4.out).mono ?_; rintro e w5 ⟨a5, n5, c5, rfl, hN5, hb5, -⟩
     have HM5 := Lib.hid hN5
     have HB5 := Lib.hid (HB4.out.trans (hb5.mono HB4.out.size))
     have HK5 := Lib.hid (HK4.out.below hb5 HK4.out.lt)
     have HN5 := Lib.hid (HZ4.out.below hb5 (Nat.le_refl _))
     clear hN5 hb5
     have c2 : w5.cell? ⟨g, 2, none⟩ = some (.bool (decide (z < 0))) := HK5.out.cell 2
     have c3 : w5.cell? ⟨g, 3, none⟩ = some (.slice a n c) := HK5.out.cell 3
     have hg : g < w5.heap.size := HK5.out.lt
     go_wp2_with fail
     have hk := HK5.out.drew
     have hB := HB5.out.drew
     refine wp_regionN (fun w' => w'.cell? ⟨g, 2, none⟩ = some (.bool (decide (z < 0))) ∧ w'.cell? ⟨g, 3, none⟩ = some (.slice a n c)) [] (by kernel_rfl) (by exact ⟨hk.cell 2, hk.cell 3⟩) (fun hHeld => ?_)
     refine wpAnyN_u 0 ⟨some 45, _, _, _, _, _⟩ _ rfl ?_
     try simp only [Act.put, putA, putB, putC]
     refine wpAnyN_u 1 ⟨some 46, _, _, _, _, _⟩ _ rfl ?_
     try simp only [Act.put, putA, putB, putC]
     refine wpAnyN_u 2 ⟨some 47, _, _, _, _, _⟩ _ rfl ?_
     try simp only [Act.put, putA, putB, putC]
     refine wpAnyN_u 3 ⟨some 48, _, _, _, _, _⟩ _ rfl ?_
     try simp only [Act.put, putA, putB, putC]
     refine wpAnyN_u 4 ⟨some 49, _, _, _, _, _⟩ _ rfl ?_
     try simp only [Act.put, putA, putB, putC]
     refine wpAnyN_u 5 ⟨some 50, _, _, _, _, _⟩ _ rfl ?_
     try simp only [Act.put, putA, putB, putC]
     refine wpAnyN_u 6 ⟨some 51, _, _, _, _, _⟩ _ rfl ?_
     try simp only [Act.put, putA, putB, putC]
     refine wpAnyN_u 7 ⟨some 52, _, _, _, _, _⟩ _ rfl ?_
     try simp only [Act.put, putA, putB, putC]
     refine wpAnyN_u 8 ⟨some 53, _, _, _, _, _⟩ _ rfl ?_
     try simp only [Act.put, putA, putB, putC]
     refine wpAnyN_one (i := 9) (o := ⟨some 54, _, _, _, _, _⟩) (by kernel_rfl) rfl (fun K hK => ?_)
     go_simp
     refine (HQU.out _ _ _ _ (HN5.out.below ((Below.refl _ _).drew) (Nat.le_refl _)) (HM5.out.below ((Below.refl _ _).drew) (Nat.le_refl _))).mono ?_
     rintro e w6 ⟨v6, rfl, hv6, hbb⟩
     have hk := hk.below hbb hk.lt
     have hB := hB.trans (hbb.mono hB.size)
     clear hbb
     refine hK.out _ _ (by exact ⟨hk.cell 2, hk.cell 3⟩) ?_
     clear hK K hHeld
     intro hHeld
     try simp only [Act.put, putA, putB, putC]
     refine wpAnyN_u 10 ⟨some 4, _, _, _, _, _⟩ _ rfl ?_
     try simp only [Act.put, putA, putB, putC]
     refine wpAnyN_end (by kernel_rfl) ?_
     go_wp2_with fail
     go_ret
     refine ⟨v6, rfl, ⟨hv6.1, .inr (.inr ⟨HK0.out, HQ0.out, Z0.out, ?_⟩)⟩, hB⟩
     have hkn : 0 < k.toNat := by have := HK0.out; omega
     rcases hv6.2 with ⟨h1, -⟩ | ⟨-, h2, -⟩ | ⟨h1, -⟩ | ⟨-, -, y, h3, h4⟩
     ·exact absurd h1 Z1.out
     ·exact absurd h2 (Nat.ne_of_gt (Nat.mul_pos hkn (Nat.two_pow_pos _)))
     ·exact absurd h1 Z1.out
     ·exact ⟨y, near_mean hkn (Nat.two_pow_pos _) h3, h4⟩
end Go.Proofs.YtehmompbmnejkaaGreat
/- The nearest number to a quotient, and to a root of one, keeps the order. No conditions. -/
namespace Go.Proofs.YtehmompbmnejkaaGreat
open Go.RowKit Ieee

theorem iv_dvd {r t : Nat} (h : t = 0 ∨ B52 * 2 ^ t ≤ iv r) : ∃ e, iv r = e * 2 ^ t := by
 rcases h with h | h
 ·subst h; exact ⟨iv r, by rw [Nat.pow_zero, Nat.mul_one]⟩
 ·have h1 : mg r * 2 ^ sh r < B52 * 2 ^ (sh r + 1) := by
   have h2 := mg_lt r
   have h3 : mg r * 2 ^ sh r < 2 * B52 * 2 ^ sh r := Nat.mul_lt_mul_of_pos_right h2 (Nat.two_pow_pos _)
   rw [Nat.pow_succ]
   have e : B52 * (2 ^ sh r * 2) = 2 * B52 * 2 ^ sh r := by ac_rfl
   omega
  have h2 : B52 * 2 ^ t < B52 * 2 ^ (sh r + 1) := Nat.lt_of_le_of_lt h h1
  have h3 := two_pow_lt (Nat.lt_of_mul_lt_mul_left h2)
  obtain ⟨d, hd⟩ : ∃ d, sh r = d + t := ⟨sh r - t, by omega⟩
  refine ⟨mg r * 2 ^ d, ?_⟩
  unfold iv
  rw [hd, Nat.pow_add, Nat.mul_assoc]
theorem b52_pow (t : Nat) : B52 * 2 ^ t = 2 ^ (t + 52) := by rw [Nat.add_comm, Nat.pow_add]
theorem near_le_of {N D y r : Nat} (h : IsNear N D y) (hr : N ≤ D * iv r) : y ≤ r := by
 obtain ⟨t, ht, rfl⟩ := h
 refine Nat.le_trans (Nat.min_le_left _ _) ?_
 have hdv : t = 0 ∨ B52 * 2 ^ t ≤ iv r := by
  rcases ht.lo with h | h
  ·exact .inl h
  ·right
   rw [b52_pow]
   exact Nat.le_of_mul_le_mul_left (Nat.le_trans h hr) ht.hD
 obtain ⟨e, he⟩ := iv_dvd hdv
 have hv : rne N (D * 2 ^ t) ≤ e := by
  refine rne_le (Nat.mul_pos ht.hD (Nat.two_pow_pos t)) ?_
  have e1 : e * (D * 2 ^ t) = D * iv r := by rw [he]; ac_rfl
  omega
 refine iv_le_of ?_
 rw [rung_of ht.rne_le (by
  rcases Nat.eq_zero_or_pos t with h | h
  ·exact .inl h
  ·exact .inr (ht.rne_ge (by omega))), he]
 exact Nat.mul_le_mul_right _ hv
theorem near_ge_of {N D y r : Nat} (h : IsNear N D y) (hr : D * iv r ≤ N) (hI : r ≤ INF) : r ≤ y := by
 obtain ⟨t, ht, rfl⟩ := h
 refine Nat.le_min.2 ⟨?_, hI⟩
 have hv2 : t = 0 ∨ B52 ≤ rne N (D * 2 ^ t) := by
  rcases Nat.eq_zero_or_pos t with h | h
  ·exact .inl h
  ·exact .inr (ht.rne_ge (by omega))
 refine iv_le_of ?_
 rw [rung_of ht.rne_le hv2]
 rcases Nat.lt_or_ge (iv r) (B52 * 2 ^ t) with h | h
 ·rcases hv2 with h1 | h1
  ·subst h1
   have : iv r ≤ rne N (D * 2 ^ 0) := by
    refine rne_ge (Nat.mul_pos ht.hD (Nat.two_pow_pos 0)) ?_
    rw [Nat.pow_zero, Nat.mul_one, Nat.mul_comm]
    exact hr
   rw [Nat.pow_zero, Nat.mul_one]
   rw [Nat.pow_zero] at this
   exact this
  ·exact Nat.le_trans (Nat.le_of_lt h) (Nat.mul_le_mul_right _ h1)
 ·obtain ⟨e, he⟩ := iv_dvd (.inr h)
  rw [he]
  refine Nat.mul_le_mul_right _ (rne_ge (Nat.mul_pos ht.hD (Nat.two_pow_pos t)) ?_)
  have e1 : e * (D * 2 ^ t) = D * iv r := by rw [he]; ac_rfl
  omega
end Go.Proofs.YtehmompbmnejkaaGreat
/- The mean of a sum against one finite number (plain). No conditions but those stated. -/
namespace Go.Proofs.YtehmompbmnejkaaGreat
open Go.RowKit Ieee

theorem near_sg {s k : Int} {y r : Nat} {A : Bool} (hk : 1 ≤ k) (h : IsNear s.natAbs k.toNat y) (hr : r ≤ INF) :
  (k * signU A (iv r) ≤ s → sg A r ≤ sg (decide (s < 0)) y) ∧ (s ≤ k * signU A (iv r) → sg (decide (s < 0)) y ≤ sg A r) := by
 have sgT : ∀ n : Nat, sg true n = -(n : Int) := fun _ => rfl
 have sgF : ∀ n : Nat, sg false n = (n : Int) := fun _ => rfl
 have hm : ((k.toNat * iv r : Nat) : Int) = k * (iv r : Int) := by rw [Int.natCast_mul, Int.toNat_of_nonneg (by omega)]
 have h0 : 0 ≤ k * (iv r : Int) := Int.mul_nonneg (by omega) (by omega)
 have hz : k * (iv r : Int) ≤ 0 → r = 0 := fun h1 => by
  refine iv_eq0 ?_
  rcases Nat.eq_zero_or_pos (iv r) with h2 | h2
  ·exact h2
  ·have := Int.mul_pos (show 0 < k by omega) (show (0 : Int) < (iv r : Int) by omega)
   omega
 cases A with
 | false =>
  rw [sgF, show signU false (iv r) = (iv r : Int) from rfl]
  rcases Int.lt_or_le s 0 with hs | hs
  ·rw [decide_eq_true hs, sgT]
   exact ⟨fun h1 => by omega, fun _ => by omega⟩
  ·rw [show decide (s < 0) = false from by simpa using hs, sgF]
   refine ⟨fun h1 => ?_, fun h1 => ?_⟩
   ·have := near_ge_of h (r := r) (by omega) hr
    omega
   ·have := near_le_of h (r := r) (by omega)
    omega
 | true =>
  rw [sgT, show signU true (iv r) = -(iv r : Int) from rfl, Int.mul_neg]
  rcases Int.lt_or_le s 0 with hs | hs
  ·rw [decide_eq_true hs, sgT]
   refine ⟨fun h1 => ?_, fun h1 => ?_⟩
   ·have := near_le_of h (r := r) (by omega)
    omega
   ·have := near_ge_of h (r := r) (by omega) hr
    omega
  ·rw [show decide (s < 0) = false from by simpa using hs, sgF]
   refine ⟨fun _ => by omega, fun h1 => ?_⟩
   have e1 : s.natAbs = 0 := by omega
   have e2 := near_nul h e1
   have e3 := hz (by omega)
   omega
/-- the mean of a sum against one number that is finite -/
theorem meanS_vs {b v x : Nat} {z k : Int} (hk : 1 ≤ k) (hb : b % 8 = 0) (hz : IsMeanS b z k v) (hx : x % S63 ≤ INF) :
  v % S63 ≤ INF ∧ (k * unitsOf x ≤ z → sk x ≤ sk v) ∧ (z ≤ k * unitsOf x → sk v ≤ sk x) := by
 obtain ⟨hv, h⟩ := hz
 have key : ∀ y, IsNear z.natAbs k.toNat y → v % S63 ≤ INF → sk v = sg (decide (z < 0)) y → v % S63 ≤ INF ∧ (k * unitsOf x ≤ z → sk x ≤ sk v) ∧ (z ≤ k * unitsOf x → sk v ≤ sk x) := by
  intro y hy h1 h2
  rw [h2]
  exact ⟨h1, near_sg (A := decide (S63 ≤ x)) hk hy hx⟩
 rcases h with ⟨h1, -⟩ | ⟨-, h2, -, h3⟩ | ⟨-, -, -, y, h4, h5⟩
 ·omega
 ·obtain rfl : z = 0 := by omega
  have hn : IsNear (0 : Int).natAbs k.toNat 0 := near_nought (by omega)
  rcases h3 with ⟨h4, -⟩ | ⟨-, h4, -⟩ | ⟨-, -, h4, -⟩ | ⟨-, -, -, h4⟩
  ·omega
  ·omega
  ·omega
  ·refine key 0 hn ?_ ?_ <;> rw [h4] <;> cases (decide ((0 : Int) < 0) || decide (b = 8)) <;> decide
 ·obtain ⟨u1, u2⟩ := sk_sgnB (neg := decide (z < 0)) h4.le
  rw [← h5] at u1 u2
  exact key y h4 (by rw [u2]; exact h4.le) u1
end Go.Proofs.YtehmompbmnejkaaGreat
