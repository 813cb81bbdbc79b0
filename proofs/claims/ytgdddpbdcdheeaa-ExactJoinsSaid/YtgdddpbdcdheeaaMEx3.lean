/- The chapter's examples of ratio: bushellaw04.awake. No conditions. -/
import Derived.Test.YtgdddpbdcdheeaaMRat2
import Derived.Test.YtgdddpbdcdheeaaMEx2
namespace Go.Proofs.Ytgdddpbdcdheeaa
open Go.RowKit Ieee

theorem near_ex {p q t k K : Nat} (hK : K = t + k) (hq : 0 < q) (h1 : p * 2 ^ k < q * 9007199254740992) (h2 : t = 0 ∨ q * 4503599627370496 ≤ p * 2 ^ k) : IsNear (p * 2 ^ K) q (min (t * B52 + rne (p * 2 ^ k) q) INF) := by
  have e1 : p * 2 ^ K = p * 2 ^ k * 2 ^ t := by rw [hK, Nat.pow_add]; ac_rfl
  refine ⟨t, ⟨hq, ?_, ?_⟩, ?_⟩
  · rw [e1, Nat.add_comm t, Nat.pow_add 2 53, ← Nat.mul_assoc]
    exact Nat.mul_lt_mul_of_pos_right h1 (Nat.two_pow_pos t)
  · rcases h2 with h2 | h2
    · exact .inl h2
    · right
      rw [e1, Nat.add_comm t, Nat.pow_add 2 52, ← Nat.mul_assoc]
      exact Nat.mul_le_mul_right _ h2
  · rw [e1, rne_scale (Nat.two_pow_pos t)]
/-- a root that comes out -/
theorem root_ex {r q t k K : Nat} (hK : K = t + k) (hq : 0 < q) (h1 : r * 2 ^ k < 9007199254740992) (h2 : t = 0 ∨ 4503599627370496 ≤ r * 2 ^ k) : IsRoot (r * r * q * (2 ^ K * 2 ^ K)) q (min (t * B52 + r * 2 ^ k) INF) := by
  have e1 : r * r * q * (2 ^ K * 2 ^ K) = q * (r * 2 ^ k * 2 ^ t * (r * 2 ^ k * 2 ^ t)) := by rw [hK, Nat.pow_add]; ac_rfl
  have hpt := Nat.two_pow_pos t
  rw [e1]
  generalize r * 2 ^ k = m at *
  have hup : upR (q * (m * 2 ^ t * (m * 2 ^ t))) q t m = false := by
    unfold upR
    have e2 : 4 * (q * (m * 2 ^ t * (m * 2 ^ t))) = q * (2 * m * 2 ^ t * (2 * m * 2 ^ t)) := by
      rw [show (4 : Nat) = 2 * 2 from rfl]; ac_rfl
    have h3 : 2 * m * 2 ^ t * (2 * m * 2 ^ t) < (2 * m + 1) * 2 ^ t * ((2 * m + 1) * 2 ^ t) := sq_lt.2 (Nat.mul_lt_mul_of_pos_right (by omega) hpt)
    have h4 := Nat.mul_lt_mul_of_pos_left h3 hq
    rw [e2, show decide (q * ((2 * m + 1) * 2 ^ t * ((2 * m + 1) * 2 ^ t)) < q * (2 * m * 2 ^ t * (2 * m * 2 ^ t))) = false from by simp only [decide_eq_false_iff_not]; omega,
      show decide (q * ((2 * m + 1) * 2 ^ t * ((2 * m + 1) * 2 ^ t)) = q * (2 * m * 2 ^ t * (2 * m * 2 ^ t))) = false from by simp only [decide_eq_false_iff_not]; omega]
    rfl
  refine ⟨t, m, ⟨hq, ?_, ?_⟩, Nat.le_refl _, ?_, ?_⟩
  · refine Nat.mul_lt_mul_of_pos_left (sq_lt.2 ?_) hq
    rw [Nat.add_comm t, Nat.pow_add 2 53]
    exact Nat.mul_lt_mul_of_pos_right h1 hpt
  · rcases h2 with h2 | h2
    · exact .inl h2
    · right
      refine Nat.mul_le_mul_left _ (sq_le.2 ?_)
      rw [Nat.add_comm t, Nat.pow_add 2 52]
      exact Nat.mul_le_mul_right _ h2
  · exact Nat.mul_lt_mul_of_pos_left (sq_lt.2 (Nat.mul_lt_mul_of_pos_right (by omega) hpt)) hq
  · rw [hup]; rfl
theorem third {z : Nat} (h : IsQuot false 1 3 z) : z = 4599676419421066581 := by
  obtain ⟨-, h⟩ := h
  rcases h with ⟨h1, -, -⟩ | ⟨-, h1, -⟩ | ⟨h1, -, -⟩ | ⟨-, -, y, h3, h4⟩
  · omega
  · omega
  · omega
  · rw [sgnW_no] at h4
    rw [h4, h3.one (near_ex (t := 1020) (k := 54) (by decide) (by decide) (by decide) (.inr (by decide)))]
    decide
theorem half3 {z : Nat} (h : IsMean (-3) 2 z) : z = 13832806255468478464 := by
  rcases h with ⟨h1, -, -⟩ | ⟨-, -, h⟩
  · omega
  · rcases h with ⟨h1, -, -⟩ | ⟨-, h1, -⟩ | ⟨h1, -, -⟩ | ⟨-, -, y, h3, h4⟩
    · exact absurd h1 (by decide)
    · exact absurd h1 (by decide)
    · exact absurd h1 (by decide)
    · rw [show ((-3 : Int)).natAbs = 3 from rfl, show ((2 : Int)).natAbs = 2 from rfl] at h3
      rw [h4, IsNear.one (D := 2) (N := 3 * 2 ^ K1074) h3 (near_ex (t := 1022) (k := 52) (by decide) (by decide) (by decide) (.inr (by decide)))]
      decide
theorem mean00 {z : Nat} (h : IsMean 0 0 z) : kindZ z = 3 := by
  rcases h with ⟨-, h1, -⟩ | ⟨-, -, h⟩
  · exact absurd rfl h1
  · rcases h with ⟨-, -, h1⟩ | ⟨h1, -, -⟩ | ⟨-, h1, -⟩ | ⟨h1, -, -⟩
    · exact kind3.2 h1
    · exact absurd rfl h1
    · exact absurd rfl h1
    · exact absurd rfl h1
theorem dev1 {z : Nat} (h : IsDev 2 4 10 z) : z = 4607182418800017408 := by
  obtain ⟨-, h⟩ := h
  rcases h with ⟨h1, -⟩ | ⟨-, -, -, h⟩
  · rcases h1 with h1 | h1 <;> exact absurd h1 (by decide)
  · rcases h with ⟨h1, -, -⟩ | ⟨-, h1, -⟩ | ⟨h1, -, -⟩ | ⟨-, -, h3⟩
    · exact absurd h1 (by decide)
    · exact absurd h1 (by decide)
    · exact absurd h1 (by decide)
    · rw [show ((2 : Int) * ((10 : Nat) : Int) - 4 * 4).toNat = 1 * 1 * 4 from by decide, show ((2 : Int)).toNat * ((2 : Int)).toNat = 4 from by decide] at h3
      rw [IsRoot.one (D := 4) (N := 1 * 1 * 4 * (2 ^ K1074 * 2 ^ K1074)) h3 (root_ex (t := 1022) (k := 52) (by decide) (by decide) (by decide) (.inr (by decide)))]
      decide
theorem dig_1 {x : Int} (h0 : 0 ≤ x) (h1 : x < 4294967296) : Dig 4294967296 [x] := by
  intro d hd
  simp at hd
  omega

set_option maxHeartbeats 4000000 in
theorem awake_rat (w : World) : Calls Try.prog 26 #[] w fun e w' => e = .returned (.bool true) ∧ Below w.heap.size w w' := by
  have hq0 : floatBits .quo .f64 4607182418800017408 4613937818241073152 = some 4599676419421066581 := by decide
  have hq := fun w => run_float_arith (P := Try.prog) w .quo 33 .f64 _ _ _ hq0
  have ho1 : FloatKind.f64.format.order 4599676419421066581 4599676419421066581 = some .eq := by decide
  have ho2 : FloatKind.f64.format.order 4607182418800017408 4607182418800017408 = some .eq := by decide
  have ho3 : FloatKind.f64.format.order 13832806255468478464 13832806255468478464 = some .eq := by decide
  have HM1 := Lib.hid (fun w => fmean_any (-3) 2 w (by decide) (by decide) (by decide) (by decide))
  have HM0 := Lib.hid (fun w => fmean_any 0 0 w (by decide) (by decide) (by decide) (by decide))
  clear hq0
  go_enter Try.func26, Try.ntmps26
  go_wp2_with fail
  have a1 : Arr .u32 87 (w.alloc (.cells #[.int .u32 1] 87)) w.heap.size [1] := Arr.new [1] rfl rfl
  have hb1 : Below w.heap.size w (w.alloc (.cells #[.int .u32 1] 87)) := (Below.refl _ _).alloc (Nat.le_refl _) _
  have a2 : Arr .u32 87 ((w.alloc (.cells #[.int .u32 1] 87)).alloc (.cells #[.int .u32 3] 87)) (w.heap.size + 1) [3] := Arr.new [3] rfl (by simp)
  have hb2 : Below w.heap.size w ((w.alloc (.cells #[.int .u32 1] 87)).alloc (.cells #[.int .u32 3] 87)) := hb1.alloc (by simp) _
  have a1' : Arr .u32 87 ((w.alloc (.cells #[.int .u32 1] 87)).alloc (.cells #[.int .u32 3] 87)) w.heap.size [1] := a1.below ((Below.refl _ _).alloc (Nat.le_refl _) _) (by simp)
  have HQ := Lib.hid (fquot_any false _ _ 1 1 1 1 1 3 2 [1] [3] _ (a1'.full (by decide)) (a2.full (by decide)) (dig_1 (by decide) (by decide)) (dig_1 (by decide) (by decide)) (by decide) (by decide) (by decide) (by decide) (by decide) (by decide) (by decide))
  have HB2 := Lib.hid hb2
  clear a1 a2 a1' hb1 hb2
  generalize ((w.alloc (.cells #[.int .u32 1] 87)).alloc (.cells #[.int .u32 3] 87)) = w2 at *
  refine HQ.out.mono ?_; rintro x w3 ⟨z, rfl, hz, hb3⟩
  obtain rfl := third hz
  have HB3 := Lib.hid (HB2.out.trans (hb3.mono HB2.out.size))
  clear hz hb3
  go_wp2_with fail
  have a1 : Arr .u32 87 (w3.alloc (.cells #[.int .u32 10] 87)) w3.heap.size [10] := Arr.new [10] rfl rfl
  have hb4 : Below w3.heap.size w3 (w3.alloc (.cells #[.int .u32 10] 87)) := (Below.refl _ _).alloc (Nat.le_refl _) _
  have HD := Lib.hid (fdev_any 2 4 _ 1 1 10 4 [10] _ (a1.full (by decide)) (dig_1 (by decide) (by decide)) (by decide) (by decide) (by decide) (by decide) (by decide) (by decide) (by decide) (by decide))
  have HB4 := Lib.hid (HB3.out.trans (hb4.mono HB3.out.size))
  clear a1 hb4
  generalize w3.alloc (.cells #[.int .u32 10] 87) = w4 at *
  refine HD.out.mono ?_; rintro x w5 ⟨z, rfl, hz, hb5⟩
  obtain rfl := dev1 hz
  have HB5 := Lib.hid (HB4.out.trans (hb5.mono HB4.out.size))
  clear hz hb5
  go_wp2_with fail
  refine (HM1.out _).mono ?_; rintro x w6 ⟨z, rfl, hz, hb6⟩
  obtain rfl := half3 hz
  have HB6 := Lib.hid (HB5.out.trans (hb6.mono HB5.out.size))
  clear hz hb6
  go_wp2_with fail
  refine (HM0.out _).mono ?_; rintro x w7 ⟨z, rfl, hz, hb7⟩
  have HK := Lib.hid (fun w => rkind_any z w hz.lt)
  rw [mean00 hz] at HK
  have HB7 := Lib.hid (HB6.out.trans (hb7.mono HB6.out.size))
  clear hz hb7
  go_wp2_with fail
  refine (HK.out _).mono ?_; rintro x w8 ⟨rfl, hb8⟩
  have HB8 := Lib.hid (HB7.out.trans (hb8.mono HB7.out.size))
  clear hb8
  go_wp2_with fail
  go_ret
  exact ⟨rfl, HB8.out⟩
end Go.Proofs.Ytgdddpbdcdheeaa
/- Contract of package exact's Total; the chapter's examples. No conditions. -/
namespace Go.Proofs.Ytgdddpbdcdheeaa
open Go.RowKit Ieee

/-- a slice of floats that holds the words zs -/
def FRow (w : World) (a : Option Addr) (n c : Nat) (zs : List Nat) : Prop :=
  zs.length = n ∧ n ≤ c ∧ c ≤ maxLen ∧ (n = 0 ∨ ∃ b off, a = some ⟨b, off, none⟩ ∧ b < w.heap.size ∧ ∀ i, i < n → w.cell? ⟨b, off + i, none⟩ = some (.float .f64 (zs.getD i 0)))
theorem FRow.below {w w' : World} {a : Option Addr} {n c B : Nat} {zs : List Nat} (h : FRow w a n c zs) (hb : Below B w w') (hB : w.heap.size ≤ B) : FRow w' a n c zs := by
  obtain ⟨h1, h2, h3, h4⟩ := h
  refine ⟨h1, h2, h3, ?_⟩
  rcases h4 with h4 | ⟨b, off, e, hlt, hc⟩
  · exact .inl h4
  · exact .inr ⟨b, off, e, by have := hb.size; omega, fun i hi => by rw [(bcell hb).1 _ _ (by omega)]; exact hc i hi⟩
theorem FRow.but {w w' : World} {a : Option Addr} {n c g b l q : Nat} {neg : Bool} {A : Option Addr} {zs : List Nat} {t : TypeId} (h : FRow w a n c zs) (hk : Blk w g t (sumCells b neg A l q)) (hb : But g w w') : FRow w' a n c zs := by
  obtain ⟨h1, h2, h3, h4⟩ := h
  refine ⟨h1, h2, h3, ?_⟩
  rcases h4 with h4 | ⟨bb, off, rfl, hlt, hc⟩
  · exact .inl h4
  · refine .inr ⟨bb, off, rfl, Nat.lt_of_lt_of_le hlt hb.size, fun i hi => ?_⟩
    by_cases hg : bb = g
    · subst hg
      have h5 := hc i hi
      rw [hk.cell] at h5
      have h6 : off + i = 0 ∨ off + i = 1 ∨ off + i = 2 ∨ off + i = 3 ∨ 4 ≤ off + i := by omega
      rcases h6 with h6 | h6 | h6 | h6 | h6
      · rw [h6] at h5; cases h5
      · rw [h6] at h5; cases h5
      · rw [h6] at h5; cases h5
      · rw [h6] at h5; cases h5
      · rw [Array.getElem?_eq_none (by simp [sumCells]; omega)] at h5; cases h5
    · rw [hb.cell hlt hg]
      exact hc i hi
theorem FRow.sum {w w' : World} {a : Option Addr} {n c g b : Nat} {z : Int} {zs : List Nat} (h : FRow w a n c zs) (hs : SumAt w g b z) (hb : But g w w') : FRow w' a n c zs := by
  obtain ⟨a', n', c', hk, -⟩ := hs
  exact h.but hk hb
/-- one number more -/
def stepS (s : Nat × Int) (x : Nat) : Nat × Int := (addF s.1 s.2 x, addZ s.2 x)
def foldS (zs : List Nat) : Nat × Int := zs.foldl stepS (0, 0)
def Okay (s : Nat × Int) : Prop := s.1 < 32 ∧ s.2.natAbs < ROOM
theorem room_pos : 0 < ROOM := by rw [room_eq]; exact Nat.two_pow_pos _
theorem okay0 : Okay (0, 0) := ⟨by decide, room_pos⟩
theorem addF_lt {b x : Nat} {z : Int} (h : b < 32) : addF b z x < 32 := by
  have h1 : ∀ k, k < 2 ^ 5 → b ||| k < 2 ^ 5 := fun k hk => Nat.or_lt_two_pow h hk
  unfold addF
  split
  · exact h1 1 (by decide)
  · split
    · split
      · exact h1 4 (by decide)
      · exact h1 2 (by decide)
    · split
      · split
        · exact h1 8 (by decide)
        · exact h1 16 (by decide)
      · split
        · exact h1 16 (by decide)
        · exact h
theorem putZ_lt {z y : Int} (h : z.natAbs < ROOM) : (putZ z y).natAbs < ROOM := by
  unfold putZ
  split
  · assumption
  · exact h
theorem Okay.step {s : Nat × Int} (h : Okay s) (x : Nat) : Okay (stepS s x) := by
  refine ⟨addF_lt h.1, ?_⟩
  show (addZ s.2 x).natAbs < ROOM
  unfold addZ
  split
  · exact putZ_lt h.2
  · exact h.2
theorem Okay.fold : ∀ (zs : List Nat) (s : Nat × Int), Okay s → Okay (zs.foldl stepS s)
  | [], _, h => h
  | x :: zs, _, h => Okay.fold zs _ (h.step x)
theorem foldS_take {zs : List Nat} {k : Nat} (h : k < zs.length) : foldS (zs.take (k + 1)) = stepS (foldS (zs.take k)) (zs.getD k 0) := by
  unfold foldS
  rw [List.take_succ_eq_append_getElem h, List.foldl_append]
  simp [h]

set_option maxRecDepth 100000 in
set_option maxHeartbeats 4000000 in
theorem total_any (w : World) (a : Option Addr) (n c : Nat) (zs : List Nat) (hr : FRow w a n c zs) (hw : ∀ x ∈ zs, x < 18446744073709551616) :
    Calls Try.prog 18 #[.slice a n c] w (RVal (foldS zs).1 (foldS zs).2 w) := by
  have hn : n ≤ 9223372036854775807 := by have := hr.2.1; have := hr.2.2.1; unfold maxLen at this; omega
  have HW := Lib.hid hw
  have HLEN := Lib.hid hr.1
  have HR := Lib.hid hr
  clear hw hr
  go_enter Try.func18, Try.ntmps18
  go_wp2_with fail
  refine (sumnew_any w).mono ?_; rintro e w1 ⟨rfl, hs, hb1⟩
  have HS1 := Lib.hid hs
  have HB1 := Lib.hid hb1
  have HR1 := Lib.hid (HR.out.below hb1 (Nat.le_refl _))
  clear hs hb1
  go_wp2_with fail
  go_loopg [9] n (fun gg i wr => ∃ k : Nat, i = .int .i64 (k : Int) ∧ k + gg = n ∧ SumAt wr w.heap.size (foldS (zs.take k)).1 (foldS (zs.take k)).2 ∧ FRow wr a n c zs ∧ Below w.heap.size w wr)
  case atStart => exact ⟨0, rfl, by omega, HS1.out, HR1.out, HB1.out⟩
  case round =>
    obtain ⟨k, rfl, hk, hs, hr, hb⟩ := hrel
    have HS := Lib.hid hs
    have HB := Lib.hid hb
    have HRR := Lib.hid hr
    have hok : Okay (foldS (zs.take k)) := Okay.fold _ _ okay0
    by_cases hlt : k < n
    · obtain ⟨-, hcap, -, hcell⟩ := hr
      rcases hcell with h0 | ⟨ba, oa, rfl, hba, hcell⟩
      · omega
      have cx := hcell k hlt
      have hlk : k < zs.length := by have := HLEN.out; omega
      obtain ⟨x, hx⟩ : ∃ x, zs.getD k 0 = x := ⟨_, rfl⟩
      have hxw : x < 18446744073709551616 := by
        rw [← hx]
        exact HW.out _ (by simp [hlk])
      rw [hx] at cx
      have hft := foldS_take hlk
      rw [hx] at hft
      have HFT := Lib.hid hft
      have HADD := Lib.hid (sumadd_any wr w.heap.size _ _ x hs hok.2 hok.1 hxw)
      have hki : (k : Int) < (n : Int) := by omega
      have hkd : decide (k < n) = true := by simpa using hlt
      have HK := Lib.hid hk
      have hg1 : 1 ≤ gk := by omega
      clear hs hb hcell hx hft hok hk hlk hxw
      go_wp2_with fail
      refine HADD.out.mono ?_; rintro e w2 ⟨rfl, hs2, hb2⟩
      have HS2 := Lib.hid hs2
      have HBT := Lib.hid hb2
      clear hs2 hb2
      go_wp2_with fail
      go_roundg (gk - 1)
      case measure => omega
      case rel => exact ⟨k + 1, by go_num, by have := HK.out; omega, by rw [HFT.out]; exact HS2.out, HRR.out.sum HS.out HBT.out, HB.out.trans (HBT.out.below (Nat.le_refl _) HB.out.size)⟩
    · have hkn : k = n := by omega
      have hkd : decide (k < n) = false := by simpa using hlt
      have htk : zs.take k = zs := List.take_of_length_le (by have := HLEN.out; omega)
      rw [htk] at hs hok
      have HV := Lib.hid (sumval_any wr w.heap.size _ _ hs hok.2 hok.1)
      clear hs hb hr hok htk hkn hk hlt HS
      go_wp2_with fail
      refine HV.out.mono ?_; rintro e w2 ⟨v, rfl, hv, hb2⟩
      have HB2 := Lib.hid (HB.out.trans (hb2.mono HB.out.size))
      have HVV := Lib.hid hv
      clear hv hb2
      go_wp2_with fail
      go_ret
      exact ⟨v, rfl, HVV.out, HB2.out⟩
end Go.Proofs.Ytgdddpbdcdheeaa
/- Sums of at most 100 numbers hang on no order. No conditions. -/
namespace Go.Proofs.Ytgdddpbdcdheeaa
open Go.RowKit Ieee

def flagOf (x : Nat) : Nat := if kindZ x = 3 then 1 else if kindZ x = 2 then (if S63 ≤ x then 4 else 2) else if kindZ x = 0 then (if S63 ≤ x then 8 else 16) else 16
def uniOf (x : Nat) : Int := if kindZ x = 1 then unitsOf x else 0
def orF : List Nat → Nat
  | [] => 0
  | x :: zs => flagOf x ||| orF zs
def sumU : List Nat → Int
  | [] => 0
  | x :: zs => uniOf x + sumU zs
theorem orF_append : ∀ (xs ys : List Nat), orF (xs ++ ys) = orF xs ||| orF ys
  | [], ys => by rw [List.nil_append]; exact (Nat.zero_or _).symm
  | x :: xs, ys => by
    show flagOf x ||| orF (xs ++ ys) = flagOf x ||| orF xs ||| orF ys
    rw [orF_append xs ys, Nat.or_assoc]
theorem sumU_append : ∀ (xs ys : List Nat), sumU (xs ++ ys) = sumU xs + sumU ys
  | [], ys => by rw [List.nil_append]; exact (Int.zero_add _).symm
  | x :: xs, ys => by
    show uniOf x + sumU (xs ++ ys) = uniOf x + sumU xs + sumU ys
    rw [sumU_append xs ys, Int.add_assoc]
theorem orF_rev : ∀ (xs : List Nat), orF xs.reverse = orF xs
  | [] => rfl
  | x :: xs => by
    rw [List.reverse_cons, orF_append, orF_rev xs]
    show orF xs ||| (flagOf x ||| 0) = flagOf x ||| orF xs
    rw [Nat.or_zero, Nat.or_comm]
theorem sumU_rev : ∀ (xs : List Nat), sumU xs.reverse = sumU xs
  | [] => rfl
  | x :: xs => by
    rw [List.reverse_cons, sumU_append, sumU_rev xs]
    show sumU xs + (uniOf x + 0) = uniOf x + sumU xs
    omega
def TOP : Nat := iv INF
theorem uni_le (x : Nat) : (uniOf x).natAbs ≤ TOP := by
  unfold uniOf
  split
  · rename_i h
    obtain ⟨-, h2⟩ := kind1.1 h
    have := iv_lt h2
    unfold unitsOf signU TOP
    split <;> omega
  · exact Nat.zero_le _
theorem sumU_le : ∀ (xs : List Nat), (sumU xs).natAbs ≤ xs.length * TOP
  | [] => Nat.zero_le _
  | x :: xs => by
    have h1 := sumU_le xs
    have h2 := uni_le x
    show (uniOf x + sumU xs).natAbs ≤ (xs.length + 1) * TOP
    rw [Nat.add_mul, Nat.one_mul]
    omega
theorem top_room {n : Nat} (h : n ≤ 128) : n * TOP < ROOM := by
  unfold TOP
  rw [iv_inf, room_eq]
  obtain ⟨k, hk⟩ : ∃ k, k = K2046 := ⟨_, rfl⟩
  obtain ⟨l, hl⟩ : ∃ l, l = K2240 := ⟨_, rfl⟩
  rw [← hk, ← hl]
  have h1 : n * (B52 * 2 ^ k) ≤ 2 ^ 7 * (2 ^ 52 * 2 ^ k) := Nat.mul_le_mul h (Nat.le_refl _)
  rw [← Nat.pow_add, ← Nat.pow_add] at h1
  refine Nat.lt_of_le_of_lt h1 (Nat.pow_lt_pow_right (by decide) ?_)
  rw [hk, hl]; decide
theorem sumU_room {xs : List Nat} (h : xs.length ≤ 128) : (sumU xs).natAbs < ROOM := Nat.lt_of_le_of_lt (sumU_le xs) (top_room h)
theorem step_free {b x : Nat} {z : Int} (h : (z + uniOf x).natAbs < ROOM) : stepS (b, z) x = (b ||| flagOf x, z + uniOf x) := by
  rcases kind_cases x with hk | ⟨hk, -⟩ | ⟨hk, -⟩ | hk
  · unfold stepS addF addZ uniOf flagOf
    simp only [hk]
    simp
  · unfold stepS addF addZ uniOf flagOf
    simp only [hk]
    simp
  · unfold stepS addF addZ uniOf flagOf
    simp only [hk]
    simp
  · have e : uniOf x = unitsOf x := by unfold uniOf; rw [if_pos hk]
    rw [e] at h ⊢
    have hf : flagOf x = 16 := by unfold flagOf; simp only [hk]; simp
    rw [hf]
    unfold stepS addF addZ addOk putZ
    simp only [hk]
    rw [if_pos h, decide_eq_true h]
    rfl
theorem fold_from : ∀ (zs pre : List Nat), pre.length + zs.length ≤ 128 → zs.foldl stepS (orF pre, sumU pre) = (orF (pre ++ zs), sumU (pre ++ zs))
  | [], pre, _ => by rw [List.append_nil]; rfl
  | x :: zs, pre, h => by
    have h1 : sumU (pre ++ [x]) = sumU pre + uniOf x := by
      rw [sumU_append]
      show sumU pre + (uniOf x + 0) = _
      omega
    have h2 : orF (pre ++ [x]) = orF pre ||| flagOf x := by
      rw [orF_append]
      show orF pre ||| (flagOf x ||| 0) = _
      rw [Nat.or_zero]
    rw [List.foldl_cons, step_free (by rw [← h1]; exact sumU_room (by simp at h ⊢; omega)), ← h1, ← h2, fold_from zs (pre ++ [x]) (by simp at h ⊢; omega), List.append_assoc]
    rfl
theorem foldS_eq {zs : List Nat} (h : zs.length ≤ 128) : foldS zs = (orF zs, sumU zs) := by
  have := fold_from zs [] (by simpa using h)
  exact this
theorem foldS_rev {zs : List Nat} (h : zs.length ≤ 128) : foldS zs.reverse = foldS zs := by
  rw [foldS_eq (by simpa using h), foldS_eq h, orF_rev, sumU_rev]
theorem foldS_cut {zs : List Nat} (h : zs.length ≤ 128) (k : Nat) : (((foldS (zs.drop k)).2 + (foldS (zs.take k)).2).natAbs < ROOM) ∧ (foldS (zs.drop k)).1 ||| (foldS (zs.take k)).1 = (foldS zs).1 ∧ (foldS (zs.drop k)).2 + (foldS (zs.take k)).2 = (foldS zs).2 := by
  have hd : (zs.drop k).length ≤ 128 := by rw [List.length_drop]; omega
  have ht : (zs.take k).length ≤ 128 := by rw [List.length_take]; omega
  rw [foldS_eq hd, foldS_eq ht, foldS_eq h]
  have h1 : orF (zs.take k) ||| orF (zs.drop k) = orF zs := by rw [← orF_append, List.take_append_drop]
  have h2 : sumU (zs.take k) + sumU (zs.drop k) = sumU zs := by rw [← sumU_append, List.take_append_drop]
  refine ⟨?_, ?_, ?_⟩
  · show (sumU (zs.drop k) + sumU (zs.take k)).natAbs < ROOM
    rw [Int.add_comm, h2]
    exact sumU_room h
  · show orF (zs.drop k) ||| orF (zs.take k) = orF zs
    rw [Nat.or_comm]; exact h1
  · show sumU (zs.drop k) + sumU (zs.take k) = sumU zs
    rw [Int.add_comm]; exact h2
theorem foldS_snoc (zs : List Nat) (x : Nat) : foldS (zs ++ [x]) = stepS (foldS zs) x := by
  unfold foldS
  rw [List.foldl_append]
  rfl
end Go.Proofs.Ytgdddpbdcdheeaa
/- What package bushelref05's sums are as values; contract of its Value. Conditions: below 2^2240 units; units come with their flag. -/
namespace Go.Proofs.Ytgdddpbdcdheeaa
open Go.RowKit Ieee

def fN (b : Nat) : Bool := decide (b % 2 = 1)
def fU (b : Nat) : Bool := decide (b / 2 % 2 = 1)
def fD (b : Nat) : Bool := decide (b / 4 % 2 = 1)
def fM (b : Nat) : Bool := decide (b / 8 % 2 = 1)
def fP (b : Nat) : Bool := decide (b / 16 % 2 = 1)
/-- a sum's cells in the reference -/
def rsCells (b : Nat) (ng : Bool) (a : Option Addr) (l c : Nat) : Array Value := #[.bool (fN b), .bool (fU b), .bool (fD b), .bool (fM b), .bool (fP b), .bool ng, .slice a l c]
/-- units come with their flag -/
def Plus (b : Nat) (z : Int) : Prop := z ≠ 0 → 16 ≤ b
theorem Plus.step {s : Nat × Int} (h : Plus s.1 s.2) (x : Nat) : Plus (stepS s x).1 (stepS s x).2 := by
  intro hz
  have hor : ∀ k, s.1 ≤ s.1 ||| k := fun k => Nat.left_le_or
  have hor16 : 16 ≤ s.1 ||| 16 := Nat.right_le_or
  show 16 ≤ addF s.1 s.2 x
  have hz' : addZ s.2 x ≠ 0 := hz
  unfold addF
  unfold addZ at hz'
  by_cases k3 : kindZ x = 3
  · rw [if_pos k3]; rw [if_neg (by omega)] at hz'; exact Nat.le_trans (h hz') (hor 1)
  · rw [if_neg k3]
    by_cases k2 : kindZ x = 2
    · rw [if_pos k2]; rw [if_neg (by omega)] at hz'; exact Nat.le_trans (h hz') (hor _)
    · rw [if_neg k2]
      by_cases k0 : kindZ x = 0
      · rw [if_pos k0]; rw [if_neg (by omega)] at hz'; exact Nat.le_trans (h hz') (hor _)
      · rw [if_neg k0]
        by_cases hk : addOk s.2 x = true
        · rw [if_pos hk]; exact hor16
        · rw [if_neg hk]
          have k1 : kindZ x = 1 := by
            rcases kind_cases x with h1 | ⟨h1, -⟩ | ⟨h1, -⟩ | h1
            · exact absurd h1 k3
            · exact absurd h1 k2
            · exact absurd h1 k0
            · exact h1
          rw [if_pos k1] at hz'
          refine h ?_
          unfold putZ at hz'
          have hok : ¬ (s.2 + unitsOf x).natAbs < ROOM := by
            intro hlt
            apply hk
            unfold addOk
            rw [decide_eq_true hlt, Bool.or_true]
          rw [if_neg hok] at hz'
          exact hz'
theorem Plus.fold : ∀ (zs : List Nat) (s : Nat × Int), Plus s.1 s.2 → Plus (zs.foldl stepS s).1 (zs.foldl stepS s).2
  | [], _, h => h
  | x :: zs, _, h => Plus.fold zs _ (h.step x)

theorem f0 {x : Nat} (h : decide (x % 2 = 1) = false) : x % 2 = 0 := by
  have := of_decide_eq_false h
  omega

set_option maxRecDepth 100000 in
set_option maxHeartbeats 8000000 in
theorem rsval_b (w : World) (b : Nat) (z : Int) (n u d m p ng : Bool) (a : Option Addr) (l c : Nat) (hN : NumC w ng a l c z) (hz : z.natAbs < ROOM) (hb : b < 32) (hpl : Plus b z) (hn : fN b = n) (hu : fU b = u) (hd : fD b = d) (hm : fM b = m) (hp : fP b = p) :
    Calls Try.prog 19 #[.agg #[.bool n, .bool u, .bool d, .bool m, .bool p, .bool ng, .slice a l c]] w (RVal b z w) := by
  have HI := Lib.hid (quo_zero (b := 0) (by decide) (by decide))
  unfold fN at hn
  unfold fU at hu
  unfold fD at hd
  unfold fM at hm
  unfold fP at hp
  cases n <;> cases u <;> cases d
  all_goals
    have HN := Lib.hid hn
    have HU := Lib.hid hu
    have HD := Lib.hid hd
    clear hn hu hd
  · -- no flag
    have hsg := hN.sign
    have hlz := hN.abs.lenb
    have hbw : Below w.heap.size w (w.alloc (.cells #[.bool false, .bool false, .bool false, .bool m, .bool p, .bool ng, .slice a l c] 30)) := (Below.refl _ _).alloc (Nat.le_refl _) _
    have HB := Lib.hid hbw
    have HJ := Lib.hid (rjoin_any ng false a l c z.natAbs K2240 (-1074) (w.alloc (.cells #[.bool false, .bool false, .bool false, .bool m, .bool p, .bool ng, .slice a l c] 30)) (hN.abs.below hbw (Nat.le_refl _)) (by rw [← room_eq]; exact hz) (by decide))
    have HS0 := Lib.hid (fun ng w => rsign_sgn ng 0 w (by decide))
    rcases hlz with ⟨l1, z0, rfl⟩ | ⟨l1, z0⟩
    · have hz0 : z = 0 := by omega
      subst hz0
      have hng : ng = false := hsg
      subst hng
      have hb8 : decide (b = 8) = (m && !p) := by
        rw [← hm, ← hp, Bool.eq_iff_iff]
        have h1 := f0 HN.out
        have h2 := f0 HU.out
        have h4 := f0 HD.out
        simp only [Bool.and_eq_true, Bool.not_eq_true', decide_eq_true_eq, decide_eq_false_iff_not]
        omega
      have H8 := Lib.hid hb8
      clear hbw hpl hz hb hN HI hm hp hb8 hsg HJ
      cases m
      all_goals
        go_enter Try.func19, Try.ntmps19
        go_wp2_with fail
        refine (HS0.out _ _).mono ?_; rintro e w1 ⟨rfl, rfl⟩
        go_wp2_with fail
        go_ret
        refine ⟨_, rfl, ⟨sgnW_lt (by decide), .inr (.inr (.inr ⟨f0 HN.out, f0 HU.out, f0 HD.out, ?_⟩))⟩, HB.out⟩
        rw [H8.out, join_sgn, show ((0 : Int)).natAbs = 0 from rfl, near_zero]
        rfl
    · have hl : decide (0 < l) = true := by simp at l1 ⊢; omega
      have hpl2 := hpl (by omega)
      have h8 : decide (b = 8) = false := by simp; omega
      have H8 := Lib.hid h8
      have HSG := Lib.hid hsg
      clear hbw hpl hz hb hN HI hm hp hsg z0 hpl2 h8
      go_enter Try.func19, Try.ntmps19
      go_wp2_with fail
      refine HJ.out.mono ?_; rintro e w1 ⟨rfl, hb1⟩
      have HB1 := Lib.hid (HB.out.trans (hb1.mono HB.out.size))
      clear hb1
      go_wp2_with fail
      go_ret
      refine ⟨_, rfl, ⟨join_lt0 _ _ _, .inr (.inr (.inr ⟨f0 HN.out, f0 HU.out, f0 HD.out, ?_⟩))⟩, HB1.out⟩
      rw [H8.out, Bool.or_false, ← HSG.out]
  · have hd2 := HI.out
    rw [if_neg (by decide)] at hd2
    have hdr := run_float_arith (P := Try.prog) (w.alloc (.cells #[.bool false, .bool false, .bool true, .bool m, .bool p, .bool ng, .slice a l c] 30)) .quo 33 .f64 _ _ _ hd2
    have hbw : Below w.heap.size w (w.alloc (.cells #[.bool false, .bool false, .bool true, .bool m, .bool p, .bool ng, .slice a l c] 30)) := (Below.refl _ _).alloc (Nat.le_refl _) _
    have HB := Lib.hid hbw
    have HS := Lib.hid (fun w => rsign_sgn true INF w (by decide))
    obtain ⟨qi, hqi⟩ : ∃ q : Nat, q = INF := ⟨_, rfl⟩
    rw [← hqi] at HS hdr
    have HQI := Lib.hid hqi
    clear hbw hd2 hm hp hpl hz hb hN HI hqi
    go_enter Try.func19, Try.ntmps19
    go_wp2_with fail
    refine (HS.out _).mono ?_; rintro e w1 ⟨rfl, rfl⟩
    go_wp2_with fail
    go_ret
    exact ⟨_, rfl, ⟨sgnW_lt (by rw [HQI.out]; decide), .inr (.inr (.inl ⟨f0 HN.out, f0 HU.out, of_decide_eq_true HD.out, by rw [HQI.out]; rfl⟩))⟩, HB.out⟩
  · have hd2 := HI.out
    rw [if_neg (by decide)] at hd2
    have hdr := run_float_arith (P := Try.prog) (w.alloc (.cells #[.bool false, .bool true, .bool false, .bool m, .bool p, .bool ng, .slice a l c] 30)) .quo 33 .f64 _ _ _ hd2
    have hbw : Below w.heap.size w (w.alloc (.cells #[.bool false, .bool true, .bool false, .bool m, .bool p, .bool ng, .slice a l c] 30)) := (Below.refl _ _).alloc (Nat.le_refl _) _
    have HB := Lib.hid hbw
    have HS := Lib.hid (fun w => rsign_sgn false INF w (by decide))
    obtain ⟨qi, hqi⟩ : ∃ q : Nat, q = INF := ⟨_, rfl⟩
    rw [← hqi] at HS hdr
    have HQI := Lib.hid hqi
    clear hbw hd2 hm hp hpl hz hb hN HI hqi
    go_enter Try.func19, Try.ntmps19
    go_wp2_with fail
    refine (HS.out _).mono ?_; rintro e w1 ⟨rfl, rfl⟩
    go_wp2_with fail
    go_ret
    exact ⟨_, rfl, ⟨sgnW_lt (by rw [HQI.out]; decide), .inr (.inl ⟨f0 HN.out, of_decide_eq_true HU.out, f0 HD.out, by rw [HQI.out]; exact sgnW_no _⟩)⟩, HB.out⟩
  · obtain ⟨r, hr0, hr1, hrun⟩ := run_float_nan .quo 33 0 0 (by decide) (by simp) (w.alloc (.cells #[.bool false, .bool true, .bool true, .bool m, .bool p, .bool ng, .slice a l c] 30))
    have hbw : Below w.heap.size w (w.alloc (.cells #[.bool false, .bool true, .bool true, .bool m, .bool p, .bool ng, .slice a l c] 30)) := (Below.refl _ _).alloc (Nat.le_refl _) _
    have HB := Lib.hid hbw.drew
    have R0 := Lib.hid hr0
    have R1 := Lib.hid hr1
    clear hbw hr0 hr1 hm hp hpl hz hb hN HI
    go_enter Try.func19, Try.ntmps19
    go_wp2_with fail
    go_ret
    exact ⟨r, rfl, ⟨R0.out, .inl (⟨.inr ⟨of_decide_eq_true HU.out, of_decide_eq_true HD.out⟩, R1.out⟩)⟩, HB.out⟩
  · obtain ⟨r, hr0, hr1, hrun⟩ := run_float_nan .quo 33 0 0 (by decide) (by simp) (w.alloc (.cells #[.bool true, .bool false, .bool false, .bool m, .bool p, .bool ng, .slice a l c] 30))
    have hbw : Below w.heap.size w (w.alloc (.cells #[.bool true, .bool false, .bool false, .bool m, .bool p, .bool ng, .slice a l c] 30)) := (Below.refl _ _).alloc (Nat.le_refl _) _
    have HB := Lib.hid hbw.drew
    have R0 := Lib.hid hr0
    have R1 := Lib.hid hr1
    clear hbw hr0 hr1 hm hp hpl hz hb hN HI
    go_enter Try.func19, Try.ntmps19
    go_wp2_with fail
    go_ret
    exact ⟨r, rfl, ⟨R0.out, .inl (⟨.inl (of_decide_eq_true HN.out), R1.out⟩)⟩, HB.out⟩
  · obtain ⟨r, hr0, hr1, hrun⟩ := run_float_nan .quo 33 0 0 (by decide) (by simp) (w.alloc (.cells #[.bool true, .bool false, .bool true, .bool m, .bool p, .bool ng, .slice a l c] 30))
    have hbw : Below w.heap.size w (w.alloc (.cells #[.bool true, .bool false, .bool true, .bool m, .bool p, .bool ng, .slice a l c] 30)) := (Below.refl _ _).alloc (Nat.le_refl _) _
    have HB := Lib.hid hbw.drew
    have R0 := Lib.hid hr0
    have R1 := Lib.hid hr1
    clear hbw hr0 hr1 hm hp hpl hz hb hN HI
    go_enter Try.func19, Try.ntmps19
    go_wp2_with fail
    go_ret
    exact ⟨r, rfl, ⟨R0.out, .inl (⟨.inl (of_decide_eq_true HN.out), R1.out⟩)⟩, HB.out⟩
  · obtain ⟨r, hr0, hr1, hrun⟩ := run_float_nan .quo 33 0 0 (by decide) (by simp) (w.alloc (.cells #[.bool true, .bool true, .bool false, .bool m, .bool p, .bool ng, .slice a l c] 30))
    have hbw : Below w.heap.size w (w.alloc (.cells #[.bool true, .bool true, .bool false, .bool m, .bool p, .bool ng, .slice a l c] 30)) := (Below.refl _ _).alloc (Nat.le_refl _) _
    have HB := Lib.hid hbw.drew
    have R0 := Lib.hid hr0
    have R1 := Lib.hid hr1
    clear hbw hr0 hr1 hm hp hpl hz hb hN HI
    go_enter Try.func19, Try.ntmps19
    go_wp2_with fail
    go_ret
    exact ⟨r, rfl, ⟨R0.out, .inl (⟨.inl (of_decide_eq_true HN.out), R1.out⟩)⟩, HB.out⟩
  · obtain ⟨r, hr0, hr1, hrun⟩ := run_float_nan .quo 33 0 0 (by decide) (by simp) (w.alloc (.cells #[.bool true, .bool true, .bool true, .bool m, .bool p, .bool ng, .slice a l c] 30))
    have hbw : Below w.heap.size w (w.alloc (.cells #[.bool true, .bool true, .bool true, .bool m, .bool p, .bool ng, .slice a l c] 30)) := (Below.refl _ _).alloc (Nat.le_refl _) _
    have HB := Lib.hid hbw.drew
    have R0 := Lib.hid hr0
    have R1 := Lib.hid hr1
    clear hbw hr0 hr1 hm hp hpl hz hb hN HI
    go_enter Try.func19, Try.ntmps19
    go_wp2_with fail
    go_ret
    exact ⟨r, rfl, ⟨R0.out, .inl (⟨.inl (of_decide_eq_true HN.out), R1.out⟩)⟩, HB.out⟩
theorem rsval_any (w : World) (b : Nat) (z : Int) (ng : Bool) (a : Option Addr) (l c : Nat) (hN : NumC w ng a l c z) (hz : z.natAbs < ROOM) (hb : b < 32) (hp : Plus b z) :
    Calls Try.prog 19 #[.agg (rsCells b ng a l c)] w (RVal b z w) :=
  rsval_b w b z _ _ _ _ _ ng a l c hN hz hb hp rfl rfl rfl rfl rfl
end Go.Proofs.Ytgdddpbdcdheeaa
