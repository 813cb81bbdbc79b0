/- Contracts of package ratio's scaled and sticky. Conditions: numbers below 2^10000; at most 80000 words. -/
import Derived.Test.YtfanjmgbkmdmfaaMFloB
import Derived.Test.YtfanjmgbkmdmfaaRatC
import Derived.Test.YtfanjmgbkmdmfaaBlk
namespace Go.Proofs.Ytfanjmgbkmdmfaa
open Go.RowKit Ieee

theorem NatC.row {w : World} {a : Option Addr} {n c : Nat} {z : Int} (h : NatC w a n c z) : ∃ xs, RowK .u32 w a n c xs ∧ Dig 4294967296 xs ∧ V 4294967296 xs = z := by
  obtain ⟨xs, h1, h2, -, h4⟩ := h
  exact ⟨xs, h1, h2, h4⟩
theorem NatC.short {w : World} {a : Option Addr} {n c z K : Nat} (h : NatC w a n c (z : Int)) (hz : z < 2 ^ K) : n ≤ K := by
  apply h.len
  have h1 : 2 ^ K ≤ 4294967296 ^ K := Nat.pow_le_pow_left (by decide) K
  have h2 := Int.ofNat_lt.2 (Nat.lt_of_lt_of_le hz h1)
  rw [Int.natCast_pow] at h2
  exact h2
theorem NatC.tell {w : World} {a : Option Addr} {n c z : Nat} (h : NatC w a n c (z : Int)) : decide (0 < n) = decide (0 < z) := by
  obtain ⟨xs, hr, hd, ht, hv⟩ := h
  have hp := V_pos (B := 4294967296) (by decide) hd ht
  rw [hv] at hp
  rw [decide_eq_decide]
  have hl := hr.1
  constructor
  · intro h
    have : (0 : Int) < (z : Int) := hp.2 (fun e => by rw [e] at hl; simp at hl; omega)
    omega
  · intro h
    have h1 := hp.1 (by omega)
    rcases Nat.eq_zero_or_pos n with h0 | h0
    · exact absurd (List.eq_nil_of_length_eq_zero (by omega)) h1
    · omega
theorem nshl_yes (a : Option Addr) (n c N : Nat) (xs : List Int) (w : World) (ha : RowK .u32 w a n c xs) (hx : Dig 4294967296 xs) (hn0 : n ≤ 80000) (hN : N ≤ 8192) :
    Calls Try.prog 77 #[.slice a n c, .int .i64 N] w (RetNatB w (V 4294967296 xs * 2 ^ N)) := shl_any a n c N (N / 32) (N % 32) xs w ha hx hn0 (by omega) (by omega) hN

def RetScaled (Q R : Nat) (w : World) (e : Ending) (w' : World) : Prop := ∃ a n c, e = .returned (.tuple #[.slice a n c, .bool (decide (0 < R))]) ∧ NatC w' a n c (Q : Int) ∧ Below w.heap.size w w'
theorem cast_shl {z : Int} {X N : Nat} (h : z = (X : Int)) : z * 2 ^ N = ((X * 2 ^ N : Nat) : Int) := by rw [h, shl_cast]
theorem shl_lt {X K N M : Nat} (h : X < 2 ^ K) (hN : N ≤ M) : X * 2 ^ N < 2 ^ (K + M) := by
  rw [Nat.pow_add]
  exact Nat.lt_of_lt_of_le (Nat.mul_lt_mul_of_pos_right h (Nat.two_pow_pos N)) (Nat.mul_le_mul_left _ (Nat.pow_le_pow_right (by decide) hN))

set_option maxHeartbeats 2000000 in
theorem scaled_up (a b : Option Addr) (n c m d K s X Y : Nat) (xs ys : List Int) (w : World) (ha : RowK .u32 w a n c xs) (hb : RowK .u32 w b m d ys) (hx : Dig 4294967296 xs) (hy : Dig 4294967296 ys) (hX : V 4294967296 xs = (X : Int)) (hY : V 4294967296 ys = (Y : Int)) (hn : n ≤ 80000) (hm : m ≤ 80000)
    (hXK : X < 2 ^ K) (hK : K ≤ 10000) (hY0 : 0 < Y) (hs : s ≤ 8192) :
    Calls Try.prog 47 #[.slice a n c, .slice b m d, .int .i64 (s : Int)] w (RetScaled (X * 2 ^ s / Y) (X * 2 ^ s % Y) w) := by
  have HS := Lib.hid (nshl_yes a n c s xs w ha hx hn hs)
  rw [cast_shl hX] at HS
  have HL := Lib.hid (shl_lt (M := 8192) hXK hs)
  have HB := Lib.hid hb
  have HY := Lib.hid hy
  have HVY := Lib.hid hY
  have HY0 := Lib.hid hY0
  have hs1 : decide ((0 : Int) ≤ (s : Int)) = true := by simp
  clear ha hb hx hy hX hY hXK hY0
  generalize X * 2 ^ s = U at *
  go_enter Try.func47, Try.ntmps47
  go_wp2_with fail
  refine HS.out.mono ?_; rintro z w1 ⟨a1, n1, c1, rfl, hN1, hb1, -⟩
  have HB1 := Lib.hid hb1
  have hl1 := hN1.short HL.out
  obtain ⟨us, hu1, hu2, hu3⟩ := hN1.row
  have HD := Lib.hid (ndiv_any a1 b n1 c1 m d us ys w1 hu1 (HB.out.below hb1 (Nat.le_refl _)) hu2 HY.out (by omega) (by omega) (by have := HVY.out; have := HY0.out; omega))
  rw [hu3, HVY.out] at HD
  rw [show (U : Int) / (Y : Int) = ((U / Y : Nat) : Int) from rfl, show (U : Int) % (Y : Int) = ((U % Y : Nat) : Int) from rfl] at HD
  clear hb1 hN1 hl1 hu1 hu2 hu3
  go_wp2_with fail
  refine HD.out.mono ?_; rintro z w2 ⟨a2, n2, c2, a3, n3, c3, rfl, hQ, hR, hb2, -, -⟩
  have HB2 := Lib.hid (HB1.out.trans (hb2.mono HB1.out.size))
  have ht := hR.tell
  have HQ := Lib.hid hQ
  have HT : Hid (decide (0 < n3) = decide (0 < U % Y)) := Lib.hid ht
  clear hb2 hQ hR ht
  go_wp2_with fail
  go_ret2
  exact ⟨a2, n2, c2, by rw [← HT.out]; rfl, HQ.out, HB2.out⟩

set_option maxHeartbeats 2000000 in
theorem scaled_dn (a b : Option Addr) (n c m d K s X Y : Nat) (t : Int) (xs ys : List Int) (w : World) (ha : RowK .u32 w a n c xs) (hb : RowK .u32 w b m d ys) (hx : Dig 4294967296 xs) (hy : Dig 4294967296 ys) (hX : V 4294967296 xs = (X : Int)) (hY : V 4294967296 ys = (Y : Int)) (hn : n ≤ 80000) (hm : m ≤ 80000)
    (hYK : Y < 2 ^ K) (hK : K ≤ 10000) (hY0 : 0 < Y) (hs : s ≤ 8192) (ht : t = -(s : Int)) (hs0 : 0 < s) :
    Calls Try.prog 47 #[.slice a n c, .slice b m d, .int .i64 t] w (RetScaled (X / (Y * 2 ^ s)) (X % (Y * 2 ^ s)) w) := by
  have HS := Lib.hid (nshl_yes b m d s ys w hb hy hm hs)
  rw [cast_shl hY] at HS
  have HL := Lib.hid (shl_lt (M := 8192) hYK hs)
  have HA := Lib.hid ha
  have HX := Lib.hid hx
  have HVX := Lib.hid hX
  have HY0 := Lib.hid (Nat.mul_pos hY0 (Nat.two_pow_pos s))
  have hs1 : decide ((0 : Int) ≤ t) = false := by simp; omega
  have hneg : -t = (s : Int) := by omega
  have ht1 : -8192 ≤ t := by omega
  have ht2 : t < 0 := by omega
  clear ha hb hx hy hX hY hYK hY0 ht
  generalize Y * 2 ^ s = U at *
  go_enter Try.func47, Try.ntmps47
  go_wp2_with fail
  refine HS.out.mono ?_; rintro z w1 ⟨a1, n1, c1, rfl, hN1, hb1, -⟩
  have HB1 := Lib.hid hb1
  have hl1 := hN1.short HL.out
  obtain ⟨us, hu1, hu2, hu3⟩ := hN1.row
  have HD := Lib.hid (ndiv_any a a1 n c n1 c1 xs us w1 (HA.out.below hb1 (Nat.le_refl _)) hu1 HX.out hu2 (by omega) (by omega) (by have := HY0.out; omega))
  rw [hu3, HVX.out] at HD
  rw [show (X : Int) / (U : Int) = ((X / U : Nat) : Int) from rfl, show (X : Int) % (U : Int) = ((X % U : Nat) : Int) from rfl] at HD
  clear hb1 hN1 hl1 hu1 hu2 hu3
  go_wp2_with fail
  refine HD.out.mono ?_; rintro z w2 ⟨a2, n2, c2, a3, n3, c3, rfl, hQ, hR, hb2, -, -⟩
  have HB2 := Lib.hid (HB1.out.trans (hb2.mono HB1.out.size))
  have ht := hR.tell
  have HQ := Lib.hid hQ
  have HT : Hid (decide (0 < n3) = decide (0 < X % U)) := Lib.hid ht
  clear hb2 hQ hR ht
  go_wp2_with fail
  go_ret2
  exact ⟨a2, n2, c2, by rw [← HT.out]; rfl, HQ.out, HB2.out⟩

theorem scaled_any (a b : Option Addr) (n c m d K s t X Y : Nat) (i : Int) (xs ys : List Int) (w : World) (ha : RowK .u32 w a n c xs) (hb : RowK .u32 w b m d ys) (hx : Dig 4294967296 xs) (hy : Dig 4294967296 ys) (hX : V 4294967296 xs = (X : Int)) (hY : V 4294967296 ys = (Y : Int)) (hn : n ≤ 80000) (hm : m ≤ 80000)
    (hXK : X < 2 ^ K) (hYK : Y < 2 ^ K) (hK : K ≤ 10000) (hY0 : 0 < Y) (hs : s ≤ 8192) (ht : t ≤ 8192) (hi : i = (s : Int) - (t : Int)) (hz : s = 0 ∨ t = 0) :
    Calls Try.prog 47 #[.slice a n c, .slice b m d, .int .i64 i] w (RetScaled (X * 2 ^ s / (Y * 2 ^ t)) (X * 2 ^ s % (Y * 2 ^ t)) w) := by
  rcases Nat.eq_zero_or_pos t with h | h
  · subst h
    rw [Nat.pow_zero, Nat.mul_one, show i = (s : Int) from by omega]
    exact scaled_up a b n c m d K s X Y xs ys w ha hb hx hy hX hY hn hm hXK hK hY0 hs
  · obtain rfl : s = 0 := by omega
    rw [Nat.pow_zero, Nat.mul_one]
    exact scaled_dn a b n c m d K t X Y i xs ys w ha hb hx hy hX hY hn hm hYK hK hY0 ht (by omega) h

set_option maxHeartbeats 2000000 in
theorem sticky_any (a : Option Addr) (n c K Q : Nat) (left : Bool) (w : World) (h : NatC w a n c (Q : Int)) (hQ : Q < 2 ^ K) (hK : K ≤ 20000) :
    Calls Try.prog 50 #[.slice a n c, .bool left] w (RetNat w ((2 * Q + left.toNat : Nat) : Int)) := by
  have hl := h.short hQ
  obtain ⟨xs, h1, h2, h3⟩ := h.row
  have HS := Lib.hid (nshl_yes a n c 1 xs w h1 h2 (by omega) (by omega))
  rw [cast_shl h3, Nat.pow_one, Nat.mul_comm] at HS
  have HL : Hid (2 * Q < 2 ^ (K + 1)) := Lib.hid (by rw [Nat.pow_succ]; omega)
  clear h hQ h1 h2 h3
  cases left
  · go_enter Try.func50, Try.ntmps50
    go_wp2_with fail
    refine HS.out.mono ?_; rintro z w1 ⟨a1, n1, c1, rfl, hN1, hb1, hf1⟩
    have HB1 := Lib.hid hb1
    have HN1 := Lib.hid hN1
    clear hb1 hN1
    go_wp2_with fail
    go_ret
    exact ⟨a1, n1, c1, rfl, HN1.out, HB1.out, hf1⟩
  · go_enter Try.func50, Try.ntmps50
    go_wp2_with fail
    refine HS.out.mono ?_; rintro z w1 ⟨a1, n1, c1, rfl, hN1, hb1, -⟩
    have HB1 := Lib.hid hb1
    have hl1 := hN1.short HL.out
    have HN1 := Lib.hid hN1
    clear hb1 hN1
    go_wp2_with fail
    have a1r : Arr .u32 74 (w1.alloc (.cells #[.int .u32 1] 74)) w1.heap.size [1] := Arr.new [1] rfl rfl
    have hb2 : Below w1.heap.size w1 (w1.alloc (.cells #[.int .u32 1] 74)) := (Below.refl _ _).alloc (Nat.le_refl _) _
    obtain ⟨us, hu1, hu2, hu3⟩ := (HN1.out.below hb2 (Nat.le_refl _)).row
    have HA := Lib.hid (nadd_any a1 _ n1 c1 1 1 us [1] _ hu1 (a1r.full (by simp)) hu2 (by intro d hd; simp at hd; omega) (by omega) (by omega))
    rw [hu3, show V 4294967296 [1] = 1 from by decide] at HA
    have HB2 := Lib.hid (HB1.out.trans (hb2.mono HB1.out.size))
    clear hb2 hu1 hu2 hu3 a1r
    refine HA.out.mono ?_; rintro z w2 ⟨a2, n2, c2, rfl, hN2, hb2, hf2⟩
    have HB3 := Lib.hid (HB2.out.trans (hb2.mono HB2.out.size))
    have HN2 := Lib.hid hN2
    have hsz := HB2.out.size
    clear hb2 hN2
    go_wp2_with fail
    go_ret
    exact ⟨a2, n2, c2, rfl, HN2.out, HB3.out, hf2.mono hsz⟩
end Go.Proofs.Ytfanjmgbkmdmfaa
