/- Contract of package ratio's Quot. Conditions: numbers below 2^3000; at most 80000 words. -/
import Derived.Test.YtfanjmgbkmdmfaaRatB
namespace Go.Proofs.Ytfanjmgbkmdmfaa
open Go.RowKit Ieee

/-- the word with a sign -/
def sgnW (neg : Bool) (y : Nat) : Nat := if neg then S63 + y else y
theorem join_sgn (neg : Bool) (X : Nat) (e : Int) : joinN neg X e = sgnW neg (nearN X e) := rfl
theorem sgnW_lt {neg : Bool} {y : Nat} (h : y ≤ INF) : sgnW neg y < 18446744073709551616 := by
  unfold sgnW S63
  unfold INF at h
  split <;> omega
theorem join_lt0 (neg : Bool) (X : Nat) (e : Int) : joinN neg X e < 18446744073709551616 := sgnW_lt (near_le X e)
def IsQuot (neg : Bool) (p q z : Nat) : Prop := z < 18446744073709551616 ∧ ((p = 0 ∧ q = 0 ∧ INF < z % S63) ∨ (p ≠ 0 ∧ q = 0 ∧ z = sgnW neg INF) ∨ (p = 0 ∧ q ≠ 0 ∧ z = sgnW neg 0) ∨ (p ≠ 0 ∧ q ≠ 0 ∧ ∃ y, IsNear (p * 2 ^ K1074) q y ∧ z = sgnW neg y))
theorem IsQuot.one {neg : Bool} {p q z y : Nat} (h : IsQuot neg p q z) (k : IsQuot neg p q y) : keyN z = keyN y := by
  obtain ⟨-, h⟩ := h
  obtain ⟨-, k⟩ := k
  rcases h with ⟨h1, h2, h3⟩ | ⟨h1, h2, h3⟩ | ⟨h1, h2, h3⟩ | ⟨h1, h2, u, h3, h4⟩ <;> rcases k with ⟨k1, k2, k3⟩ | ⟨k1, k2, k3⟩ | ⟨k1, k2, k3⟩ | ⟨k1, k2, v, k3, k4⟩ <;> try omega
  · rw [key_nan h3, key_nan k3]
  · rw [h3, k3]
  · rw [h3, k3]
  · rw [h4, k4, h3.one k3]
/-- how many bits a quotient has -/
theorem quot_bits {p q n m s t G : Nat} (hp1 : 2 ^ (n - 1) ≤ p) (hp2 : p < 2 ^ n) (hq1 : 2 ^ (m - 1) ≤ q) (hq2 : q < 2 ^ m) (hn : 1 ≤ n) (hm : 1 ≤ m) (hG : (s : Int) - (t : Int) = (G : Int) - ((n : Int) - (m : Int))) (hG1 : 1 ≤ G) :
    2 ^ (G - 1) ≤ p * 2 ^ s / (q * 2 ^ t) ∧ p * 2 ^ s / (q * 2 ^ t) < 2 ^ (G + 1) := by
  have hq0 : 0 < q := Nat.lt_of_lt_of_le (Nat.two_pow_pos _) hq1
  have hd : 0 < q * 2 ^ t := Nat.mul_pos hq0 (Nat.two_pow_pos t)
  constructor
  · rw [Nat.le_div_iff_mul_le hd]
    have h1 : q * 2 ^ t ≤ 2 ^ m * 2 ^ t := Nat.mul_le_mul_right _ (Nat.le_of_lt hq2)
    have h2 : 2 ^ (n - 1) * 2 ^ s ≤ p * 2 ^ s := Nat.mul_le_mul_right _ hp1
    refine Nat.le_trans (Nat.mul_le_mul_left _ h1) (Nat.le_trans (Nat.le_of_eq ?_) h2)
    rw [← Nat.pow_add, ← Nat.pow_add, ← Nat.pow_add]
    congr 1
    omega
  · rw [Nat.div_lt_iff_lt_mul hd]
    have h1 : 2 ^ (m - 1) * 2 ^ t ≤ q * 2 ^ t := Nat.mul_le_mul_right _ hq1
    have h2 : p * 2 ^ s < 2 ^ n * 2 ^ s := Nat.mul_lt_mul_of_pos_right hp2 (Nat.two_pow_pos s)
    refine Nat.lt_of_lt_of_le h2 (Nat.le_trans (Nat.le_of_eq ?_) (Nat.mul_le_mul_left _ h1))
    rw [← Nat.pow_add, ← Nat.pow_add, ← Nat.pow_add]
    congr 1
    omega
theorem bits_le {p n K : Nat} (h : 2 ^ (n - 1) ≤ p) (hp : p < 2 ^ K) : n ≤ K := by
  have := two_pow_lt (Nat.lt_of_le_of_lt h hp)
  omega
/-- bits_any, said of a natural number -/
def BitsN (p b : Nat) : Prop := (p = 0 ∧ b = 0) ∨ (1 ≤ b ∧ 2 ^ (b - 1) ≤ p ∧ p < 2 ^ b)
theorem nbits_any (a : Option Addr) (n c p : Nat) (xs : List Int) (w : World) (ha : RowK .u32 w a n c xs) (hx : Dig 4294967296 xs) (hX : V 4294967296 xs = (p : Int)) (hn : n ≤ 80000) :
    Calls Try.prog 44 #[.slice a n c] w fun e w' => ∃ b : Nat, e = .returned (.int .i64 b) ∧ w = w' ∧ BitsN p b := by
  refine (bits_any a n c xs w ha hx (by omega)).mono ?_
  rintro e w' ⟨b, he, hw, hb⟩
  refine ⟨b, he, hw, ?_⟩
  rw [hX] at hb
  rcases hb with ⟨h1, h2⟩ | ⟨h1, h2, h3⟩
  · exact .inl ⟨by omega, h2⟩
  · exact .inr ⟨h1, pow_of_int' h2, pow_of_int h3⟩
/-- flo's Join of a natural number -/
theorem njoin_any (neg : Bool) (a : Option Addr) (n c X K : Nat) (e : Int) (w : World) (h : NatC w a n c (X : Int)) (hX : X < 2 ^ K) (hK : K ≤ 150) (he1 : -9223372036854775808 ≤ e) (he2 : e ≤ 9223372036854775807) :
    Calls Try.prog 49 #[.bool neg, .slice a n c, .int .i64 e] w (RJoin (joinN neg X e) w) := by
  have hl := h.short hX
  obtain ⟨xs, h1, h2, h3⟩ := h.row
  exact fjoin_any neg a n c xs X e w h1 h2 h3 (by omega) he1 he2

def RQuot (neg : Bool) (p q : Nat) (w : World) (e : Ending) (w' : World) : Prop := ∃ z, e = .returned (.float .f64 z) ∧ IsQuot neg p q z ∧ Below w.heap.size w w'

set_option maxRecDepth 100000 in
set_option maxHeartbeats 4000000 in
theorem fquot_any (neg : Bool) (a b : Option Addr) (n c m d p q K : Nat) (xs ys : List Int) (w : World) (ha : RowK .u32 w a n c xs) (hb : RowK .u32 w b m d ys) (hx : Dig 4294967296 xs) (hy : Dig 4294967296 ys) (hX : V 4294967296 xs = (p : Int)) (hY : V 4294967296 ys = (q : Int)) (hn : n ≤ 80000) (hm : m ≤ 80000)
    (hp : p < 2 ^ K) (hq : q < 2 ^ K) (hK : K ≤ 3000) :
    Calls Try.prog 42 #[.bool neg, .slice a n c, .slice b m d] w (RQuot neg p q w) := by
  have HN := Lib.hid (nbits_any a n c p xs w ha hx hX hn)
  have HM := Lib.hid (nbits_any b m d q ys w hb hy hY hm)
  have HP := Lib.hid hp
  have HQ := Lib.hid hq
  have HSC := Lib.hid (fun (s t : Nat) (i : Int) (hq0 : 0 < q) (hs : s ≤ 8192) (ht : t ≤ 8192) (hi : i = (s : Int) - (t : Int)) (hz : s = 0 ∨ t = 0) => scaled_any a b n c m d K s t p q i xs ys w ha hb hx hy hX hY hn hm hp hq (by omega) hq0 hs ht hi hz)
  clear ha hb hx hy hX hY hp hq
  go_enter Try.func42, Try.ntmps42
  go_wp2_with fail
  refine HN.out.mono ?_; rintro z w1 ⟨bn, rfl, rfl, hbn⟩
  have HBN := Lib.hid hbn
  clear hbn
  go_wp2_with fail
  refine HM.out.mono ?_; rintro z w1 ⟨bm, rfl, rfl, hbm⟩
  have hbn := HBN.out
  rcases hbn with ⟨hp0, rfl⟩ | ⟨n1, n2, n3⟩ <;> rcases hbm with ⟨hq0, rfl⟩ | ⟨m1, m2, m3⟩
  · have HP0 := Lib.hid hp0
    have HQ0 := Lib.hid hq0
    have HNAN := Lib.hid (nan_any w)
    clear hp0 hq0
    go_wp2_with fail
    refine HNAN.out.mono ?_; rintro z w1 ⟨rfl, rfl⟩
    go_wp2_with fail
    go_ret
    exact ⟨_, rfl, ⟨by decide, .inl ⟨HP0.out, HQ0.out, by decide⟩⟩, Below.refl _ _⟩
  · have hm9 := bits_le m2 HQ.out
    have t1 : decide ((3000 : Int) < (bm : Int)) = false := by simp; omega
    have t2 : ((bm : Int) == 0) = false := by simp; omega
    have HP0 := Lib.hid hp0
    have HQ0 : Hid (q ≠ 0) := Lib.hid (by have := Nat.two_pow_pos (bm - 1); omega)
    have HJ := Lib.hid (fjoin_any neg none 0 0 [] 0 0 w RowK.nil Dig.nil rfl (by omega) (by omega) (by omega))
    clear hp0 m2 m3
    go_wp2_with fail
    refine HJ.out.mono ?_; rintro z w1 ⟨rfl, hb1⟩
    have HB1 := Lib.hid hb1
    clear hb1
    go_wp2_with fail
    go_ret
    refine ⟨_, rfl, ⟨join_lt0 neg 0 0, .inr (.inr (.inl ⟨HP0.out, HQ0.out, ?_⟩))⟩, HB1.out⟩
    rw [join_sgn, near_zero]
  · have hn9 := bits_le n2 HP.out
    have t1 : decide ((3000 : Int) < (bn : Int)) = false := by simp; omega
    have t2 : ((bn : Int) == 0) = false := by simp; omega
    have HQ0 := Lib.hid hq0
    have HP0 : Hid (p ≠ 0) := Lib.hid (by have := Nat.two_pow_pos (bn - 1); omega)
    clear hq0 n2 n3
    go_wp2_with fail
    have a1r : Arr .u32 74 (w.alloc (.cells #[.int .u32 1] 74)) w.heap.size [1] := Arr.new [1] rfl rfl
    have hb2 : Below w.heap.size w (w.alloc (.cells #[.int .u32 1] 74)) := (Below.refl _ _).alloc (Nat.le_refl _) _
    have HJ := Lib.hid (fjoin_any neg _ 1 1 [1] 1 2000 _ (a1r.full (by simp)) (by intro d hd; simp at hd; omega) (by decide) (by omega) (by omega) (by omega))
    have HB2 := Lib.hid hb2
    clear hb2 a1r
    refine HJ.out.mono ?_; rintro z w1 ⟨rfl, hb1⟩
    have HB1 := Lib.hid (HB2.out.trans (hb1.mono HB2.out.size))
    clear hb1
    go_wp2_with fail
    go_ret
    refine ⟨_, rfl, ⟨join_lt0 neg _ _, .inr (.inl ⟨HP0.out, HQ0.out, ?_⟩)⟩, HB1.out⟩
    rw [join_sgn, near_big (n := 1) (by decide) (by omega) (by omega)]
  · have hn9 := bits_le n2 HP.out
    have hm9 := bits_le m2 HQ.out
    have t1 : decide ((3000 : Int) < (bn : Int)) = false := by simp; omega
    have t2 : ((bn : Int) == 0) = false := by simp; omega
    have t3 : decide ((3000 : Int) < (bm : Int)) = false := by simp; omega
    have t4 : ((bm : Int) == 0) = false := by simp; omega
    have HP0 : Hid (p ≠ 0) := Lib.hid (by have := Nat.two_pow_pos (bn - 1); omega)
    have hq0 : 0 < q := by have := Nat.two_pow_pos (bm - 1); omega
    have HQ0 := Lib.hid hq0
    obtain ⟨s, t, hi, hz⟩ : ∃ s t : Nat, 70 - ((bn : Int) - (bm : Int)) = (s : Int) - (t : Int) ∧ (s = 0 ∨ t = 0) := ⟨(70 - ((bn : Int) - (bm : Int))).toNat, (-(70 - ((bn : Int) - (bm : Int)))).toNat, by omega, by omega⟩
    have HQB := Lib.hid (quot_bits (s := s) (t := t) (G := 70) n2 n3 m2 m3 n1 m1 (by omega) (by decide))
    have HC := Lib.hid (HSC.out s t (70 - ((bn : Int) - (bm : Int))) hq0 (by omega) (by omega) hi hz)
    have HE := Lib.hid (Nat.div_add_mod (p * 2 ^ s) (q * 2 ^ t))
    have HR := Lib.hid (Nat.mod_lt (p * 2 ^ s) (Nat.mul_pos hq0 (Nat.two_pow_pos t)))
    have HI := Lib.hid hi
    clear n2 n3 m2 m3 hq0 hi hz
    obtain ⟨Q, hQ⟩ : ∃ Q, p * 2 ^ s / (q * 2 ^ t) = Q := ⟨_, rfl⟩
    obtain ⟨R, hR⟩ : ∃ R, p * 2 ^ s % (q * 2 ^ t) = R := ⟨_, rfl⟩
    rw [hQ, hR] at HC HE
    rw [hQ] at HQB
    rw [hR] at HR
    clear hQ hR
    go_wp2_with fail
    refine HC.out.mono ?_; rintro z w1 ⟨a1, l1, c1, rfl, hN1, hb1⟩
    have HB1 := Lib.hid hb1
    have HST := Lib.hid (sticky_any a1 l1 c1 71 Q (decide (0 < R)) w1 hN1 HQB.out.2 (by omega))
    clear hb1 hN1
    generalize hdr : decide (0 < R) = dr at *
    go_wp2_with fail
    refine HST.out.mono ?_; rintro z w2 ⟨a2, l2, c2, rfl, hN2, hb2, -⟩
    have HB2 := Lib.hid (HB1.out.trans (hb2.mono HB1.out.size))
    have hX72 : 2 * Q + dr.toNat < 2 ^ 72 := by
      have h1 := HQB.out.2
      have h2 : dr.toNat ≤ 1 := by cases dr <;> simp
      omega
    have HJ := Lib.hid (fun (e : Int) (h1 : -9223372036854775808 ≤ e) (h2 : e ≤ 9223372036854775807) => njoin_any neg a2 l2 c2 (2 * Q + dr.toNat) 72 e w2 hN2 hX72 (by omega) h1 h2)
    have HDR := Lib.hid hdr
    clear hb2 hN2 hX72 hdr
    go_wp2_with fail
    refine (HJ.out _ (by omega) (by omega)).mono ?_; rintro z w3 ⟨rfl, hb3⟩
    have HB3 := Lib.hid (HB2.out.trans (hb3.mono HB2.out.size))
    clear hb3
    go_wp2_with fail
    go_ret
    refine ⟨_, rfl, ⟨join_lt0 neg _ _, .inr (.inr (.inr ⟨HP0.out, by have := HQ0.out; omega, _, ?_, join_sgn _ _ _⟩))⟩, HB3.out⟩
    have hq := quot_near (p := p) (q := q) (a := s) (b := t) (Q := Q) (R := R) (e := -(70 - ((bn : Int) - (bm : Int))) - 1) HQ0.out (by rw [← HE.out, Nat.mul_comm]) HR.out (by have := HQB.out.1; omega) (by have := HI.out; omega)
    unfold stickyN at hq
    rw [HDR.out] at hq
    exact hq
end Go.Proofs.Ytfanjmgbkmdmfaa
