/- Contract of package ratio's Root. Conditions: numbers below 2^3000; at most 80000 words. -/
import Derived.Test.YtfanjmgbkmdmfaaRatD
namespace Go.Proofs.Ytfanjmgbkmdmfaa
open Go.RowKit Ieee

theorem sgnW_no (y : Nat) : sgnW false y = y := by unfold sgnW; rw [if_neg (by decide)]
def IsRootQ (p q z : Nat) : Prop := z < 18446744073709551616 ∧ ((p = 0 ∧ q = 0 ∧ INF < z % S63) ∨ (p ≠ 0 ∧ q = 0 ∧ z = INF) ∨ (p = 0 ∧ q ≠ 0 ∧ z = 0) ∨ (p ≠ 0 ∧ q ≠ 0 ∧ IsRoot (p * (2 ^ K1074 * 2 ^ K1074)) q z))
theorem IsRootQ.one {p q z y : Nat} (h : IsRootQ p q z) (k : IsRootQ p q y) : keyN z = keyN y := by
  obtain ⟨-, h⟩ := h
  obtain ⟨-, k⟩ := k
  rcases h with ⟨h1, h2, h3⟩ | ⟨h1, h2, h3⟩ | ⟨h1, h2, h3⟩ | ⟨h1, h2, h3⟩ <;> rcases k with ⟨k1, k2, k3⟩ | ⟨k1, k2, k3⟩ | ⟨k1, k2, k3⟩ | ⟨k1, k2, k3⟩ <;> try omega
  · rw [key_nan h3, key_nan k3]
  · rw [h3, k3]
  · rw [h3, k3]
  · rw [h3.one k3]
theorem pow_dbl (a : Nat) : 2 ^ (2 * a) = 2 ^ a * 2 ^ a := by rw [← Nat.pow_add]; congr 1; omega
/-- the root of the scaled quotient tells the root of the quotient -/
theorem root_fin {p q a b Q R r : Nat} {e : Int} {s : Bool} (hq : 0 < q) (h : p * 2 ^ (2 * a) = Q * (q * 2 ^ (2 * b)) + R) (hR : R < q * 2 ^ (2 * b)) (hr1 : r * r ≤ Q) (hr2 : Q < (r + 1) * (r + 1)) (hr : 9007199254740992 ≤ r) (he : e = (b : Int) - (a : Int) - 1) (hs : s = (decide (0 < R) || decide (r * r ≠ Q))) :
    IsRoot (p * (2 ^ K1074 * 2 ^ K1074)) q (nearN (2 * r + s.toNat) e) := by
  rw [pow_dbl, pow_dbl] at h
  rw [pow_dbl] at hR
  have hqb : 0 < q * (2 ^ b * 2 ^ b) := Nat.mul_pos hq (pp_pos b)
  have h1 : r * r * (q * (2 ^ b * 2 ^ b)) ≤ p * (2 ^ a * 2 ^ a) := by
    have := Nat.mul_le_mul_right (q * (2 ^ b * 2 ^ b)) hr1
    omega
  have h2 : p * (2 ^ a * 2 ^ a) < (r + 1) * (r + 1) * (q * (2 ^ b * 2 ^ b)) := by
    have h3 := Nat.mul_le_mul_right (q * (2 ^ b * 2 ^ b)) (show Q + 1 ≤ (r + 1) * (r + 1) from hr2)
    rw [Nat.add_mul, Nat.one_mul] at h3
    omega
  have h4 := root_near hq h1 h2 hr he
  have h5 : decide (r * r * (q * (2 ^ b * 2 ^ b)) < p * (2 ^ a * 2 ^ a)) = s := by
    rw [hs]
    rcases Nat.lt_or_ge (r * r) Q with h6 | h6
    · have h7 := Nat.mul_lt_mul_of_pos_right h6 hqb
      rw [decide_eq_true (by omega), decide_eq_true (show r * r ≠ Q by omega), Bool.or_true]
    · have h8 : r * r = Q := by omega
      rw [h8, show decide (Q ≠ Q) = false from by simp, Bool.or_false, decide_eq_decide]
      omega
  rw [h5] at h4
  exact h4

def RRoot (p q : Nat) (w : World) (e : Ending) (w' : World) : Prop := ∃ z, e = .returned (.float .f64 z) ∧ IsRootQ p q z ∧ Below w.heap.size w w'

set_option maxRecDepth 100000 in
set_option maxHeartbeats 4000000 in
theorem froot_any (a b : Option Addr) (n c m d p q K : Nat) (xs ys : List Int) (w : World) (ha : RowK .u32 w a n c xs) (hb : RowK .u32 w b m d ys) (hx : Dig 4294967296 xs) (hy : Dig 4294967296 ys) (hX : V 4294967296 xs = (p : Int)) (hY : V 4294967296 ys = (q : Int)) (hn : n ≤ 80000) (hm : m ≤ 80000)
    (hp : p < 2 ^ K) (hq : q < 2 ^ K) (hK : K ≤ 3000) :
    Calls Try.prog 14 #[.slice a n c, .slice b m d] w (RRoot p q w) := by
  have HN := Lib.hid (nbits_any a n c p xs w ha hx hX hn)
  have HM := Lib.hid (nbits_any b m d q ys w hb hy hY hm)
  have HP := Lib.hid hp
  have HQ := Lib.hid hq
  have HSC := Lib.hid (fun (s t : Nat) (i : Int) (hq0 : 0 < q) (hs : s ≤ 8192) (ht : t ≤ 8192) (hi : i = (s : Int) - (t : Int)) (hz : s = 0 ∨ t = 0) => scaled_any a b n c m d K s t p q i xs ys w ha hb hx hy hX hY hn hm hp hq (by omega) hq0 hs ht hi hz)
  clear ha hb hx hy hX hY hp hq
  go_enter Try.func14, Try.ntmps14
  go_wp2_with fail
  refine HN.out.mono ?_; rintro z w1 ⟨bn, rfl, rfl, hbn⟩
  have HBN := Lib.hid hbn
  clear hbn
  go_wp2_with fail
  refine HM.out.mono ?_; rintro z w1 ⟨bm, rfl, rfl, hbm⟩
  have hbn := HBN.out
  rcases hbn with ⟨hp0, rfl⟩ | ⟨n1, n2, n3⟩ <;> rcases hbm with ⟨hq0, rfl⟩ | ⟨m1, m2, m3⟩
  · have HP0 := Lib.hid hp0
    have HQ0 := Lib.hid hq0
    have HNAN := Lib.hid (nan_any w)
    clear hp0 hq0
    go_wp2_with fail
    refine HNAN.out.mono ?_; rintro z w1 ⟨rfl, rfl⟩
    go_wp2_with fail
    go_ret
    exact ⟨_, rfl, ⟨by decide, .inl ⟨HP0.out, HQ0.out, by decide⟩⟩, Below.refl _ _⟩
  · have hm9 := bits_le m2 HQ.out
    have t1 : decide ((3000 : Int) < (bm : Int)) = false := by simp; omega
    have t2 : ((bm : Int) == 0) = false := by simp; omega
    have HP0 := Lib.hid hp0
    have HQ0 : Hid (q ≠ 0) := Lib.hid (by have := Nat.two_pow_pos (bm - 1); omega)
    clear hp0 m2 m3
    go_wp2_with fail
    go_ret
    exact ⟨_, rfl, ⟨by decide, .inr (.inr (.inl ⟨HP0.out, HQ0.out, rfl⟩))⟩, Below.refl _ _⟩
  · have hn9 := bits_le n2 HP.out
    have t1 : decide ((3000 : Int) < (bn : Int)) = false := by simp; omega
    have t2 : ((bn : Int) == 0) = false := by simp; omega
    have HQ0 := Lib.hid hq0
    have HP0 : Hid (p ≠ 0) := Lib.hid (by have := Nat.two_pow_pos (bn - 1); omega)
    have hin := Lib.hid (inf_any 1 w)
    rw [if_pos (by decide)] at hin
    clear hq0 n2 n3
    go_wp2_with fail
    refine hin.out.mono ?_; rintro z w1 ⟨rfl, rfl⟩
    go_wp2_with fail
    go_ret
    exact ⟨_, rfl, ⟨by decide, .inr (.inl ⟨HP0.out, HQ0.out, rfl⟩)⟩, Below.refl _ _⟩
  · have hn9 := bits_le n2 HP.out
    have hm9 := bits_le m2 HQ.out
    have t1 : decide ((3000 : Int) < (bn : Int)) = false := by simp; omega
    have t2 : ((bn : Int) == 0) = false := by simp; omega
    have t3 : decide ((3000 : Int) < (bm : Int)) = false := by simp; omega
    have t4 : ((bm : Int) == 0) = false := by simp; omega
    have HP0 : Hid (p ≠ 0) := Lib.hid (by have := Nat.two_pow_pos (bn - 1); omega)
    have hq0 : 0 < q := by have := Nat.two_pow_pos (bm - 1); omega
    have HQ0 := Lib.hid hq0
    have HN2 := Lib.hid n2
    have HN3 := Lib.hid n3
    have HM2 := Lib.hid m2
    have HM3 := Lib.hid m3
    clear n2 n3 m2 m3 hq0
    go_wp2_with fail
    obtain ⟨u, v, hi, hz⟩ : ∃ u v : Nat, (141 - ((bn : Int) - (bm : Int))) / 2 = (u : Int) - (v : Int) ∧ (u = 0 ∨ v = 0) := ⟨((141 - ((bn : Int) - (bm : Int))) / 2).toNat, (-((141 - ((bn : Int) - (bm : Int))) / 2)).toNat, by omega, by omega⟩
    obtain ⟨G, hG, hG1⟩ : ∃ G : Nat, ((2 * u : Nat) : Int) - ((2 * v : Nat) : Int) = (G : Int) - ((bn : Int) - (bm : Int)) ∧ (G = 140 ∨ G = 141) := ⟨(((2 * u : Nat) : Int) - ((2 * v : Nat) : Int) + ((bn : Int) - (bm : Int))).toNat, by omega, by omega⟩
    have HQB := Lib.hid (quot_bits (s := 2 * u) (t := 2 * v) (G := G) HN2.out HN3.out HM2.out HM3.out n1 m1 hG (by omega))
    have HC := Lib.hid (HSC.out (2 * u) (2 * v) (2 * ((141 - ((bn : Int) - (bm : Int))) / 2)) HQ0.out (by omega) (by omega) (by omega) (by omega))
    have HE := Lib.hid (Nat.div_add_mod (p * 2 ^ (2 * u)) (q * 2 ^ (2 * v)))
    have HR := Lib.hid (Nat.mod_lt (p * 2 ^ (2 * u)) (Nat.mul_pos HQ0.out (Nat.two_pow_pos (2 * v))))
    have HI := Lib.hid hi
    have HG := Lib.hid hG1
    have hh1 : -2000 ≤ (141 - ((bn : Int) - (bm : Int))) / 2 := by omega
    have hh2 : (141 - ((bn : Int) - (bm : Int))) / 2 ≤ 2000 := by omega
    clear hi hz hG hG1
    obtain ⟨Q, hQ⟩ : ∃ Q, p * 2 ^ (2 * u) / (q * 2 ^ (2 * v)) = Q := ⟨_, rfl⟩
    obtain ⟨R, hR⟩ : ∃ R, p * 2 ^ (2 * u) % (q * 2 ^ (2 * v)) = R := ⟨_, rfl⟩
    rw [hQ, hR] at HC HE
    rw [hQ] at HQB
    rw [hR] at HR
    clear hQ hR
    have HQ1 : Hid (2 ^ 139 ≤ Q) := Lib.hid (Nat.le_trans (Nat.pow_le_pow_right (by decide) (by have := HG.out; omega)) HQB.out.1)
    have HQ2 : Hid (Q < 2 ^ 142) := Lib.hid (Nat.lt_of_lt_of_le HQB.out.2 (Nat.pow_le_pow_right (by decide) (by have := HG.out; omega)))
    refine HC.out.mono ?_; rintro z w1 ⟨a1, l1, c1, rfl, hN1, hb1⟩
    have HB1 := Lib.hid hb1
    have hl1 := hN1.short HQ2.out
    obtain ⟨us, hu1, hu2, hu3⟩ := hN1.row
    have HRT := Lib.hid (root_any a1 l1 c1 us w1 hu1 hu2 (by omega))
    rw [hu3] at HRT
    have HN1 := Lib.hid hN1
    clear hb1 hN1 hu1 hu2 hu3
    generalize hdr : decide (0 < R) = dr at *
    have HDR := Lib.hid hdr
    clear hdr
    go_wp2_with fail
    refine HRT.out.mono ?_; rintro z w2 ⟨ri, hr0, hr1, hr2, a2, l2, c2, rfl, hN2, hb2, -⟩
    obtain ⟨r, rfl⟩ : ∃ r : Nat, ri = (r : Int) := ⟨ri.toNat, by omega⟩
    have HR1 : Hid (r * r ≤ Q) := Lib.hid (by rw [← Int.natCast_mul] at hr1; omega)
    have HR2 : Hid (Q < (r + 1) * (r + 1)) := Lib.hid (by
      rw [show (r : Int) + 1 = ((r + 1 : Nat) : Int) from rfl, ← Int.natCast_mul] at hr2
      omega)
    have HR3 : Hid (2 ^ 69 ≤ r) := Lib.hid (by
      have h1 : 2 ^ 69 * 2 ^ 69 ≤ Q := Nat.le_trans (by decide) HQ1.out
      have h2 := sq_lt.1 (Nat.lt_of_le_of_lt h1 HR2.out)
      omega)
    have HR4 : Hid (r < 2 ^ 71) := Lib.hid (by
      have h1 : Q < 2 ^ 71 * 2 ^ 71 := Nat.lt_of_lt_of_le HQ2.out (by decide)
      exact sq_lt.1 (Nat.lt_of_le_of_lt HR1.out h1))
    have HB2 := Lib.hid (HB1.out.trans (hb2.mono HB1.out.size))
    have HN12 := Lib.hid (HN1.out.below hb2 (Nat.le_refl _))
    have HN2 := Lib.hid hN2
    have HST := Lib.hid (fun (s : Bool) (w : World) (h : NatC w a2 l2 c2 (r : Int)) => sticky_any a2 l2 c2 71 r s w h HR4.out (by omega))
    clear hr0 hr1 hr2 hN2 hb2 HC HRT HSC HN1
    cases dr
    · -- nothing is left: the square is asked
      have hl2 := HN2.out.short HR4.out
      go_wp2_with fail
      obtain ⟨vs, hv1, hv2, hv3⟩ := HN2.out.row
      have HML := Lib.hid (nmul_any a2 a2 l2 c2 l2 c2 vs vs w2 hv1 hv1 hv2 hv2 (by omega) (by omega))
      rw [hv3, ← Int.natCast_mul] at HML
      clear hv1 hv2 hv3
      refine HML.out.mono ?_; rintro z w3 ⟨a3, l3, c3, rfl, hN3, hb3, -⟩
      obtain ⟨ts, ht1, ht2, ht3⟩ := hN3.row
      obtain ⟨us, hu1, hu2, hu3⟩ := (HN12.out.below hb3 (Nat.le_refl _)).row
      have HCM := Lib.hid (ncmp_any a3 a1 l3 c3 l1 c1 ts us w3 ht1 hu1 ht2 hu2)
      rw [ht3, hu3] at HCM
      have HB3 := Lib.hid (HB2.out.trans (hb3.mono HB2.out.size))
      have HN23 := Lib.hid (HN2.out.below hb3 (Nat.le_refl _))
      obtain ⟨cc, hcc⟩ : ∃ cc, cmpZ ((r * r : Nat) : Int) (Q : Int) = cc := ⟨_, rfl⟩
      rw [hcc] at HCM
      have HCC := Lib.hid hcc
      clear hb3 hN3 ht1 ht2 ht3 hu1 hu2 hu3 hcc
      go_wp2_with fail
      refine HCM.out.mono ?_; rintro z w4 ⟨rfl, hb4⟩
      have HB4 := Lib.hid (HB3.out.trans (hb4.mono HB3.out.size))
      have HN24 := Lib.hid (HN23.out.below hb4 (Nat.le_refl _))
      clear hb4
      obtain ⟨s, hs⟩ : ∃ s, (cc != 0) = s := ⟨_, rfl⟩
      have HS : Hid (s = (decide (0 < R) || decide (r * r ≠ Q))) := Lib.hid (by
        rw [HDR.out, Bool.false_or, ← hs, ← HCC.out, bne, Bool.eq_iff_iff]
        simp only [Bool.not_eq_true', beq_eq_false_iff_ne, decide_eq_true_eq, ne_eq, cmpZ_nul]
        omega)
      go_wp2_with fail
      refine (HST.out s w4 HN24.out).mono ?_; rintro z w5 ⟨a5, l5, c5, rfl, hN5, hb5, -⟩
      have HB5 := Lib.hid (HB4.out.trans (hb5.mono HB4.out.size))
      have hX72 : 2 * r + s.toNat < 2 ^ 72 := by
        have h1 := HR4.out
        have h2 : s.toNat ≤ 1 := by cases s <;> simp
        omega
      have HJ := Lib.hid (fun (e : Int) (h1 : -9223372036854775808 ≤ e) (h2 : e ≤ 9223372036854775807) => njoin_any false a5 l5 c5 (2 * r + s.toNat) 72 e w5 hN5 hX72 (by omega) h1 h2)
      clear hb5 hN5 hX72
      go_wp2_with fail
      refine (HJ.out _ (by omega) (by omega)).mono ?_; rintro z w6 ⟨rfl, hb6⟩
      have HB6 := Lib.hid (HB5.out.trans (hb6.mono HB5.out.size))
      clear hb6
      go_wp2_with fail
      go_ret
      refine ⟨_, rfl, ⟨join_lt0 false _ _, .inr (.inr (.inr ⟨HP0.out, by have := HQ0.out; omega, ?_⟩))⟩, HB6.out⟩
      rw [join_sgn, sgnW_no]
      exact root_fin (p := p) (q := q) (a := u) (b := v) (Q := Q) (R := R) (r := r) HQ0.out (by rw [← HE.out, Nat.mul_comm]) HR.out HR1.out HR2.out (by have := HR3.out; omega) (by have := HI.out; omega) HS.out
    · have HS : Hid (true = (decide (0 < R) || decide (r * r ≠ Q))) := Lib.hid (by rw [HDR.out, Bool.true_or])
      have HB4 := HB2
      go_wp2_with fail
      refine (HST.out true w2 HN2.out).mono ?_; rintro z w5 ⟨a5, l5, c5, rfl, hN5, hb5, -⟩
      have HB5 := Lib.hid (HB4.out.trans (hb5.mono HB4.out.size))
      have hX72 : 2 * r + true.toNat < 2 ^ 72 := by
        have h1 := HR4.out
        have h2 : true.toNat ≤ 1 := by decide
        omega
      have HJ := Lib.hid (fun (e : Int) (h1 : -9223372036854775808 ≤ e) (h2 : e ≤ 9223372036854775807) => njoin_any false a5 l5 c5 (2 * r + true.toNat) 72 e w5 hN5 hX72 (by omega) h1 h2)
      clear hb5 hN5 hX72
      go_wp2_with fail
      refine (HJ.out _ (by omega) (by omega)).mono ?_; rintro z w6 ⟨rfl, hb6⟩
      have HB6 := Lib.hid (HB5.out.trans (hb6.mono HB5.out.size))
      clear hb6
      go_wp2_with fail
      go_ret
      refine ⟨_, rfl, ⟨join_lt0 false _ _, .inr (.inr (.inr ⟨HP0.out, by have := HQ0.out; omega, ?_⟩))⟩, HB6.out⟩
      rw [join_sgn, sgnW_no]
      exact root_fin (p := p) (q := q) (a := u) (b := v) (Q := Q) (R := R) (r := r) HQ0.out (by rw [← HE.out, Nat.mul_comm]) HR.out HR1.out HR2.out (by have := HR3.out; omega) (by have := HI.out; omega) HS.out
end Go.Proofs.Ytfanjmgbkmdmfaa
