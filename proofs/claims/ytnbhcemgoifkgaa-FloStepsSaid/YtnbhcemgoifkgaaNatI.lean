/- Contract of package nat's word: one word of a quotient. Conditions: the words are below 2^32; the divisor has two words or more, and its highest is not 0. -/
import Derived.Test.YtnbhcemgoifkgaaNatH
namespace Go.Proofs.Ytnbhcemgoifkgaa
open Go.RowKit

theorem q_top {Q D W k y R : Int} (hQ : 0 ≤ Q) (hQD : Q * D ≤ W) (hD : k * R ≤ D) (hW : W < (y + 1) * R) (hR : 0 < R) : Q * k ≤ y := by
  have h1 : Q * (k * R) ≤ Q * D := Int.mul_le_mul_of_nonneg_left hD hQ
  rw [← Int.mul_assoc] at h1
  have h2 : Q * k < y + 1 := Int.lt_of_mul_lt_mul_right (a := R) (by omega) (by omega)
  omega
/-- the facts of one word's division: W by D, held against their highest words -/
structure Est (W D top x2 d1 d2 P : Int) : Prop where
  W0 : 0 ≤ W
  x0 : 0 ≤ x2
  x1 : x2 < 4294967296
  e0 : 0 ≤ d2
  e1 : d2 < 4294967296
  d0 : 1 ≤ d1
  P0 : 0 < P
  Wl : (top * 4294967296 + x2) * P ≤ W
  Wu : W < (top * 4294967296 + x2 + 1) * P
  Dl : (d1 * 4294967296 + d2) * P ≤ D
  Du : D < (d1 * 4294967296 + d2 + 1) * P
  lt : W < D * 4294967296
theorem Est.D0 {W D top x2 d1 d2 P : Int} (h : Est W D top x2 d1 d2 P) : 4294967296 * P ≤ D := by
  have h1 := h.Dl
  have h2 : 4294967296 * P ≤ (d1 * 4294967296 + d2) * P := Int.mul_le_mul_of_nonneg_right (by have := h.d0; have := h.e0; omega) (by have := h.P0; omega)
  omega
theorem Est.Dpos {W D top x2 d1 d2 P : Int} (h : Est W D top x2 d1 d2 P) : 0 < D := by
  have h1 := h.D0
  have h2 := h.P0
  omega
theorem Est.QD {W D top x2 d1 d2 P : Int} (h : Est W D top x2 d1 d2 P) : 0 ≤ W / D ∧ W / D * D ≤ W ∧ W < (W / D + 1) * D := by
  have hD := h.Dpos
  refine ⟨Int.ediv_nonneg h.W0 (by omega), Int.ediv_mul_le _ (by omega), ?_⟩
  exact Int.lt_ediv_add_one_mul_self _ hD
theorem Est.start {W D top x2 d1 d2 P : Int} (h : Est W D top x2 d1 d2 P) : W / D ≤ top / d1 := by
  obtain ⟨h1, h2, -⟩ := h.QD
  refine (Int.le_ediv_iff_mul_le (by have := h.d0; omega)).2 (q_top (R := 4294967296 * P) h1 h2 ?_ ?_ (by have := h.P0; omega))
  · have h3 := h.Dl
    have h4 : d1 * 4294967296 * P ≤ (d1 * 4294967296 + d2) * P := Int.mul_le_mul_of_nonneg_right (by have := h.e0; omega) (by have := h.P0; omega)
    rw [← Int.mul_assoc]; omega
  · have h3 := h.Wu
    have h4 : (top * 4294967296 + x2 + 1) * P ≤ (top + 1) * 4294967296 * P := Int.mul_le_mul_of_nonneg_right (by have := h.x1; omega) (by have := h.P0; omega)
    rw [← Int.mul_assoc]; omega
theorem Est.below {W D top x2 d1 d2 P : Int} (h : Est W D top x2 d1 d2 P) : W / D < 4294967296 := Int.ediv_lt_of_lt_mul h.Dpos (by rw [Int.mul_comm]; exact h.lt)
/-- a guess too great by the three highest words is too great -/
theorem Est.dec {W D top x2 d1 d2 P q left : Int} (h : Est W D top x2 d1 d2 P) (hq : W / D ≤ q) (ht : q * d1 + left = top) (hgt : left * 4294967296 + x2 < q * d2) : W / D ≤ q - 1 := by
  obtain ⟨h1, h2, -⟩ := h.QD
  have h3 := q_top (k := d1 * 4294967296 + d2) (y := top * 4294967296 + x2) h1 h2 h.Dl h.Wu h.P0
  rcases Int.lt_or_le (W / D) q with h4 | h4
  · omega
  · have e : W / D = q := by omega
    rw [e, Int.mul_add, ← Int.mul_assoc] at h3
    omega
/-- a guess that is not too great by the three highest words is too great by one at most -/
theorem Est.near {W D top x2 d1 d2 P q left : Int} (h : Est W D top x2 d1 d2 P) (hq0 : 0 ≤ q) (hq : q < 4294967296) (ht : q * d1 + left = top) (hle : q * d2 ≤ left * 4294967296 + x2) : q ≤ W / D + 1 := by
  have hD := h.Dpos
  have hD0 := h.D0
  have h0 : q * (d1 * 4294967296 + d2) ≤ top * 4294967296 + x2 := by rw [Int.mul_add, ← Int.mul_assoc]; omega
  have h1 : q * D ≤ q * ((d1 * 4294967296 + d2 + 1) * P) := Int.mul_le_mul_of_nonneg_left (by have := h.Du; omega) hq0
  have h2 : q * ((d1 * 4294967296 + d2 + 1) * P) = q * (d1 * 4294967296 + d2) * P + q * P := by rw [← Int.mul_assoc, Int.mul_add q, Int.mul_one, Int.add_mul]
  have h3 : q * (d1 * 4294967296 + d2) * P ≤ (top * 4294967296 + x2) * P := Int.mul_le_mul_of_nonneg_right h0 (by have := h.P0; omega)
  have h4 : q * P ≤ 4294967296 * P := Int.mul_le_mul_of_nonneg_right (by omega) (by have := h.P0; omega)
  have h5 := h.Wl
  have h6 : (q - 1) * D ≤ W := by rw [Int.sub_mul, Int.one_mul]; omega
  have h7 := (Int.le_ediv_iff_mul_le hD).2 h6
  omega
theorem Est.brk {d2 q left x2 : Int} (h0 : 0 ≤ q) (h1 : q < 4294967296) (e0 : 0 ≤ d2) (e1 : d2 < 4294967296) (hl : 4294967296 ≤ left) (hx : 0 ≤ x2) : q * d2 ≤ left * 4294967296 + x2 := by
  have := prod_bd (A := 4294967295) (B := 4294967295) h0 e0 (by omega) (by omega)
  omega
theorem Est.top {W D top x2 d1 d2 P : Int} (h : Est W D top x2 d1 d2 P) : top < (d1 + 1) * 4294967296 := by
  have h1 := h.Wl
  have h2 := h.lt
  have h3 := h.Du
  have h4 : (top * 4294967296 + x2) * P < (d1 * 4294967296 + d2 + 1) * 4294967296 * P := by rw [Int.mul_assoc _ 4294967296 P, Int.mul_comm 4294967296 P, ← Int.mul_assoc]; omega
  have h5 := Int.lt_of_mul_lt_mul_right h4 (by have := h.P0; omega)
  have := h.e1
  have := h.x0
  omega

theorem win_bd {os : List Int} (ho : Dig 4294967296 os) (off n : Nat) : 0 ≤ win 4294967296 os off n ∧ win 4294967296 os off n < 4294967296 ^ n := vf_bd (by decide) n fun i _ => ho.at (by decide) (off + i)

/-- the window's three highest words -/
theorem win3 {os : List Int} (ho : Dig 4294967296 os) (off k : Nat) : ∃ r, 0 ≤ r ∧ r < 4294967296 ^ k ∧
    win 4294967296 os off (k + 3) = ((os.getD (off + (k + 2)) 0 * 4294967296 + os.getD (off + (k + 1)) 0) * 4294967296 + os.getD (off + k) 0) * 4294967296 ^ k + r := by
  refine ⟨win 4294967296 os off k, (win_bd ho off k).1, (win_bd ho off k).2, ?_⟩
  show win 4294967296 os off k + os.getD (off + k) 0 * 4294967296 ^ k + os.getD (off + (k + 1)) 0 * 4294967296 ^ (k + 1) + os.getD (off + (k + 2)) 0 * 4294967296 ^ (k + 2) = _
  rw [Int.pow_succ 4294967296 (k + 1), Int.pow_succ 4294967296 k]
  generalize (4294967296 : Int) ^ k = P
  generalize win 4294967296 os off k = A
  simp only [Int.add_mul, Int.mul_assoc, Int.mul_comm P]
  simp only [← Int.mul_assoc]
  omega
theorem V2 {ds : List Int} {k : Nat} (hd : Dig 4294967296 ds) (hl : ds.length = k + 2) : ∃ r, 0 ≤ r ∧ r < 4294967296 ^ k ∧
    V 4294967296 ds = (ds.getD (k + 1) 0 * 4294967296 + ds.getD k 0) * 4294967296 ^ k + r := by
  have hb := vf_bd (B := 4294967296) (by decide) (f := fun j => ds.getD j 0) k fun i _ => hd.at (by decide) i
  refine ⟨_, hb.1, hb.2, ?_⟩
  unfold V
  rw [hl]
  show vf 4294967296 _ k + ds.getD k 0 * 4294967296 ^ k + ds.getD (k + 1) 0 * 4294967296 ^ (k + 1) = _
  rw [Int.pow_succ 4294967296 k]
  simp only [Int.add_mul, Int.mul_assoc]
  rw [Int.mul_comm (4294967296 ^ k) 4294967296]
  omega
theorem est_of {os ds : List Int} {off k : Nat} (ho : Dig 4294967296 os) (hd : Dig 4294967296 ds) (hl : ds.length = k + 2) (h1 : 1 ≤ ds.getD (k + 1) 0) (hlt : win 4294967296 os off (k + 3) < V 4294967296 ds * 4294967296) :
    Est (win 4294967296 os off (k + 3)) (V 4294967296 ds) (os.getD (off + (k + 2)) 0 * 4294967296 + os.getD (off + (k + 1)) 0) (os.getD (off + k) 0) (ds.getD (k + 1) 0) (ds.getD k 0) (4294967296 ^ k) := by
  obtain ⟨r, r0, r1, hW⟩ := win3 ho off k
  obtain ⟨s, s0, s1, hD⟩ := V2 hd hl
  have hx := ho.at (by decide) (off + k)
  have he := hd.at (by decide) k
  refine ⟨(win_bd ho off _).1, hx.1, hx.2, he.1, he.2, h1, Int.pow_pos (by decide), by omega, ?_, by omega, ?_, hlt⟩
  · rw [hW, Int.add_mul _ 1, Int.one_mul]; omega
  · rw [hD, Int.add_mul _ 1, Int.one_mul]; omega
end Go.Proofs.Ytnbhcemgoifkgaa
