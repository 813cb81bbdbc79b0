/- Contracts of package bushelref04's Quot, size, Mean and of package ratio's Mean. Conditions: numbers below 2^3000 (Quot). -/
import Derived.Test.YtfanjmgbkmdmfaaRatF
import Derived.Test.YtfanjmgbkmdmfaaRef01o
namespace Go.Proofs.Ytfanjmgbkmdmfaa
open Go.RowKit Ieee

theorem NumC.lenb {w : World} {neg : Bool} {a : Option Addr} {n c p : Nat} (h : NumC w neg a n c (p : Int)) : (((n : Int) == 0) = true ∧ p = 0 ∧ n = 0) ∨ (((n : Int) == 0) = false ∧ 0 < p) := by
  rcases Nat.eq_zero_or_pos p with h0 | h0
  · subst h0
    have := h.len0
    subst this
    exact .inl ⟨rfl, rfl, rfl⟩
  · have := h.lenp (by omega)
    exact .inr ⟨by simp; omega, h0⟩
theorem near_of_r {p q z : Nat} (h : IsNear (p * 2 ^ K1074) (q * 2 ^ 0) z) : IsNear (p * 2 ^ K1074) q z := by
  rw [Nat.pow_zero, Nat.mul_one] at h
  exact h
theorem flip_sgn (neg : Bool) {z : Nat} (h : z ≤ INF) : (if neg then flipS z else z) = sgnW neg z := by
  unfold sgnW flipS
  cases neg
  · rfl
  · rw [if_pos rfl, if_pos rfl, if_pos (by unfold INF at h; unfold S63; omega)]
    omega
theorem rsign_sgn (neg : Bool) (z : Nat) (w : World) (h : z ≤ INF) :
    Calls Try.prog 80 #[.bool neg, .float .f64 z] w fun x w' => x = .returned (.float .f64 (sgnW neg z)) ∧ w = w' := by
  have h1 := rsign_any neg z w (by unfold INF at h; omega)
  rw [flip_sgn neg h] at h1
  exact h1

set_option maxRecDepth 100000 in
set_option maxHeartbeats 4000000 in
theorem rquot_any (neg na nb : Bool) (a b : Option Addr) (n c m d p q K : Nat) (w : World) (hx : NumC w na a n c (p : Int)) (hy : NumC w nb b m d (q : Int)) (hp : p < 2 ^ K) (hq : q < 2 ^ K) (hK : K ≤ 3000) :
    Calls Try.prog 63 #[.bool neg, .agg #[.bool na, .slice a n c], .agg #[.bool nb, .slice b m d]] w (RQuot neg p q w) := by
  have HLO := Lib.hid (fun w (hx : NumC w na a n c (p : Int)) (hy : NumC w nb b m d (q : Int)) => rlong_no na nb a b n c m d p q K w hx hy hp hq hK)
  have HNE := Lib.hid (fun w (hx : NumC w na a n c (p : Int)) (hy : NumC w nb b m d (q : Int)) (hq0 : 0 < q) => rnearest_any na nb a b n c m d p q K 0 K1074 0 w hx hy hp hq (by omega) hq0 rfl (by omega) (by omega))
  have hlp := hx.lenb
  have hlq := hy.lenb
  obtain ⟨hk0, hk1, hbw, -⟩ := two_bx w 30 #[.bool na, .slice a n c] #[.bool nb, .slice b m d]
  have HB7 := Lib.hid hbw
  have HP7 := Lib.hid (hx.below hbw (Nat.le_refl _))
  have HQ7 := Lib.hid (hy.below hbw (Nat.le_refl _))
  have HX0 := Lib.hid hx
  have HY0 := Lib.hid hy
  clear hx hy hbw hp hq
  go_enter Try.func63, Try.ntmps63
  go_wp2_with fail
  generalize ((w.alloc (.cells #[.bool na, .slice a n c] 30)).alloc (.cells #[.bool nb, .slice b m d] 30)) = w7 at *
  generalize hsz0 : w.heap.size = s at *
  have HSZ := Lib.hid hsz0
  have x0 : w7.cell? ⟨s, 0, none⟩ = some (.bool na) := hk0.cell 0
  have x1 : w7.cell? ⟨s, 1, none⟩ = some (.slice a n c) := hk0.cell 1
  have y0 : w7.cell? ⟨s + 1, 0, none⟩ = some (.bool nb) := hk1.cell 0
  have y1 : w7.cell? ⟨s + 1, 1, none⟩ = some (.slice b m d) := hk1.cell 1
  have HK0 := Lib.hid hk0
  have HK1 := Lib.hid hk1
  clear hsz0 hk0 hk1
  go_wp2_with fail
  refine (HLO.out w7 HP7.out HQ7.out).mono ?_; rintro z w8 ⟨rfl, hb8⟩
  have HB8 := Lib.hid (HB7.out.trans (hb8.mono (by rw [← HSZ.out]; exact HB7.out.size)))
  have hk0 := HK0.out.below hb8 HK0.out.lt
  have hk1 := HK1.out.below hb8 HK1.out.lt
  have HP8 := Lib.hid (HP7.out.below hb8 (Nat.le_refl _))
  have HQ8 := Lib.hid (HQ7.out.below hb8 (Nat.le_refl _))
  clear x0 x1 y0 y1 hb8
  have x0 : w8.cell? ⟨s, 0, none⟩ = some (.bool na) := hk0.cell 0
  have x1 : w8.cell? ⟨s, 1, none⟩ = some (.slice a n c) := hk0.cell 1
  have y0 : w8.cell? ⟨s + 1, 0, none⟩ = some (.bool nb) := hk1.cell 0
  have y1 : w8.cell? ⟨s + 1, 1, none⟩ = some (.slice b m d) := hk1.cell 1
  clear hk0 hk1
  rcases hlp with ⟨l1, p0, rfl⟩ | ⟨l1, p0⟩ <;> rcases hlq with ⟨l2, q0, rfl⟩ | ⟨l2, q0⟩
  · have HP0 := Lib.hid p0
    have HQ0 := Lib.hid q0
    clear p0 q0
    go_wp2_with fail
    refine (rnone_any w8).mono ?_; rintro z w9 ⟨r, rfl, hr1, hr2, hb9⟩
    have HB9 := Lib.hid (HB8.out.trans (hb9.mono (by rw [← HSZ.out]; exact HB8.out.size)))
    have HR1 := Lib.hid hr1
    have HR2 := Lib.hid hr2
    clear hb9 hr1 hr2
    go_wp2_with fail
    go_ret
    exact ⟨_, rfl, ⟨HR1.out, .inl ⟨HP0.out, HQ0.out, HR2.out⟩⟩, by rw [HSZ.out]; exact HB9.out⟩
  · have HP0 := Lib.hid p0
    have HQ0 := Lib.hid q0
    have HS := Lib.hid (fun w => rsign_sgn neg 0 w (by decide))
    clear p0 q0
    go_wp2_with fail
    refine (HS.out _).mono ?_; rintro z w9 ⟨rfl, rfl⟩
    go_wp2_with fail
    go_ret
    exact ⟨_, rfl, ⟨sgnW_lt (by decide), .inr (.inr (.inl ⟨HP0.out, by have := HQ0.out; omega, rfl⟩))⟩, by rw [HSZ.out]; exact HB8.out⟩
  · have HP0 := Lib.hid p0
    have HQ0 := Lib.hid q0
    have HS := Lib.hid (fun w => rsign_sgn neg INF w (by decide))
    have HI := Lib.hid (fun w => rinfinity_any w)
    obtain ⟨qi, hqi⟩ : ∃ q : Nat, q = INF := ⟨_, rfl⟩
    rw [← hqi] at HS HI
    have HQI := Lib.hid hqi
    clear p0 q0 hqi
    go_wp2_with fail
    refine (HI.out _).mono ?_; rintro z w9 ⟨rfl, rfl⟩
    go_wp2_with fail
    refine (HS.out _).mono ?_; rintro z w9 ⟨rfl, rfl⟩
    go_wp2_with fail
    go_ret
    exact ⟨_, rfl, ⟨sgnW_lt (by rw [HQI.out]; decide), .inr (.inl ⟨by have := HP0.out; omega, HQ0.out, by rw [HQI.out]⟩)⟩, by rw [HSZ.out]; exact HB8.out⟩
  · have HP0 := Lib.hid p0
    have HQ0 := Lib.hid q0
    clear p0 q0
    go_wp2_with fail
    refine (HNE.out w8 HP8.out HQ8.out HQ0.out).mono ?_; rintro z w9 ⟨r, rfl, hr, hb9⟩
    have HB9 := Lib.hid (HB8.out.trans (hb9.mono (by rw [← HSZ.out]; exact HB8.out.size)))
    have HR := Lib.hid (near_of_r hr)
    have HS := Lib.hid (fun w => rsign_sgn neg r w hr.le)
    clear hb9 hr
    go_wp2_with fail
    refine (HS.out _).mono ?_; rintro z w10 ⟨rfl, rfl⟩
    go_wp2_with fail
    go_ret
    exact ⟨_, rfl, ⟨sgnW_lt HR.out.le, .inr (.inr (.inr ⟨by have := HP0.out; omega, by have := HQ0.out; omega, _, HR.out, rfl⟩))⟩, by rw [HSZ.out]; exact HB9.out⟩
end Go.Proofs.Ytfanjmgbkmdmfaa
