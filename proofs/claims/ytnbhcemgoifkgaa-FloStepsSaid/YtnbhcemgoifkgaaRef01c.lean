/- Contracts of package bushelref01's Neg, Add, Sub, Cmp. Conditions: the numbers lie below 1000^1000000. -/
import Derived.Test.YtnbhcemgoifkgaaRef01b
namespace Go.Proofs.Ytnbhcemgoifkgaa
open Go.RowKit

def K0 : Nat := 1000000
theorem K0_le : K0 ≤ 1000000 := Nat.le_refl _
theorem le_K0 {k : Nat} (h : k ≤ 1000000) : k ≤ K0 := h
/-- a number of at most a million digits of base 1000 -/
def Fit (z : Int) : Prop := z.natAbs < 1000 ^ K0
attribute [irreducible] K0
theorem Fit.of_pow {z : Int} {k : Nat} (h : z.natAbs < 1000 ^ k) (hk : k ≤ 1000000) : Fit z :=
  Nat.lt_of_lt_of_le h (Nat.pow_le_pow_right (by decide) (le_K0 hk))
theorem Fit.of_pow2 {z : Int} {k : Nat} (h : z.natAbs < 2 ^ k) (hk : k ≤ 1000000) : Fit z :=
  Fit.of_pow (Nat.lt_of_lt_of_le h (Nat.pow_le_pow_left (by decide) k)) hk
theorem Fit.mono {y z : Int} (h : Fit y) (hz : z.natAbs ≤ y.natAbs) : Fit z := Nat.lt_of_le_of_lt hz h
theorem Fit.i64 {z : Int} (h1 : -18446744073709551616 ≤ z) (h2 : z ≤ 18446744073709551616) : Fit z := Fit.of_pow (k := 10) (by omega) (by decide)

theorem NumC.len {w : World} {neg : Bool} {a : Option Addr} {n c : Nat} {z : Int} (h : NumC w neg a n c z) (hf : Fit z) : n ≤ 1000000 := by
  obtain ⟨xs, hr, hd, ht, hz, _⟩ := h
  by_cases h0 : xs = []
  · have := hr.1; rw [h0] at this; simp at this; omega
  · have h1 := V_ge (by decide) hd ht h0
    have h2 : V 1000 xs = z.natAbs := by
      have := (V_bd (B := 1000) (by decide) hd).1
      rw [hz]; split <;> omega
    rw [h2] at h1
    have h3 : (1000 : Nat) ^ (xs.length - 1) < 1000 ^ K0 := by
      have : ((1000 ^ (xs.length - 1) : Nat) : Int) = 1000 ^ (xs.length - 1) := by rw [Int.natCast_pow]; rfl
      have hf' : z.natAbs < 1000 ^ K0 := hf
      omega
    have h4 := (Nat.pow_lt_pow_iff_right (a := 1000) (by decide)).1 h3
    have := K0_le
    have := hr.1
    omega

theorem neg_any (neg : Bool) (a : Option Addr) (n c : Nat) (z : Int) (w : World) (h : NumC w neg a n c z) :
    Calls Try.prog 75 #[.agg #[.bool neg, .slice a n c]] w (RetNumS (Same a) w (-z)) := by
  obtain ⟨xs, hr, hd, ht, hz, hn⟩ := h
  have hz2 : (if !neg then -V 1000 xs else V 1000 xs) = -z := by rw [hz]; cases neg <;> simp
  have HM := fun w1 (hb : Below w.heap.size w w1) => made_any (!neg) a n c xs (-z) w1 hz2 (hr.below hb (Nat.le_refl _)) hd
  have HM' := Lib.hid HM
  clear hr hd ht hz hn hz2 HM
  go_enter Try.func75, Try.ntmps75
  go_wp2_with fail
  refine (HM'.out _ (((Below.refl _ _).alloc (Nat.le_refl _) _).alloc (by simp) _)).mono ?_
  rintro e w1 ⟨neg1, a1, n1, c1, rfl, hN, hb, hf⟩
  simp only [World.size_alloc] at hb
  obtain ⟨bc, bf⟩ := bcell hb
  go_wp2_with fail
  exact bodyPost_ret (v := .agg #[.bool neg1, .slice a1 n1 c1]) (by simp [results, Try.results75, go_sem, bc]) rfl
    (RetNum.stored hN (by omega) ((((Below.refl _ _).alloc (Nat.le_refl _) _).alloc (by simp) _).trans (hb.mono (by omega))) (by simp [bc]) (by simp [bc]) hf)

theorem add_same (neg : Bool) (a b : Option Addr) (n c m d : Nat) (x y : Int) (w : World) (hx : NumC w neg a n c x) (hy : NumC w neg b m d y) (fx : Fit x) (fy : Fit y) :
    Calls Try.prog 26 #[.agg #[.bool neg, .slice a n c], .agg #[.bool neg, .slice b m d]] w (RetNum w (x + y)) := by
  have hn := hx.len fx
  have hm := hy.len fy
  obtain ⟨xs, hr, hd, ht, hz, hg⟩ := hx
  obtain ⟨ys, kr, kd, kt, kz, kg⟩ := hy
  have HS := Lib.hid (fun w1 (hb : Below w.heap.size w w1) => sum_any a b n c m d xs ys w1 (hr.below hb (Nat.le_refl _)) (kr.below hb (Nat.le_refl _)) hd kd (by omega) (by omega))
  have HZ : Hid ((if neg then -(V 1000 xs + V 1000 ys) else V 1000 xs + V 1000 ys) = x + y) := by
    have h : (if neg then -(V 1000 xs + V 1000 ys) else V 1000 xs + V 1000 ys) = x + y := by rw [hz, kz]; cases neg <;> simp <;> omega
    exact Lib.hid h
  clear hr hd ht hz hg kr kd kt kz kg
  have q0 : w.heap.size < w.heap.size + 1 + 1 + 1 := by omega
  have q1 : ¬ (w.heap.size + 1 + 1 = w.heap.size) := by omega
  go_enter Try.func26, Try.ntmps26
  go_wp2_with fail
  go_region_held3 (fun w' => w'.cell? ⟨w.heap.size, 0, none⟩ = some (.bool neg) ∧ w'.cell? ⟨w.heap.size, 1, none⟩ = some (.slice a n c) ∧ w'.cell? ⟨w.heap.size + 1, 1, none⟩ = some (.slice b m d)) (go_keep)
    (first
      | (go_at_call 71; refine (HS.out _ (by exact ((((Below.refl _ _).alloc (Nat.le_refl _) _).alloc (by simp) _).alloc (by simp; omega) _).drew)).mono ?_; rintro e w1 ⟨a1, n1, c1, xs1, rfl, hr1, hl1, hd1, hv1, hb1, hf1⟩; have HV1 := Lib.hid hv1; clear hv1 hl1; simp only [World.size_drew, World.size_alloc] at hb1; obtain ⟨bc1, bf1⟩ := bcell hb1)
      | (go_at_call 70; refine (made_any neg _ _ _ xs1 (x + y) _ (by rw [HV1.out]; exact HZ.out) hr1 hd1).mono ?_; rintro e w2 ⟨neg2, a2, n2, c2, rfl, hN2, hb2, hf2⟩; have hb3 := hb1.trans (hb2.mono (by have := hb1.size; simpa using this)); clear bc1 bf1; obtain ⟨bc2, bf2⟩ := bcell hb3))
  go_wp2_with fail
  exact bodyPost_ret (v := .agg #[.bool neg2, .slice a2 n2 c2]) (by simp [results, Try.results26, go_sem, bc2]) rfl
    (RetNum.stored hN2 (by omega) (((((Below.refl _ _).alloc (Nat.le_refl _) _).alloc (by simp) _).alloc (by simp; omega) _).drew.trans (hb3.mono (by omega))) (by simp [go_sem, bc2]) (by simp [go_sem, bc2]) ((hf1.mono (by simp; omega)).same hf2))

theorem cmpZ_ge {x y : Int} (h : y ≤ x) : 0 ≤ cmpZ x y := by
  unfold cmpZ; split
  · omega
  · split <;> omega

theorem add_diff (na nb : Bool) (a b : Option Addr) (n c m d : Nat) (x y : Int) (w : World) (hx : NumC w na a n c x) (hy : NumC w nb b m d y) (fx : Fit x) (fy : Fit y) (hne : (na == nb) = false) :
    Calls Try.prog 26 #[.agg #[.bool na, .slice a n c], .agg #[.bool nb, .slice b m d]] w (RetNum w (x + y)) := by
  have hn := hx.len fx
  have hm := hy.len fy
  obtain ⟨xs, hr, hd, ht, hz, hg⟩ := hx
  obtain ⟨ys, kr, kd, kt, kz, kg⟩ := hy
  have HL := Lib.hid (fun w1 (hb : Below w.heap.size w w1) => less_any a b n c m d xs ys w1 (hr.below hb (Nat.le_refl _)) (kr.below hb (Nat.le_refl _)) hd kd)
  have q0 : w.heap.size < w.heap.size + 1 + 1 + 1 := by omega
  have q1 : ¬ (w.heap.size + 1 + 1 = w.heap.size) := by omega
  by_cases hge : V 1000 ys ≤ V 1000 xs
  · have HS := Lib.hid (fun w1 (hb : Below w.heap.size w w1) => rest_any a b n c m d xs ys w1 (hr.below hb (Nat.le_refl _)) (kr.below hb (Nat.le_refl _)) hd kd (by omega) hge)
    have HZ : Hid ((if na then -(V 1000 xs - V 1000 ys) else V 1000 xs - V 1000 ys) = x + y) := by
      have h : (if na then -(V 1000 xs - V 1000 ys) else V 1000 xs - V 1000 ys) = x + y := by rw [hz, kz]; cases na <;> cases nb <;> simp at hne ⊢ <;> omega
      exact Lib.hid h
    have hc := cmpZ_ge hge
    generalize cmpZ (V 1000 xs) (V 1000 ys) = cc at *
    clear hr hd ht hz hg kr kd kt kz kg hge
    go_enter Try.func26, Try.ntmps26
    go_wp2_with fail
    refine (HL.out _ (by exact (((Below.refl _ _).alloc (Nat.le_refl _) _).alloc (by simp) _).alloc (by simp; omega) _)).mono ?_; rintro e w' ⟨rfl, rfl⟩
    go_wp2_with fail
    go_region_held3 (fun w' => w'.cell? ⟨w.heap.size, 0, none⟩ = some (.bool na) ∧ w'.cell? ⟨w.heap.size, 1, none⟩ = some (.slice a n c) ∧ w'.cell? ⟨w.heap.size + 1, 1, none⟩ = some (.slice b m d)) (go_keep)
      (first
        | (go_at_call 73; refine (HS.out _ (by exact ((((Below.refl _ _).alloc (Nat.le_refl _) _).alloc (by simp) _).alloc (by simp; omega) _).drew)).mono ?_; rintro e w1 ⟨a1, n1, c1, xs1, rfl, hr1, hl1, hd1, hv1, hb1, hf1⟩; have HV1 := Lib.hid hv1; clear hv1 hl1; simp only [World.size_drew, World.size_alloc] at hb1; obtain ⟨bc1, bf1⟩ := bcell hb1)
        | (go_at_call 70; refine (made_any na _ _ _ xs1 (x + y) _ (by rw [HV1.out]; exact HZ.out) hr1 hd1).mono ?_; rintro e w2 ⟨neg2, a2, n2, c2, rfl, hN2, hb2, hf2⟩; have hb3 := hb1.trans (hb2.mono (by have := hb1.size; simpa using this)); clear bc1 bf1; obtain ⟨bc2, bf2⟩ := bcell hb3))
    go_wp2_with fail
    exact bodyPost_ret (v := .agg #[.bool neg2, .slice a2 n2 c2]) (by simp [results, Try.results26, go_sem, bc2]) rfl
      (RetNum.stored hN2 (by omega) (((((Below.refl _ _).alloc (Nat.le_refl _) _).alloc (by simp) _).alloc (by simp; omega) _).drew.trans (hb3.mono (by omega))) (by simp [go_sem, bc2]) (by simp [go_sem, bc2]) ((hf1.mono (by simp; omega)).same hf2))
  · have HS := Lib.hid (fun w1 (hb : Below w.heap.size w w1) => rest_any b a m d n c ys xs w1 (kr.below hb (Nat.le_refl _)) (hr.below hb (Nat.le_refl _)) kd hd (by omega) (by omega))
    have HZ : Hid ((if nb then -(V 1000 ys - V 1000 xs) else V 1000 ys - V 1000 xs) = x + y) := by
      have h : (if nb then -(V 1000 ys - V 1000 xs) else V 1000 ys - V 1000 xs) = x + y := by rw [hz, kz]; cases na <;> cases nb <;> simp at hne ⊢ <;> omega
      exact Lib.hid h
    have hc0 := cmpZ_lt (x := V 1000 xs) (y := V 1000 ys) (by omega)
    have hc : cmpZ (V 1000 xs) (V 1000 ys) < 0 := by omega
    clear hc0
    generalize cmpZ (V 1000 xs) (V 1000 ys) = cc at *
    clear hr hd ht hz hg kr kd kt kz kg hge
    go_enter Try.func26, Try.ntmps26
    go_wp2_with fail
    refine (HL.out _ (by exact (((Below.refl _ _).alloc (Nat.le_refl _) _).alloc (by simp) _).alloc (by simp; omega) _)).mono ?_; rintro e w' ⟨rfl, rfl⟩
    go_wp2_with fail
    go_region_held3 (fun w' => w'.cell? ⟨w.heap.size + 1, 0, none⟩ = some (.bool nb) ∧ w'.cell? ⟨w.heap.size, 1, none⟩ = some (.slice a n c) ∧ w'.cell? ⟨w.heap.size + 1, 1, none⟩ = some (.slice b m d)) (go_keep)
      (first
        | (go_at_call 73; refine (HS.out _ (by exact ((((Below.refl _ _).alloc (Nat.le_refl _) _).alloc (by simp) _).alloc (by simp; omega) _).drew)).mono ?_; rintro e w1 ⟨a1, n1, c1, xs1, rfl, hr1, hl1, hd1, hv1, hb1, hf1⟩; have HV1 := Lib.hid hv1; clear hv1 hl1; simp only [World.size_drew, World.size_alloc] at hb1; obtain ⟨bc1, bf1⟩ := bcell hb1)
        | (go_at_call 70; refine (made_any nb _ _ _ xs1 (x + y) _ (by rw [HV1.out]; exact HZ.out) hr1 hd1).mono ?_; rintro e w2 ⟨neg2, a2, n2, c2, rfl, hN2, hb2, hf2⟩; have hb3 := hb1.trans (hb2.mono (by have := hb1.size; simpa using this)); clear bc1 bf1; obtain ⟨bc2, bf2⟩ := bcell hb3))
    go_wp2_with fail
    exact bodyPost_ret (v := .agg #[.bool neg2, .slice a2 n2 c2]) (by simp [results, Try.results26, go_sem, bc2]) rfl
      (RetNum.stored hN2 (by omega) (((((Below.refl _ _).alloc (Nat.le_refl _) _).alloc (by simp) _).alloc (by simp; omega) _).drew.trans (hb3.mono (by omega))) (by simp [go_sem, bc2]) (by simp [go_sem, bc2]) ((hf1.mono (by simp; omega)).same hf2))

theorem add_any (na nb : Bool) (a b : Option Addr) (n c m d : Nat) (x y : Int) (w : World) (hx : NumC w na a n c x) (hy : NumC w nb b m d y) (fx : Fit x) (fy : Fit y) :
    Calls Try.prog 26 #[.agg #[.bool na, .slice a n c], .agg #[.bool nb, .slice b m d]] w (RetNum w (x + y)) := by
  by_cases h : na = nb
  · subst h; exact add_same na a b n c m d x y w hx hy fx fy
  · exact add_diff na nb a b n c m d x y w hx hy fx fy (by simpa using h)

theorem Fit.neg {z : Int} (h : Fit z) : Fit (-z) := h.mono (by omega)

theorem sub_any (na nb : Bool) (a b : Option Addr) (n c m d : Nat) (x y : Int) (w : World) (hx : NumC w na a n c x) (hy : NumC w nb b m d y) (fx : Fit x) (fy : Fit y) :
    Calls Try.prog 45 #[.agg #[.bool na, .slice a n c], .agg #[.bool nb, .slice b m d]] w (RetNum w (x - y)) := by
  have HX := Lib.hid hx
  have HY := Lib.hid hy
  have q0 : w.heap.size < w.heap.size + 1 + 1 + 1 := by omega
  have q1 : ¬ (w.heap.size + 1 + 1 = w.heap.size) := by omega
  clear hx hy
  go_enter Try.func45, Try.ntmps45
  go_wp2_with fail
  go_region_held3 (fun w' => w'.cell? ⟨w.heap.size, 0, none⟩ = some (.bool na) ∧ w'.cell? ⟨w.heap.size, 1, none⟩ = some (.slice a n c) ∧ w'.cell? ⟨w.heap.size + 1, 0, none⟩ = some (.bool nb) ∧ w'.cell? ⟨w.heap.size + 1, 1, none⟩ = some (.slice b m d)) (go_keep)
    (first
      | (go_at_call 75; refine (neg_any _ _ _ _ y _ (by exact HY.out.below ((((Below.refl _ _).alloc (Nat.le_refl _) _).alloc (by simp) _).alloc (by simp; omega) _).drew (Nat.le_refl _))).mono ?_; rintro e w1 ⟨neg1, a1, n1, c1, rfl, hN1, hb1, hf1⟩; simp only [World.size_drew, World.size_alloc] at hb1; obtain ⟨bc1, bf1⟩ := bcell hb1)
      | (go_at_call 26; refine (add_any _ _ _ _ _ _ _ _ x (-y) _ (by exact HX.out.below (((((Below.refl _ _).alloc (Nat.le_refl _) _).alloc (by simp) _).alloc (by simp; omega) _).drew.trans (hb1.mono (by omega))) (Nat.le_refl _)) hN1 fx fy.neg).mono ?_; rintro e w2 ⟨neg2, a2, n2, c2, rfl, hN2, hb2, hf2⟩; have hb3 := hb1.trans (hb2.mono (by have := hb1.size; simpa using this)); clear bc1 bf1; obtain ⟨bc2, bf2⟩ := bcell hb3))
  go_wp2_with fail
  exact bodyPost_ret (v := .agg #[.bool neg2, .slice a2 n2 c2]) (by simp [results, Try.results45, go_sem, bc2]) rfl
    (RetNum.stored hN2 (by omega) (((((Below.refl _ _).alloc (Nat.le_refl _) _).alloc (by simp) _).alloc (by simp; omega) _).drew.trans (hb3.mono (by omega))) (by simp [go_sem, bc2]) (by simp [go_sem, bc2]) (hf2.mono (by have := hb1.size; simp at this; omega)))
end Go.Proofs.Ytnbhcemgoifkgaa
