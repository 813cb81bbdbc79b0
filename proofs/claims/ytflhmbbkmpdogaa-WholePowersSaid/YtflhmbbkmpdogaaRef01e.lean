/- Contracts of package bushelref01's Cmp, Of, Uint, Int, Fits, Is. Conditions: the numbers lie below 1000^1000000 where that is said. -/
import Derived.Test.YtflhmbbkmpdogaaRef01d
import Derived.Test.YtflhmbbkmpdogaaWholeFits
namespace Go.Proofs.Ytflhmbbkmpdogaa
open Go.RowKit

theorem NumC.sign {w : World} {neg : Bool} {a : Option Addr} {n c : Nat} {z : Int} (h : NumC w neg a n c z) : neg = decide (z < 0) := by
  obtain ⟨xs, _, hd, _, hz, hn⟩ := h
  have h0 := (V_bd (B := 1000) (by decide) hd).1
  cases neg
  · simp only [Bool.false_eq_true, if_false] at hz
    rw [eq_comm, decide_eq_false_iff_not]; omega
  · simp only [if_true] at hz
    have := hn rfl
    rw [eq_comm, decide_eq_true_eq]; omega

theorem cmp_any (na nb : Bool) (a b : Option Addr) (n c m d : Nat) (x y : Int) (w : World) (hx : NumC w na a n c x) (hy : NumC w nb b m d y) :
    Calls Try.prog 29 #[.agg #[.bool na, .slice a n c], .agg #[.bool nb, .slice b m d]] w fun e w' => e = .returned (.int .i64 (cmpZ x y)) ∧ Below w.heap.size w w' := by
  have sx := hx.sign
  have sy := hy.sign
  obtain ⟨xs, hr, hd, ht, hz, hg⟩ := hx
  obtain ⟨ys, kr, kd, kt, kz, kg⟩ := hy
  have HL1 := Lib.hid (fun w1 (hb : Below w.heap.size w w1) => less_any a b n c m d xs ys w1 (hr.below hb (Nat.le_refl _)) (kr.below hb (Nat.le_refl _)) hd kd)
  have HL2 := Lib.hid (fun w1 (hb : Below w.heap.size w w1) => less_any b a m d n c ys xs w1 (kr.below hb (Nat.le_refl _)) (hr.below hb (Nat.le_refl _)) kd hd)
  have HB : Hid (Below w.heap.size w ((w.alloc (.cells #[.bool na, .slice a n c] 26)).alloc (.cells #[.bool nb, .slice b m d] 26))) := Lib.hid (((Below.refl _ _).alloc (Nat.le_refl _) _).alloc (by simp) _)
  clear hr kr hd kd
  cases na <;> cases nb
  · have HE : Hid (cmpZ (V 1000 xs) (V 1000 ys) = cmpZ x y) := by
      have h : cmpZ (V 1000 xs) (V 1000 ys) = cmpZ x y := by rw [hz, kz]; rfl
      exact Lib.hid h
    clear hz kz hg kg sx sy ht kt
    go_enter Try.func29, Try.ntmps29
    go_wp2_with fail
    refine (HL1.out _ HB.out).mono ?_; rintro e w' ⟨rfl, rfl⟩
    go_wp2_with fail
    go_ret
    exact ⟨ret_int HE.out, HB.out⟩
  · have HE : Hid (cmpZ x y = 1) := by
      have h : cmpZ x y = 1 := cmpZ_gt (by have := of_decide_eq_true sy.symm; have := of_decide_eq_false sx.symm; omega)
      exact Lib.hid h
    clear hz kz hg kg sx sy ht kt
    go_enter Try.func29, Try.ntmps29
    go_wp2_with fail
    go_ret
    exact ⟨ret_int HE.out.symm, HB.out⟩
  · have HE : Hid (cmpZ x y = -1) := by
      have h : cmpZ x y = -1 := cmpZ_lt (by have := of_decide_eq_true sx.symm; have := of_decide_eq_false sy.symm; omega)
      exact Lib.hid h
    clear hz kz hg kg sx sy ht kt
    go_enter Try.func29, Try.ntmps29
    go_wp2_with fail
    go_ret
    exact ⟨ret_int HE.out.symm, HB.out⟩
  · have HE : Hid (cmpZ (V 1000 ys) (V 1000 xs) = cmpZ x y) := by
      have h : cmpZ (V 1000 ys) (V 1000 xs) = cmpZ x y := by
        simp only [if_true] at hz kz
        unfold cmpZ; rw [hz, kz]
        split <;> split <;> (try split) <;> (try split) <;> omega
      exact Lib.hid h
    clear hz kz hg kg sx sy ht kt
    go_enter Try.func29, Try.ntmps29
    go_wp2_with fail
    refine (HL2.out _ HB.out).mono ?_; rintro e w' ⟨rfl, rfl⟩
    go_wp2_with fail
    go_ret
    exact ⟨ret_int HE.out, HB.out⟩

theorem of_any (x : Int) (w : World) (h0 : -9223372036854775808 ≤ x) (h1 : x ≤ 9223372036854775807) :
    Calls Try.prog 10 #[.int .i64 x] w (RetNum w x) := by
  by_cases hx : x < 0
  · have HB : Hid (Below w.heap.size w (w.alloc (.cells #[.bool false, .slice none 0 0] 26))) := Lib.hid ((Below.refl _ _).alloc (Nat.le_refl _) _)
    go_enter Try.func10, Try.ntmps10
    go_wp2_with fail
    refine (nat_any _ _ (by omega) (by omega)).mono ?_; rintro e w1 ⟨neg1, a1, n1, c1, rfl, hN1, hb1, hf1⟩
    simp only [World.size_alloc] at hb1
    have HN1 := Lib.hid hN1
    clear hN1
    go_wp2_with fail
    refine (nat_any _ _ (by omega) (by omega)).mono ?_; rintro e w2 ⟨neg2, a2, n2, c2, rfl, hN2, hb2, hf2⟩
    have hz1 := hb1.size
    simp only [World.size_alloc] at hz1
    have hz2 := hb2.size
    have hb2' := hb1.trans (hb2.mono hz1)
    have HN2 := Lib.hid hN2
    clear hN2
    go_wp2_with fail
    refine (add_any _ _ _ _ _ _ _ _ _ _ _ (HN1.out.below hb2 (Nat.le_refl _)) HN2.out (Fit.i64 (by omega) (by omega)) (Fit.i64 (by omega) (by omega))).mono ?_; rintro e w3 ⟨neg3, a3, n3, c3, rfl, hN3, hb3, hf3⟩
    have hb3' := hb2'.trans (hb3.mono (by omega))
    have hz3 := hb3.size
    have HN3 := Lib.hid hN3
    clear hN3
    go_wp2_with fail
    refine (neg_any _ _ _ _ _ _ HN3.out).mono ?_; rintro e w4 ⟨neg4, a4, n4, c4, rfl, hN4, hb4, hf4⟩
    have hb4' := hb3'.trans (hb4.mono (by omega))
    rw [show -(-(x + 1) + 1) = x from by omega] at hN4
    obtain ⟨bc, bf⟩ := bcell hb4'
    have HN4 := Lib.hid hN4
    clear hN4
    go_wp2_with fail
    exact bodyPost_ret (v := .agg #[.bool neg4, .slice a4 n4 c4]) (by simp [results, Try.results10, go_sem, bc]) rfl
      (RetNum.stored HN4.out (Nat.le_refl _) (HB.out.trans (hb4'.mono (by omega))) (by simp [go_sem, bc]) (by simp [go_sem, bc]) ((hf3.mono (by omega)).same hf4))
  · have HB : Hid (Below w.heap.size w (w.alloc (.cells #[.bool false, .slice none 0 0] 26))) := Lib.hid ((Below.refl _ _).alloc (Nat.le_refl _) _)
    go_enter Try.func10, Try.ntmps10
    go_wp2_with fail
    refine (nat_any _ _ (by omega) (by omega)).mono ?_; rintro e w1 ⟨neg1, a1, n1, c1, rfl, hN1, hb1, hf1⟩
    simp only [World.size_alloc] at hb1
    obtain ⟨bc, bf⟩ := bcell hb1
    have HN1 := Lib.hid hN1
    clear hN1
    go_wp2_with fail
    exact bodyPost_ret (v := .agg #[.bool neg1, .slice a1 n1 c1]) (by simp [results, Try.results10, go_sem, bc]) rfl
      (RetNum.stored HN1.out (Nat.le_refl _) (HB.out.trans (hb1.mono (by omega))) (by simp [go_sem, bc]) (by simp [go_sem, bc]) (hf1.mono (by simp)))
end Go.Proofs.Ytflhmbbkmpdogaa
