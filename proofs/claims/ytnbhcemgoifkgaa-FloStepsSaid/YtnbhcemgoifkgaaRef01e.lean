/- Contracts of package bushelref01's Cmp. Conditions: the numbers lie below 1000^1000000 where that is said. -/
import Derived.Test.YtnbhcemgoifkgaaRef01d
import Derived.Test.YtnbhcemgoifkgaaWholeFits
namespace Go.Proofs.Ytnbhcemgoifkgaa
open Go.RowKit

theorem NumC.sign {w : World} {neg : Bool} {a : Option Addr} {n c : Nat} {z : Int} (h : NumC w neg a n c z) : neg = decide (z < 0) := by
  obtain ⟨xs, _, hd, _, hz, hn⟩ := h
  have h0 := (V_bd (B := 1000) (by decide) hd).1
  cases neg
  · simp only [Bool.false_eq_true, if_false] at hz
    rw [eq_comm, decide_eq_false_iff_not]; omega
  · simp only [if_true] at hz
    have := hn rfl
    rw [eq_comm, decide_eq_true_eq]; omega

theorem cmp_any (na nb : Bool) (a b : Option Addr) (n c m d : Nat) (x y : Int) (w : World) (hx : NumC w na a n c x) (hy : NumC w nb b m d y) :
    Calls Try.prog 28 #[.agg #[.bool na, .slice a n c], .agg #[.bool nb, .slice b m d]] w fun e w' => e = .returned (.int .i64 (cmpZ x y)) ∧ Below w.heap.size w w' := by
  have sx := hx.sign
  have sy := hy.sign
  obtain ⟨xs, hr, hd, ht, hz, hg⟩ := hx
  obtain ⟨ys, kr, kd, kt, kz, kg⟩ := hy
  have HL1 := Lib.hid (fun w1 (hb : Below w.heap.size w w1) => less_any a b n c m d xs ys w1 (hr.below hb (Nat.le_refl _)) (kr.below hb (Nat.le_refl _)) hd kd)
  have HL2 := Lib.hid (fun w1 (hb : Below w.heap.size w w1) => less_any b a m d n c ys xs w1 (kr.below hb (Nat.le_refl _)) (hr.below hb (Nat.le_refl _)) kd hd)
  have HB : Hid (Below w.heap.size w ((w.alloc (.cells #[.bool na, .slice a n c] 27)).alloc (.cells #[.bool nb, .slice b m d] 27))) := Lib.hid (((Below.refl _ _).alloc (Nat.le_refl _) _).alloc (by simp) _)
  clear hr kr hd kd
  cases na <;> cases nb
  · have HE : Hid (cmpZ (V 1000 xs) (V 1000 ys) = cmpZ x y) := by
      have h : cmpZ (V 1000 xs) (V 1000 ys) = cmpZ x y := by rw [hz, kz]; rfl
      exact Lib.hid h
    clear hz kz hg kg sx sy ht kt
    go_enter Try.func28, Try.ntmps28
    go_wp2_with fail
    refine (HL1.out _ HB.out).mono ?_; rintro e w' ⟨rfl, rfl⟩
    go_wp2_with fail
    go_ret
    exact ⟨ret_int HE.out, HB.out⟩
  · have HE : Hid (cmpZ x y = 1) := by
      have h : cmpZ x y = 1 := cmpZ_gt (by have := of_decide_eq_true sy.symm; have := of_decide_eq_false sx.symm; omega)
      exact Lib.hid h
    clear hz kz hg kg sx sy ht kt
    go_enter Try.func28, Try.ntmps28
    go_wp2_with fail
    go_ret
    exact ⟨ret_int HE.out.symm, HB.out⟩
  · have HE : Hid (cmpZ x y = -1) := by
      have h : cmpZ x y = -1 := cmpZ_lt (by have := of_decide_eq_true sx.symm; have := of_decide_eq_false sy.symm; omega)
      exact Lib.hid h
    clear hz kz hg kg sx sy ht kt
    go_enter Try.func28, Try.ntmps28
    go_wp2_with fail
    go_ret
    exact ⟨ret_int HE.out.symm, HB.out⟩
  · have HE : Hid (cmpZ (V 1000 ys) (V 1000 xs) = cmpZ x y) := by
      have h : cmpZ (V 1000 ys) (V 1000 xs) = cmpZ x y := by
        simp only [if_true] at hz kz
        unfold cmpZ; rw [hz, kz]
        split <;> split <;> (try split) <;> (try split) <;> omega
      exact Lib.hid h
    clear hz kz hg kg sx sy ht kt
    go_enter Try.func28, Try.ntmps28
    go_wp2_with fail
    refine (HL2.out _ HB.out).mono ?_; rintro e w' ⟨rfl, rfl⟩
    go_wp2_with fail
    go_ret
    exact ⟨ret_int HE.out, HB.out⟩

end Go.Proofs.Ytnbhcemgoifkgaa
