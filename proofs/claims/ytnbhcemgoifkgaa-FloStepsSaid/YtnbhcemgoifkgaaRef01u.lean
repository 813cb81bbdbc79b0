/- Contracts of package bushelref01's Uint, and of Cmp once more. Conditions: the number has room in 64 bits where that is said. -/
import Derived.Test.YtnbhcemgoifkgaaRef01e
namespace Go.Proofs.Ytnbhcemgoifkgaa
open Go.RowKit

theorem uint_step {xs : List Int} {t : Int} {k : Nat} (hd : Dig 1000 xs) (h0 : 0 ≤ t) (hv : V 1000 xs = vf 1000 (fun i => xs.getD i 0) (k + 1) + t * 1000 ^ (k + 1)) (hl : V 1000 xs ≤ 18446744073709551615) :
    V 1000 xs = vf 1000 (fun i => xs.getD i 0) k + (t * 1000 + xs.getD k 0) * 1000 ^ k ∧ 0 ≤ t * 1000 ∧ t * 1000 + xs.getD k 0 ≤ 18446744073709551615 := by
  have e : vf 1000 (fun i => xs.getD i 0) (k + 1) = vf 1000 (fun i => xs.getD i 0) k + xs.getD k 0 * 1000 ^ k := rfl
  have h1 := (vf_bd (B := 1000) (by decide) (f := fun i => xs.getD i 0) k (fun i _ => hd.at (by decide) i)).1
  have h2 := (hd.at (B := 1000) (by decide) k).1
  have hp : (0 : Int) < 1000 ^ k := Int.pow_pos (by decide)
  have hv' : V 1000 xs = vf 1000 (fun i => xs.getD i 0) k + (t * 1000 + xs.getD k 0) * 1000 ^ k := by
    rw [hv, e, Int.add_mul, Int.pow_succ, Int.mul_assoc, Int.mul_comm 1000]; omega
  refine ⟨hv', by omega, ?_⟩
  have h3 : (t * 1000 + xs.getD k 0) * 1 ≤ (t * 1000 + xs.getD k 0) * 1000 ^ k := Int.mul_le_mul_of_nonneg_left (by omega) (by omega)
  omega

theorem uint_any (na : Bool) (a : Option Addr) (n c : Nat) (x : Int) (w : World) (hx : NumC w na a n c x) (hl : x.natAbs ≤ 18446744073709551615) :
    Calls Try.prog 41 #[.agg #[.bool na, .slice a n c]] w fun e w' => e = .returned (.int .u64 (x.natAbs : Int)) ∧ Below w.heap.size w w' := by
  have hn := hx.len (Fit.i64 (by omega) (by omega))
  obtain ⟨xs, hr, hd, ht, hz, hg⟩ := hx
  have hv : V 1000 xs = x.natAbs := by
    have := (V_bd (B := 1000) (by decide) hd).1
    rw [hz]; split <;> omega
  have hvl : V 1000 xs ≤ 18446744073709551615 := by omega
  have HR := Lib.hid hr
  have HD := Lib.hid hd
  have HV := Lib.hid hv
  have HVL := Lib.hid hvl
  have HB : Hid (Below w.heap.size w (w.alloc (.cells #[.bool na, .slice a n c] 27))) := Lib.hid ((Below.refl _ _).alloc (Nat.le_refl _) _)
  have hl' := hr.1
  have HL := Lib.hid hl'
  clear hr hd ht hz hg hv hvl hl hl'
  go_enter Try.func41, Try.ntmps41
  go_wp2_with fail
  go_loopg [3, 4] n (fun k u i wr => wr = w.alloc (.cells #[.bool na, .slice a n c] 27) ∧ i = .int .i64 ((k : Int) - 1) ∧ k ≤ n ∧ ∃ t : Int, u = .int .u64 t ∧ 0 ≤ t ∧ V 1000 xs = vf 1000 (fun i => xs.getD i 0) k + t * 1000 ^ k)
  case atStart => exact ⟨rfl, rfl, Nat.le_refl _, 0, rfl, by omega, by rw [Int.zero_mul, Int.add_zero, vf_ext (by rw [HL.out]; exact Nat.le_refl _)]⟩
  case round =>
    obtain ⟨rfl, rfl, hk, t, rfl, ht0, hv⟩ := hrel
    by_cases h0 : gk = 0
    · subst h0
      have HT : Hid (t = x.natAbs) := by
        have h : t = x.natAbs := by rw [← HV.out, hv, Int.pow_zero]; simp [vf]
        exact Lib.hid h
      clear hv
      go_wp2_with fail
      go_ret
      exact ⟨ret_int HT.out, HB.out⟩
    · obtain ⟨k, rfl⟩ : ∃ k, gk = k + 1 := ⟨gk - 1, by omega⟩
      obtain ⟨u1, u2, u3⟩ := uint_step HD.out ht0 hv HVL.out
      have hdr := (HD.out.at (B := 1000) (by decide) k)
      obtain ⟨-, -, -, ha4⟩ := HR.out
      rcases ha4 with hcap0 | ⟨ba, oa, rfl, hba, hca⟩
      · have := HR.out.2.1; omega
      have hc1 := hca k (by omega)
      obtain ⟨d, hd⟩ : ∃ d, xs.getD k 0 = d := ⟨_, rfl⟩
      have HD1 := Lib.hid hd
      rw [hd] at hc1 hdr u1 u3
      have U1 := Lib.hid u1
      clear hca hd hv u1
      have e5 : (((k + 1 : Nat) : Int) - 1).toNat = k := by omega
      have e6 : ((k + 1 : Nat) : Int) - 1 = (k : Int) := by omega
      rw [e6]
      clear e5 e6
      go_wp2_with fail
      go_roundg k
      case measure => omega
      case rel => exact ⟨rfl, rfl, by omega, _, rfl, by omega, U1.out⟩

theorem cmp_at (na nb : Bool) (a b : Option Addr) (n c m d : Nat) (x y r : Int) (w : World) (hr : cmpZ x y = r) (hx : NumC w na a n c x) (hy : NumC w nb b m d y) :
    Calls Try.prog 28 #[.agg #[.bool na, .slice a n c], .agg #[.bool nb, .slice b m d]] w fun e w' => e = .returned (.int .i64 r) ∧ Below w.heap.size w w' := by
  subst hr; exact cmp_any na nb a b n c m d x y w hx hy

end Go.Proofs.Ytnbhcemgoifkgaa
