/- Contract of package bushelref02's Num. Conditions: the words are below 2^32; at most 1000 of them. -/
import Derived.Test.YtdbkgpakpadloaaGreatDoorMNatA
import Derived.Test.YtdbkgpakpadloaaGreatDoorBlk
import Derived.Test.YtdbkgpakpadloaaGreatDoorMReg
import Derived.Test.YtdbkgpakpadloaaGreatDoorMDiv
import Derived.Test.YtdbkgpakpadloaaGreatDoorMNatB
namespace Go.Proofs.YtdbkgpakpadloaaGreatDoor
open Go.RowKit

theorem fit_b32 {z : Int} {k : Nat} (h : z.natAbs < 4294967296 ^ k) (hk : k ≤ 30000) : Fit z := by
  refine Fit.of_pow2 (k := 32 * k) ?_ (by omega)
  rw [Nat.pow_mul]; exact h
theorem natAbs_lt {z : Int} {k : Nat} (h0 : 0 ≤ z) (h : z < 4294967296 ^ k) : z.natAbs < 4294967296 ^ k := by
  have e : ((4294967296 ^ k : Nat) : Int) = 4294967296 ^ k := by rw [Int.natCast_pow]; rfl
  omega
theorem V_fit {xs : List Int} (h : Dig 4294967296 xs) (hl : xs.length ≤ 30000) : Fit (V 4294967296 xs) := by
  obtain ⟨h1, h2⟩ := V_bd (B := 4294967296) (by decide) h
  exact fit_b32 (natAbs_lt h1 h2) hl
theorem wrap_u64_small {d : Int} (h0 : 0 ≤ d) (h1 : d < 4294967296) : IntKind.u64.wrap d = d := by
  simp only [IntKind.wrap, IntKind.bits, IntKind.signed]
  simp
  omega
theorem NumC.zero {w : World} : NumC w false none 0 0 0 := ⟨[], RowK.nil, Dig.nil, .inl rfl, rfl, fun h => by cases h⟩
/-- one word more -/
theorem num_step {xs : List Int} {X : Int} {k : Nat} (hv : V 4294967296 xs = vf 4294967296 (fun i => xs.getD i 0) (k + 1) + X * 4294967296 ^ (k + 1)) :
    V 4294967296 xs = vf 4294967296 (fun i => xs.getD i 0) k + (X * 4294967296 + xs.getD k 0) * 4294967296 ^ k := by
  have e : vf 4294967296 (fun i => xs.getD i 0) (k + 1) = vf 4294967296 (fun i => xs.getD i 0) k + xs.getD k 0 * 4294967296 ^ k := rfl
  rw [hv, e, Int.add_mul, Int.pow_succ, Int.mul_assoc, Int.mul_comm 4294967296]
  omega
theorem num_bd {X d : Int} {m : Nat} (h1 : X < 4294967296 ^ m) (h2 : d < 4294967296) : X * 4294967296 + d < 4294967296 ^ (m + 1) := by
  rw [Int.pow_succ]
  omega

end Go.Proofs.YtdbkgpakpadloaaGreatDoor
/- Contract of package bushelref02's Is, where it says yes: a trim list of the number that is asked. Condition: at most 1000 words. -/
namespace Go.Proofs.YtdbkgpakpadloaaGreatDoor
open Go.RowKit

end Go.Proofs.YtdbkgpakpadloaaGreatDoor
/- Contracts of package bushelref01's Two and of package bushelref02's Bits. Conditions: below 2^900000. -/
namespace Go.Proofs.YtdbkgpakpadloaaGreatDoor
open Go.RowKit

theorem fit_two {n : Nat} (h : n ≤ 900000) : Fit ((2 : Int) ^ n) := by
  refine Fit.of_pow2 (k := n + 1) ?_ (by omega)
  have e : ((2 : Int) ^ n).natAbs = 2 ^ n := by rw [Int.natAbs_pow]; rfl
  rw [e]
  exact Nat.pow_lt_pow_right (by decide) (by omega)

theorem two_bx (w : World) (t : TypeId) (c1 c2 : Array Value) : Blk ((w.alloc (.cells c1 t)).alloc (.cells c2 t)) w.heap.size t c1 ∧ Blk ((w.alloc (.cells c1 t)).alloc (.cells c2 t)) (w.heap.size + 1) t c2 ∧
    Below w.heap.size w ((w.alloc (.cells c1 t)).alloc (.cells c2 t)) ∧ ((w.alloc (.cells c1 t)).alloc (.cells c2 t)).heap.size = w.heap.size + 1 + 1 := by
  refine ⟨(Blk.new _ _ _).alloc _, ?_, ((Below.refl _ _).alloc (Nat.le_refl _) _).alloc (by simp) _, by simp⟩
  have h := Blk.new (w.alloc (.cells c1 t)) t c2
  simpa using h
theorem one_box (w : World) (t : TypeId) (c1 : Array Value) : Blk (w.alloc (.cells c1 t)) w.heap.size t c1 ∧ Below w.heap.size w (w.alloc (.cells c1 t)) :=
  ⟨Blk.new _ _ _, (Below.refl _ _).alloc (Nat.le_refl _) _⟩
theorem cmpZ_le {x y : Int} (h : x ≤ y) : cmpZ x y ≤ 0 := by
  unfold cmpZ; split
  · omega
  · split <;> omega

set_option maxHeartbeats 1000000 in
theorem two_any (n : Nat) (w : World) (hn : n ≤ 900000) : Calls Tryz.prog 81 #[.int .i64 n] w (RetNum w (2 ^ n)) := by
  have q0 : w.heap.size < w.heap.size + 1 := by omega
  go_enter Tryz.func81, Tryz.ntmps81
  go_wp2_with fail
  refine (nat_any 2 _ (by omega) (by omega)).mono ?_; rintro e w1 ⟨n1, a1, l1, c1, rfl, hN1, hb1, hf1⟩
  have HN1 := Lib.hid hN1
  clear hN1
  go_wp2_with fail
  refine (power_any n _ _ _ _ 2 _ HN1.out (fun m hm => fit_two (by omega)) (by omega)).mono ?_; rintro e w2 ⟨n2, a2, l2, c2, rfl, hN2, hb2, hf2⟩
  have hb3 := hb1.trans (hb2.mono hb1.size)
  obtain ⟨bc2, bf2⟩ := bcell hb3
  have HN2 := Lib.hid hN2
  clear hN2
  go_wp2_with fail
  have hz := hb1.size
  simp only [World.size_alloc] at hz
  exact bodyPost_ret (v := .agg #[.bool n2, .slice a2 l2 c2]) (by simp [results, Tryz.results81, go_sem, bc2]) rfl
    (RetNum.stored HN2.out (by omega) (((Below.refl _ _).alloc (Nat.le_refl _) _).trans (hb3.mono (by simp))) (by simp [go_sem, bc2]) (by simp [go_sem, bc2]) (hf2.mono (by omega)))

end Go.Proofs.YtdbkgpakpadloaaGreatDoor
