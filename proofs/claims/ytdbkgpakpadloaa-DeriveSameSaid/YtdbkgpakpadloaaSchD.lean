/- Which column may be: the contract of package query's column. No conditions but those stated. -/
import Derived.Test.YtdbkgpakpadloaaSchC
namespace Go.Proofs.Ytdbkgpakpadloaa
open Go.RowKit

def colB (ni nn : Nat) (k m : Int) : Bool :=
  if k = 0 then decide (m = 0) else if 1 ≤ k ∧ k ≤ 4 then decide (0 ≤ m ∧ m < (ni + nn : Nat)) else if k = 5 ∨ k = 6 then decide (0 ≤ m ∧ m < (ni : Nat)) else false
theorem two_pbox (w : World) (t t2 : TypeId) (cs ds : Array Value) : (∀ i, ((w.alloc (.cells cs t)).alloc (.cells ds t2)).cell? ⟨w.heap.size, i, none⟩ = cs[i]?) ∧ (∀ i, ((w.alloc (.cells cs t)).alloc (.cells ds t2)).cell? ⟨w.heap.size + 1, i, none⟩ = ds[i]?) ∧
    Below w.heap.size w ((w.alloc (.cells cs t)).alloc (.cells ds t2)) ∧ ((w.alloc (.cells cs t)).alloc (.cells ds t2)).heap.size = w.heap.size + 1 + 1 := by
  refine ⟨fun i => ?_, fun i => ?_, ((Below.refl _ _).alloc (Nat.le_refl _) _).alloc (by simp) _, by simp⟩
  · exact cell_of_row _ w.heap.size i cs t (0, 0) ((Below.heap_alloc (w.alloc (.cells cs t)) _ _ (by simp)).trans (heap_alloc_new w _))
  · simp
theorem ret_b {a b : Bool} (h : a = b) : Ending.returned (.bool b) = .returned (.bool a) := by rw [h]

set_option maxHeartbeats 4000000 in
theorem column_any (w : World) (l : SchL) (k m : Int) (hi : l.ni ≤ 1000) (hn : l.nn ≤ 1000) (hk : -9223372036854775808 ≤ k ∧ k ≤ 9223372036854775807) (hm : -9223372036854775808 ≤ m ∧ m ≤ 9223372036854775807) :
    Calls Try.prog 40 #[l.val, .agg #[.int .i64 k, .int .i64 m]] w fun e w' => e = .returned (.bool (colB l.ni l.nn k m)) ∧ Below w.heap.size w w' := by
  obtain ⟨ad, nd, cd, ai, ni, ci, an, nn, cn, av, nv, cv⟩ := l
  simp only at hi hn ⊢
  obtain ⟨hbx, hby, hbw, -⟩ := two_pbox w 34 46 #[.slice ad nd cd, .slice ai ni ci, .slice an nn cn, .slice av nv cv] #[.int .i64 k, .int .i64 m]
  have HBW := Lib.hid hbw
  have e1 := hbx 1
  have e2 := hbx 2
  have y0 := hby 0
  have y1 := hby 1
  simp only [List.getElem?_toArray, List.getElem?_cons_zero, List.getElem?_cons_succ] at e1 e2 y0 y1
  obtain ⟨k0, k1⟩ := hk
  obtain ⟨m0, m1⟩ := hm
  clear hbw hbx hby
  obtain ⟨r, hr⟩ : ∃ r, colB ni nn k m = r := ⟨_, rfl⟩
  have HR := Lib.hid hr
  clear hr
  unfold SchL.val
  rw [HR.out]
  go_enter Try.func40, Try.ntmps40
  go_upto_region 1 with fail
  generalize ((w.alloc (.cells #[.slice ad nd cd, .slice ai ni ci, .slice an nn cn, .slice av nv cv] 34)).alloc (.cells #[.int .i64 k, .int .i64 m] 46)) = w0 at *
  by_cases h0 : k = 0
  · subst h0
    have HE : Hid ((m == 0) = r) := Lib.hid (by rw [← HR.out]; unfold colB; rw [if_pos rfl, Bool.eq_iff_iff, beq_iff_eq, decide_eq_true_eq])
    go_wp2_with fail
    go_ret
    exact ⟨ret_b HE.out.symm, HBW.out⟩
  have t0 : (k == 0) = false := by simpa using h0
  by_cases h14 : 1 ≤ k ∧ k ≤ 4
  · obtain ⟨p, hp⟩ : ∃ p, ni + nn = p := ⟨_, rfl⟩
    have hpi : (ni : Int) + (nn : Int) = (p : Int) := by omega
    have hpb : p ≤ 2000 := by omega
    have HE : Hid (r = (decide (0 ≤ m) && decide (m < (p : Int)))) := Lib.hid (by rw [← HR.out]; unfold colB; rw [if_neg h0, if_pos h14, hp, Bool.eq_iff_iff]; simp)
    have hcase : k = 1 ∨ k = 2 ∨ k = 3 ∨ k = 4 := by omega
    clear h0 h14 hp
    obtain ⟨M, hM⟩ : ∃ M, decide (0 ≤ m) = M := ⟨_, rfl⟩
    rw [hM] at HE
    rcases hcase with rfl | rfl | rfl | rfl <;> cases M
    all_goals
      go_wp2_with fail
      go_ret
      exact ⟨ret_b HE.out, HBW.out⟩
  by_cases h56 : k = 5 ∨ k = 6
  · have HE : Hid (r = (decide (0 ≤ m) && decide (m < (ni : Int)))) := Lib.hid (by rw [← HR.out]; unfold colB; rw [if_neg h0, if_neg h14, if_pos h56, Bool.eq_iff_iff]; simp)
    clear h0 h14
    obtain ⟨M, hM⟩ : ∃ M, decide (0 ≤ m) = M := ⟨_, rfl⟩
    rw [hM] at HE
    rcases h56 with rfl | rfl <;> cases M
    all_goals
      go_wp2_with fail
      go_ret
      exact ⟨ret_b HE.out, HBW.out⟩
  · have HE : Hid (r = false) := Lib.hid (by rw [← HR.out]; unfold colB; rw [if_neg h0, if_neg h14, if_neg h56])
    have t1 : (k == 1) = false := by simp; omega
    have t2 : (k == 2) = false := by simp; omega
    have t3 : (k == 3) = false := by simp; omega
    have t4 : (k == 4) = false := by simp; omega
    have t5 : (k == 5) = false := by simp; omega
    have t6 : (k == 6) = false := by simp; omega
    clear h0 h14 h56
    go_wp2_with fail
    go_ret
    exact ⟨ret_b HE.out, HBW.out⟩
end Go.Proofs.Ytdbkgpakpadloaa
