/- Whether a column may be: the contract of package derive's may. No conditions but those stated. -/
import Derived.Test.YtdbkgpakpadloaaSchE
namespace Go.Proofs.Ytdbkgpakpadloaa
open Go.RowKit

def mayQ (k m : Int) : Qry := ⟨0, [], [(k, m)], [], 0⟩
noncomputable def mayB (s : Sch) (k m : Int) : Bool := decide (chkS s = 0) && colB s.ints.length s.nums.length k m
theorem may_chk (s : Sch) (k m : Int) : decide (qchk s (mayQ k m) = 0) = mayB s k m := by
  have hp : (0 : Int) < 2 ^ s.dims.length := Int.pow_pos (by decide)
  unfold qchk mayB
  by_cases h : chkS s = 0
  · have hf : fchk s (mayQ k m).flts = 0 := by unfold fchk; rw [if_neg (by rw [h]; decide)]; rfl
    rw [if_neg (by rw [h]; decide), if_neg (by show ¬ (2 : Int) ^ s.dims.length ≤ 0; omega), if_neg (by rw [hf]; decide)]
    rcases hc : colB s.ints.length s.nums.length k m with _ | _
    · simp [mayQ, colsOk, colAt, hc, h]
    · simp [mayQ, colsOk, colAt, ordOk, hc, h]
  · rw [if_pos h, decide_eq_false h]; rfl

set_option maxHeartbeats 2000000 in
theorem may_any (w : World) (l : SchL) (s : Sch) (k m : Int) (h : SchAt w l s) (hk : I64 k) (hm : I64 m) :
    Calls Try.prog 15 #[l.val, .agg #[.int .i64 k, .int .i64 m]] w fun e w' => e = .returned (.bool (mayB s k m)) ∧ Below w.heap.size w w' := by
  obtain ⟨ad, nd, cd, ai, ni, ci, an, nn, cn, av, nv, cv⟩ := l
  obtain ⟨hbx, hby, hbw, hsz⟩ := two_pbox w 34 46 #[.slice ad nd cd, .slice ai ni ci, .slice an nn cn, .slice av nv cv] #[.int .i64 k, .int .i64 m]
  have HS := Lib.hid (h.below hbw (Nat.le_refl _))
  have HBW := Lib.hid hbw
  have HKM := Lib.hid (And.intro hk hm)
  have e0 := hbx 0
  have e1 := hbx 1
  have e2 := hbx 2
  have e3 := hbx 3
  have y0 := hby 0
  have y1 := hby 1
  simp only [List.getElem?_toArray, List.getElem?_cons_zero, List.getElem?_cons_succ] at e0 e1 e2 e3 y0 y1
  have HSZ := Lib.hid hsz
  clear h hbw hbx hby hsz hk hm
  unfold SchL.val
  go_enter Try.func15, Try.ntmps15
  go_upto_region 1 with fail
  generalize ((w.alloc (.cells #[.slice ad nd cd, .slice ai ni ci, .slice an nn cn, .slice av nv cv] 34)).alloc (.cells #[.int .i64 k, .int .i64 m] 46)) = w0 at *
  generalize hS : w.heap.size = S at *
  have HSS := Lib.hid hS
  clear hS
  have hSw : S < w0.heap.size := by have := HSZ.out; omega
  have hSw1 : S + 1 < w0.heap.size := by have := HSZ.out; omega
  obtain ⟨hbz, hbv, hbs⟩ := boxed w0 46 #[.int .i64 k, .int .i64 m]
  have HQ : Hid (QryAt (w0.alloc (.cells #[.int .i64 k, .int .i64 m] 46)) ⟨none, 0, 0, some ⟨w0.heap.size, 0, none⟩, 1, 1, none, 0, 0⟩ (mayQ k m)) := Lib.hid
    ⟨⟨⟨rfl, Nat.le_refl _, Nat.zero_le _, .inl rfl⟩, rfl, fun f hf => by cases hf⟩,
     ⟨rfl, Nat.le_refl _, by show 1 ≤ maxLen; unfold maxLen; omega, .inr ⟨w0.heap.size, 0, rfl, by simp, fun i hi => by
        rw [Nat.zero_add, hbz i]
        have : i = 0 ∨ i = 1 := by simp only at hi; omega
        rcases this with rfl | rfl <;> rfl⟩⟩, rfl,
     ⟨rfl, Nat.le_refl _, Nat.zero_le _, .inl rfl⟩, rfl, (show (0 : Int) ≤ 0 ∧ (0 : Int) ≤ 4294967295 by decide), (show -9223372036854775808 ≤ (0 : Int) ∧ (0 : Int) ≤ 9223372036854775807 by decide),
     fun c hc => by
       have : c = (k, m) := by simpa [mayQ] using hc
       subst this; exact HKM.out,
     fun o ho => by cases ho⟩
  have HS2 := Lib.hid (HS.out.below hbv (Nat.le_refl _))
  have HBV : Hid (Below S w (w0.alloc (.cells #[.int .i64 k, .int .i64 m] 46))) := Lib.hid (HBW.out.trans (hbv.mono (Nat.le_of_lt hSw)))
  obtain ⟨K, hK⟩ : ∃ K, qchk s (mayQ k m) = K := ⟨_, rfl⟩
  have HR : Hid (mayB s k m = decide (K = 0)) := Lib.hid (by rw [← may_chk, hK])
  have HCALL : Hid (∀ w', SchAt w' ⟨ad, nd, cd, ai, ni, ci, an, nn, cn, av, nv, cv⟩ s → QryAt w' ⟨none, 0, 0, some ⟨w0.heap.size, 0, none⟩, 1, 1, none, 0, 0⟩ (mayQ k m) → Calls Try.prog 25 #[.agg #[.slice ad nd cd, .slice ai ni ci, .slice an nn cn, .slice av nv cv], .agg #[.int .u32 0, .slice none 0 0, .slice (some ⟨w0.heap.size, 0, none⟩) 1 1, .slice none 0 0, .int .i64 0]] w' fun e w'' => e = .returned (.int .i64 (K : Int)) ∧ Below w'.heap.size w' w'') := Lib.hid (fun w' h1 h2 => by
    have h := qchk_any w' _ s _ _ h1 h2
    unfold RErr at h
    rw [hK] at h
    exact h)
  clear hbz hbv hbs hK
  go_wp2_with fail
  refine (HCALL.out _ HS2.out HQ.out).mono ?_; rintro e w1 ⟨rfl, hb1⟩
  have HB1 := Lib.hid (HBV.out.trans (hb1.mono (by simp; omega)))
  clear hb1
  go_wp2_with fail
  go_ret
  refine ⟨?_, by rw [HSS.out]; exact HB1.out⟩
  rw [HR.out]
  refine ret_b ?_
  rw [Bool.eq_iff_iff, decide_eq_true_eq]
  simp
end Go.Proofs.Ytdbkgpakpadloaa
