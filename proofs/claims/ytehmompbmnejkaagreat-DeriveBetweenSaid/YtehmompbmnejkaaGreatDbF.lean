/- Contracts of bushelref13's Of and bushelref11's Sub for no dimension. No conditions but those stated. -/
import Derived.Test.YtehmompbmnejkaaGreatMDbE
import Derived.Test.YtehmompbmnejkaaGreatMRs1
namespace Go.Proofs.YtehmompbmnejkaaGreat
open Go.RowKit Ieee

theorem in_none (i : Nat) : inM 0 i = false := by
 unfold inM
 rw [Int.zero_ediv]
 rfl
theorem sub_none (b : Int) : subB 0 b = true := subB_iff.2 fun i _ h => by rw [in_none] at h; cases h
set_option maxHeartbeats 2000000 in
theorem rkey0_any (w : World) (l : SchL) (ca : Option Addr) (kn cc : Nat) (hd : l.nd ≤ 31) :
  Calls Tryz.prog 29 #[l.val, .int .u32 0, .slice ca kn cc] w fun e w' => e = .returned (.int .u64 0) ∧ Below w.heap.size w w' := by
 obtain ⟨ad, nd, cd, ai, ni, ci, an, nn, cn, av, nv, cv⟩ := l
 obtain ⟨hbx, hbw, hsz⟩ := boxed w 26 #[.slice ad nd cd, .slice ai ni ci, .slice an nn cn, .slice av nv cv]
 have HBW := Lib.hid hbw
 have e0 := hbx 0
 simp only [List.getElem?_toArray, List.getElem?_cons_zero] at e0
 simp only at hd
 clear hbw hbx hsz
 unfold SchL.val
 go_enter Tryz.func29, Tryz.ntmps29
 go_upto_region 1 with fail
 generalize (w.alloc (.cells #[.slice ad nd cd, .slice ai ni ci, .slice an nn cn, .slice av nv cv] 26)) = w0 at *
 generalize hS : w.heap.size = S at *
 have HSS := Lib.hid hS
 clear hS
 go_wp2_with fail
 go_loopg [7, 8] nd (fun gg ku iu wr => ∃ (j : Nat), ku = .int .u64 0 ∧ iu = .int .i64 j ∧ j + gg = nd ∧ wr = w0)
 case atStart => exact ⟨0, rfl, rfl, by omega, rfl⟩
 case round =>
 obtain ⟨j, rfl, rfl, hqq, rfl⟩ := hrel
 have HQQ := Lib.hid hqq
 by_cases hlt : j < nd
 case pos =>
  have HIN := Lib.hid (fun w => rin_any 0 j w (by omega) (by decide) (by decide))
  rw [in_none] at HIN
  clear hqq
  go_wp2_with fail
  refine (HIN.out _).mono ?_; rintro e w1 ⟨rfl, rfl⟩
  go_wp2_with fail
  go_roundg (nd - j - 1)
  case measure => have := HQQ.out; omega
  case rel => exact ⟨j + 1, rfl, by go_num, by have := HQQ.out; omega, rfl⟩
 case neg =>
 obtain rfl : nd = j := by omega
 clear hqq
 go_wp2_with fail
 go_ret
 exact ⟨rfl, by rw [HSS.out]; exact HBW.out⟩
end Go.Proofs.YtehmompbmnejkaaGreat
