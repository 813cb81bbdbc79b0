/- Contracts of package names and bushelref10: Same, Word, Is. Conditions: those stated. -/
import Derived.Test.YtdbkgpakpadloaaNames
namespace Go.Proofs.Ytdbkgpakpadloaa
open Go.RowKit

theorem bl_trans : ∀ (x y z : List UInt8), Op.bytesLess x y = true → Op.bytesLess y z = true → Op.bytesLess x z = true
  | [], [], _, h, _ => by simp [Op.bytesLess] at h
  | [], _ :: _, [], _, h => by simp [Op.bytesLess] at h
  | [], _ :: _, _ :: _, _, _ => by simp [Op.bytesLess]
  | _ :: _, [], _, h, _ => by simp [Op.bytesLess] at h
  | _ :: _, _ :: _, [], _, h => by simp [Op.bytesLess] at h
  | a :: x, b :: y, c :: z, h1, h2 => by
    rw [Op.bytesLess, Bool.or_eq_true, Bool.and_eq_true, decide_eq_true_eq, beq_iff_eq] at h1 h2 ⊢
    rcases h1 with h1 | ⟨rfl, h1⟩ <;> rcases h2 with h2 | ⟨rfl, h2⟩
    · exact .inl (UInt8.lt_trans h1 h2)
    · exact .inl h1
    · exact .inl h2
    · exact .inr ⟨rfl, bl_trans x y z h1 h2⟩
theorem bl_irr : ∀ (x : List UInt8), Op.bytesLess x x = false
  | [] => by simp [Op.bytesLess]
  | a :: x => by simp [Op.bytesLess, bl_irr x]

theorem words_sorted : ∀ k, k < 16 → ∀ j, j < k → Op.bytesLess (wordList.getD j ByteArray.empty).toList (wordList.getD k ByteArray.empty).toList = true := by
  simp only [Lib.toList_data]
  decide

def wordB (s : ByteArray) : Bool := decide (0 ≤ place wordList s)
theorem wordB_yes {s : ByteArray} {k : Nat} (hk : k < 16) (h : wordList.getD k ByteArray.empty = s) : wordB s = true := by
  unfold wordB
  rw [decide_eq_true_eq, place_mem, ← h]
  exact getDs_mem hk
theorem wordB_no {s : ByteArray} (h : ∀ j, j < 16 → wordList.getD j ByteArray.empty ≠ s) : wordB s = false := by
  unfold wordB
  rw [decide_eq_false_iff_not, place_mem]
  intro hm
  obtain ⟨j, hj, e⟩ := mem_getDs hm
  exact h j hj e

theorem nmword_any (s : ByteArray) (w : World) : Calls Try.prog 37 #[.string s] w fun e w' => e = .returned (.bool (wordB s)) ∧ Below w.heap.size w w' := by
  go_enter Try.func37, Try.ntmps37
  go_wp2_with fail
  refine (pwords_any _).mono ?_; rintro e w1 ⟨rfl, hr, hb⟩
  have HR := Lib.hid hr
  have HB := Lib.hid hb
  clear hr hb
  go_wp2_with fail
  go_loopg [4, 5] 16 (fun g u v wr => w1 = wr ∧ ∃ lo hi : Nat, u = .int .i64 lo ∧ v = .int .i64 hi ∧ hi - lo ≤ g ∧ lo ≤ hi ∧ hi ≤ 16 ∧ (∀ j, j < lo → wordList.getD j ByteArray.empty ≠ s) ∧ (∀ j, hi ≤ j → j < 16 → wordList.getD j ByteArray.empty ≠ s))
  case atStart => exact ⟨rfl, 0, 16, rfl, rfl, by omega, by omega, by omega, fun j hj => by omega, fun j h1 h2 => by omega⟩
  case round =>
    obtain ⟨rfl, lo, hi, rfl, rfl, hg, hl, hh, h1, h2⟩ := hrel
    have H1 := Lib.hid h1
    have H2 := Lib.hid h2
    clear h1 h2
    by_cases hlt : lo < hi
    · obtain ⟨mid, hmid⟩ : ∃ m, m = (lo + hi) / 2 := ⟨_, rfl⟩
      have m1 : lo ≤ mid := by omega
      have m2 : mid < hi := by omega
      have m3 : mid < 16 := by omega
      have m4 : (0 : Int) ≤ (mid : Int) := by omega
      obtain ⟨-, -, -, h4⟩ := HR.out
      rcases h4 with hcap0 | ⟨b, off, e0, hb, hc⟩
      · omega
      have hc1 := hc mid m3
      simp only [Option.some.injEq, Addr.mk.injEq] at e0
      obtain ⟨rfl, rfl, -⟩ := e0
      rw [Nat.zero_add] at hc1
      obtain ⟨x, hx⟩ : ∃ x, wordList.getD mid ByteArray.empty = x := ⟨_, rfl⟩
      rw [hx] at hc1
      have HX := Lib.hid hx
      have hc2 : w1.cell? ⟨w.heap.size, (lo + hi) / 2, none⟩ = some (.string x) := by rw [← hmid]; exact hc1
      clear hc hx hb hc1
      have HMID := Lib.hid hmid
      clear hmid
      by_cases he : x = s
      · have hq1 := str_eq he
        have HE := Lib.hid he
        clear he
        go_wp2_with fail
        go_ret
        exact ⟨ret_boolS (wordB_yes m3 (HX.out.trans HE.out)).symm, HB.out⟩
      · have hq1 := str_ne he
        have HE := Lib.hid he
        clear he
        by_cases hls : Op.bytesLess x.toList s.toList = true
        · go_wp2_with fail
          go_roundg (hi - (mid + 1))
          case measure => omega
          case rel => exact ⟨rfl, mid + 1, hi, congrArg (Value.int .i64) (by have := HMID.out; omega), rfl, by omega, by omega, by omega, (fun j hj e => by
            by_cases h : j = mid
            · rw [h, HX.out] at e; exact HE.out e
            · have hs := words_sorted mid m3 j (by omega)
              rw [HX.out, e] at hs
              have := bl_trans _ _ _ hs hls
              rw [bl_irr] at this; cases this), H2.out⟩
        · have hls' : Op.bytesLess x.toList s.toList = false := by simpa using hls
          have HLS := Lib.hid hls
          clear hls
          go_wp2_with fail
          go_roundg (mid - lo)
          case measure => omega
          case rel => exact ⟨rfl, lo, mid, rfl, congrArg (Value.int .i64) (by have := HMID.out; omega), by omega, by omega, by omega, H1.out, fun j hj hj2 e => by
            by_cases h : j = mid
            · rw [h, HX.out] at e; exact HE.out e
            · have hs := words_sorted j hj2 mid (by omega)
              rw [HX.out, e] at hs
              exact HLS.out hs⟩
    · go_wp2_with fail
      go_ret
      exact ⟨ret_boolS (wordB_no fun j hj => by
        by_cases h : j < lo
        · exact H1.out j h
        · exact H2.out j (by omega) hj).symm, HB.out⟩
end Go.Proofs.Ytdbkgpakpadloaa
