/- Contracts of package bushelref10 and of package names: lists of strings. Conditions: those stated. -/
import Derived.Test.YtaofjnidniekjaaStrs
namespace Go.Proofs.Ytaofjnidniekjaa
open Go.RowKit

theorem words_row (w : World) (cs : Array Value) (t : TypeId) (h : cs = (wordList.map Value.string).toArray) : RowS (w.alloc (.cells cs t)) (some ⟨w.heap.size, 0, none⟩) 16 16 wordList := by
  refine ⟨rfl, Nat.le_refl _, by unfold maxLen; omega, .inr ⟨w.heap.size, 0, rfl, by simp, fun i hi => ?_⟩⟩
  rw [cell_of_row _ _ _ cs t (0, 0) (heap_alloc_new w _), h, Nat.zero_add]
  have hl : i < wordList.length := hi
  simp [hl]

theorem rwords_any (w : World) : Calls Try.prog 70 #[] w fun e w' => e = .returned (.slice (some ⟨w.heap.size, 0, none⟩) 16 16) ∧ RowS w' (some ⟨w.heap.size, 0, none⟩) 16 16 wordList ∧ Below w.heap.size w w' := by
  go_enter Try.func70, Try.ntmps70
  go_wp2
  go_ret
  exact ⟨rfl, words_row _ _ _ rfl, (Below.refl _ _).alloc (Nat.le_refl _) _⟩
theorem rWords_any (w : World) : Calls Try.prog 45 #[] w fun e w' => e = .returned (.slice (some ⟨w.heap.size, 0, none⟩) 16 16) ∧ RowS w' (some ⟨w.heap.size, 0, none⟩) 16 16 wordList ∧ Below w.heap.size w w' := by
  go_enter Try.func45, Try.ntmps45
  go_wp2_with fail
  refine (rwords_any _).mono ?_; rintro e w1 ⟨rfl, hr, hb⟩
  go_wp2_with fail
  go_ret
  exact ⟨rfl, hr, hb⟩
theorem pwords_any (w : World) : Calls Try.prog 69 #[] w fun e w' => e = .returned (.slice (some ⟨w.heap.size, 0, none⟩) 16 16) ∧ RowS w' (some ⟨w.heap.size, 0, none⟩) 16 16 wordList ∧ Below w.heap.size w w' := by
  go_enter Try.func69, Try.ntmps69
  go_wp2
  go_ret
  exact ⟨rfl, words_row _ _ _ rfl, (Below.refl _ _).alloc (Nat.le_refl _) _⟩

theorem rplace_any (a : Option Addr) (n cap : Nat) (xs : List ByteArray) (s : ByteArray) (w : World) (h : RowS w a n cap xs) :
    Calls Try.prog 44 #[.slice a n cap, .string s] w fun e w' => e = .returned (.int .i64 (place xs s)) ∧ w = w' := by
  have H := Lib.hid h
  have hn : n ≤ 9223372036854775807 := by have := h.2.1; have := h.2.2.1; unfold maxLen at this; omega
  have HL := Lib.hid h.1
  clear h
  go_enter Try.func44, Try.ntmps44
  go_wp2_with fail
  go_loopg [5] n (fun g u wr => w = wr ∧ ∃ k : Nat, k + g = n ∧ u = .int .i64 k ∧ ∀ j, j < k → xs.getD j ByteArray.empty ≠ s)
  case atStart => exact ⟨rfl, 0, by omega, rfl, fun j hj => by omega⟩
  case round =>
    obtain ⟨rfl, k, hk, rfl, hj⟩ := hrel
    have HJ := Lib.hid hj
    have HK := Lib.hid hk
    clear hj hk
    by_cases hlt : k < n
    · obtain ⟨-, -, -, h4⟩ := H.out
      rcases h4 with hcap0 | ⟨b, off, rfl, hb, hc⟩
      · have := H.out.2.1; omega
      have hc1 := hc k hlt
      obtain ⟨x, hx⟩ : ∃ x, xs.getD k ByteArray.empty = x := ⟨_, rfl⟩
      rw [hx] at hc1
      have HX := Lib.hid hx
      clear hc hx
      by_cases he : x = s
      · have hq := str_eq he
        have HE := Lib.hid he
        clear he
        go_wp2_with fail
        go_ret
        exact ⟨ret_ints (place_some (by rw [HL.out]; exact hlt) (HX.out.trans HE.out) HJ.out).symm, rfl⟩
      · have hq := str_ne he
        have HE := Lib.hid he
        clear he
        go_wp2_with fail
        go_roundg (gk - 1)
        case measure => have := HK.out; omega
        case rel => exact ⟨rfl, k + 1, by have := HK.out; omega, by go_num, fun j hj => by
          by_cases h : j = k
          · rw [h, HX.out]; exact HE.out
          · exact HJ.out j (by omega)⟩
    · go_wp2_with fail
      go_ret
      exact ⟨ret_ints (place_none fun hm => by
        obtain ⟨j, hj, e⟩ := mem_getDs hm
        exact HJ.out j (by rw [HL.out] at hj; omega) e).symm, rfl⟩

theorem pplace_any (a : Option Addr) (n cap : Nat) (xs : List ByteArray) (s : ByteArray) (w : World) (h : RowS w a n cap xs) :
    Calls Try.prog 82 #[.slice a n cap, .string s] w fun e w' => e = .returned (.int .i64 (place xs s)) ∧ w = w' := by
  have H := Lib.hid h
  have hn : n ≤ 9223372036854775807 := by have := h.2.1; have := h.2.2.1; unfold maxLen at this; omega
  have HL := Lib.hid h.1
  clear h
  go_enter Try.func82, Try.ntmps82
  go_wp2_with fail
  go_loopg [9] n (fun g u wr => w = wr ∧ ∃ k : Nat, k + g = n ∧ u = .int .i64 k ∧ ∀ j, j < k → xs.getD j ByteArray.empty ≠ s)
  case atStart => exact ⟨rfl, 0, by omega, rfl, fun j hj => by omega⟩
  case round =>
    obtain ⟨rfl, k, hk, rfl, hj⟩ := hrel
    have HJ := Lib.hid hj
    have HK := Lib.hid hk
    clear hj hk
    by_cases hlt : k < n
    · obtain ⟨-, -, -, h4⟩ := H.out
      rcases h4 with hcap0 | ⟨b, off, rfl, hb, hc⟩
      · have := H.out.2.1; omega
      have hc1 := hc k hlt
      obtain ⟨x, hx⟩ : ∃ x, xs.getD k ByteArray.empty = x := ⟨_, rfl⟩
      rw [hx] at hc1
      have HX := Lib.hid hx
      clear hc hx
      by_cases he : x = s
      · have hq := str_eq he
        have HE := Lib.hid he
        clear he
        go_wp2_with fail
        go_ret
        exact ⟨ret_ints (place_some (by rw [HL.out]; exact hlt) (HX.out.trans HE.out) HJ.out).symm, rfl⟩
      · have hq := str_ne he
        have HE := Lib.hid he
        clear he
        go_wp2_with fail
        go_roundg (gk - 1)
        case measure => have := HK.out; omega
        case rel => exact ⟨rfl, k + 1, by have := HK.out; omega, by go_num, fun j hj => by
          by_cases h : j = k
          · rw [h, HX.out]; exact HE.out
          · exact HJ.out j (by omega)⟩
    · go_wp2_with fail
      go_ret
      exact ⟨ret_ints (place_none fun hm => by
        obtain ⟨j, hj, e⟩ := mem_getDs hm
        exact HJ.out j (by rw [HL.out] at hj; omega) e).symm, rfl⟩
end Go.Proofs.Ytaofjnidniekjaa
