/- The walks of the laws NamesTell and NamesStand: they answer true for every input. Conditions: strings and lists within Go's longest length. -/
import Derived.Test.YtofghmbnkoodcaaNamesD
import Derived.Test.YtofghmbnkoodcaaNamesE
namespace Go.Proofs.Ytofghmbnkoodcaa
open Go.RowKit

theorem row_lit (w : World) (cs : Array Value) (t : TypeId) (xs : List ByteArray) (h : cs = (xs.map Value.string).toArray) (hl : xs.length ≤ 1000) : RowS (w.alloc (.cells cs t)) (some ⟨w.heap.size, 0, none⟩) xs.length xs.length xs := by
  refine ⟨rfl, Nat.le_refl _, by unfold maxLen; omega, .inr ⟨w.heap.size, 0, rfl, by simp, fun i hi => ?_⟩⟩
  rw [cell_of_row _ _ _ cs t (0, 0) (heap_alloc_new w _), h, Nat.zero_add]
  simp [hi]

theorem pis_at (s : ByteArray) (b : Bool) (w : World) (h : nameB s = b) : Calls Try.prog 5 #[.string s] w fun e w' => e = .returned (.bool b) ∧ Below w.heap.size w w' := by
  rw [← h]; exact pis_any s w
theorem ris_at (s : ByteArray) (b : Bool) (w : World) (h : nameB s = b) : Calls Try.prog 6 #[.string s] w fun e w' => e = .returned (.bool b) ∧ Below w.heap.size w w' := by
  rw [← h]; exact ris_any s w
theorem word_at (s : ByteArray) (b : Bool) (w : World) (h : wordB s = b) : Calls Try.prog 7 #[.string s] w fun e w' => e = .returned (.bool b) ∧ Below w.heap.size w w' := by
  rw [← h]; exact word_any s w

theorem name_price : nameB ⟨#[112, 114, 105, 99, 101, 95, 50]⟩ = true := by
  refine nameB_yes ⟨by decide, by decide, fun _ => by decide +revert, fun i h => ?_, by decide⟩
  have h7 : i < 7 := h
  unfold OkC
  match i, h7 with
  | 0, _ => decide +revert
  | 1, _ => decide +revert
  | 2, _ => decide +revert
  | 3, _ => decide +revert
  | 4, _ => decide +revert
  | 5, _ => decide +revert
  | 6, _ => decide +revert
theorem name_sum : nameB ⟨#[115, 117, 109]⟩ = false := nameB_no fun h => absurd h.2.2.2.2 (by decide)
theorem name_2a : nameB ⟨#[50, 97]⟩ = false := nameB_no fun h => absurd (h.2.2.1 (by decide)) (by decide)
theorem name_none : nameB ⟨#[]⟩ = false := nameB_no fun h => absurd h.1 (by decide)
theorem twice_abab : TwiceIs [⟨#[97]⟩, ⟨#[98]⟩, ⟨#[97]⟩, ⟨#[98]⟩] 2 := by
  refine .inr ⟨2, rfl, by decide, List.mem_cons_self, fun j hj => ?_⟩
  match j, hj with
  | 0, _ => exact fun h => by cases h
  | 1, _ => exact fun h => absurd (List.mem_singleton.1 h) (by decide)

theorem awakeN_any (w : World) : Calls Try.prog 12 #[] w fun e w' => e = .returned (.bool true) ∧ Below w.heap.size w w' := by
  go_enter Try.func12, Try.ntmps12
  go_wp2_with fail
  refine (pis_at _ _ _ name_price).mono ?_; rintro e w1 ⟨rfl, hb1⟩
  have HB1 := Lib.hid hb1
  clear hb1
  go_wp2_with fail
  refine (pis_at _ _ _ name_sum).mono ?_; rintro e w2 ⟨rfl, hb2⟩
  have HB2 := Lib.hid (HB1.out.trans (hb2.mono HB1.out.size))
  clear hb2
  go_wp2_with fail
  refine (pis_at _ _ _ name_2a).mono ?_; rintro e w3 ⟨rfl, hb3⟩
  have HB3 := Lib.hid (HB2.out.trans (hb3.mono HB2.out.size))
  clear hb3
  go_wp2_with fail
  refine (pis_at _ _ _ name_none).mono ?_; rintro e w4 ⟨rfl, hb4⟩
  have HB4 := Lib.hid (HB3.out.trans (hb4.mono HB3.out.size))
  clear hb4
  go_wp2_with fail
  refine (ptwice_any _ _ _ _ 2 _ (row_lit _ _ _ [⟨#[97]⟩, ⟨#[98]⟩, ⟨#[97]⟩, ⟨#[98]⟩] rfl (by decide)) twice_abab (by intro s hs; simp only [List.mem_cons, List.not_mem_nil, or_false] at hs; rcases hs with rfl | rfl | rfl | rfl <;> decide)).mono ?_; rintro e w5 ⟨rfl, hb5⟩
  have HB5 := Lib.hid ((HB4.out.alloc HB4.out.size _).trans (hb5.mono (by have := HB4.out.size; simp; omega)))
  clear hb5
  go_wp2_with fail
  go_ret
  exact ⟨rfl, HB5.out⟩

theorem walk_tell (s : ByteArray) (_w0 : s.size ≤ maxLen) (w : World) : Calls Try.prog 3 #[.string s] w fun e w' => e = .returned (.bool true) ∧ Below w.heap.size w w' := by
  obtain ⟨b, hb⟩ : ∃ b, nameB s = b := ⟨_, rfl⟩
  obtain ⟨pl, hpl⟩ : ∃ b, place wordList s = b := ⟨_, rfl⟩
  obtain ⟨q, hq⟩ : ∃ b, wordB s = b := ⟨_, rfl⟩
  have hqp : q = decide (0 ≤ pl) := by rw [← hq, ← hpl]; rfl
  have HN := Lib.hid hb
  have HP := Lib.hid hpl
  have HQ := Lib.hid hq
  have heq : (q == decide (0 ≤ pl)) = true := by rw [hqp]; simp
  have heq2 : (b == b) = true := by simp
  clear hb hpl hq hqp
  go_enter Try.func3, Try.ntmps3
  go_wp2_with fail
  refine (pis_at _ _ _ HN.out).mono ?_; rintro e w1 ⟨rfl, hb1⟩
  have HB1 := Lib.hid hb1
  clear hb1
  go_wp2_with fail
  refine (ris_at _ _ _ HN.out).mono ?_; rintro e w2 ⟨rfl, hb2⟩
  have HB2 := Lib.hid (HB1.out.trans (hb2.mono HB1.out.size))
  clear hb2
  go_wp2_with fail
  refine (word_at _ _ _ HQ.out).mono ?_; rintro e w3 ⟨rfl, hb3⟩
  have HB3 := Lib.hid (HB2.out.trans (hb3.mono HB2.out.size))
  clear hb3
  go_wp2_with fail
  refine (rWords_any _).mono ?_; rintro e w4 ⟨rfl, hr4, hb4⟩
  have HR4 := Lib.hid hr4
  have HB4 := Lib.hid (HB3.out.trans (hb4.mono HB3.out.size))
  clear hb4 hr4
  go_wp2_with fail
  refine (rplace_at _ _ _ _ _ _ _ HR4.out HP.out).mono ?_; rintro e w5 ⟨rfl, rfl⟩
  go_wp2_with fail
  refine (pwords_any _).mono ?_; rintro e w6 ⟨rfl, hr6, hb6⟩
  have HR6 := Lib.hid hr6
  have HB6 := Lib.hid (HB4.out.trans (hb6.mono HB4.out.size))
  clear hb6 hr6
  go_wp2_with fail
  refine (rWords_any _).mono ?_; rintro e w7 ⟨rfl, hr7, hb7⟩
  have HR7 := Lib.hid hr7
  have HR6b := Lib.hid (HR6.out.below hb7 (Nat.le_refl _))
  have HB7 := Lib.hid (HB6.out.trans (hb7.mono HB6.out.size))
  clear hb7 hr7
  go_wp2_with fail
  refine (same_yes _ _ _ _ _ _ _ HR6b.out HR7.out).mono ?_; rintro e w8 ⟨rfl, hb8⟩
  have HB8 := Lib.hid (HB7.out.trans (hb8.mono HB7.out.size))
  clear hb8
  go_wp2_with fail
  refine (awakeN_any _).mono ?_; rintro e w9 ⟨rfl, hb9⟩
  have HB9 := Lib.hid (HB8.out.trans (hb9.mono HB8.out.size))
  clear hb9
  go_wp2_with fail
  go_ret
  exact ⟨rfl, HB9.out⟩

theorem walk_stand (a : Option Addr) (n cap : Nat) (z : List ByteArray) (s : ByteArray) (w : World) (h : IsStrs w a n cap z) (_w1 : s.size ≤ maxLen) :
    Calls Try.prog 4 #[.slice a n cap, .string s] w fun e w' => e = .returned (.bool true) ∧ Below w.heap.size w w' := by
  obtain ⟨hR, hlen⟩ := h.row
  generalize z.take n = xs at *
  clear h z
  have H := Lib.hid hR
  have HLEN := Lib.hid hlen
  have hn : n ≤ 9223372036854775807 := by have := hR.2.1; have := hR.2.2.1; unfold maxLen at this; omega
  obtain ⟨r, hr⟩ := twice_ex xs
  have HT := Lib.hid hr
  obtain ⟨pl, hpl⟩ : ∃ b, place xs s = b := ⟨_, rfl⟩
  have HP := Lib.hid hpl
  clear hR hlen hr hpl
  by_cases h100 : 100 < n
  · go_enter Try.func4, Try.ntmps4
    go_wp2_with fail
    refine (awakeN_any _).mono ?_; rintro e w9 ⟨rfl, hb9⟩
    go_wp2_with fail
    go_ret
    exact ⟨rfl, hb9⟩
  · go_enter Try.func4, Try.ntmps4
    go_wp2_with fail
    go_loopg [5] n (fun g u wr => w = wr ∧ ∃ k : Nat, k + g = n ∧ u = .int .i64 k)
    case atStart => exact ⟨rfl, 0, by omega, rfl⟩
    case round =>
      obtain ⟨rfl, k, hk, rfl⟩ := hrel
      have HK := Lib.hid hk
      clear hk
      by_cases hlt : k < n
      · obtain ⟨-, -, -, h4⟩ := H.out
        rcases h4 with hcap0 | ⟨b, off, rfl, hb, hc⟩
        · have := H.out.2.1; omega
        have hc1 := hc k hlt
        generalize xs.getD k ByteArray.empty = x at hc1
        clear hc hb
        by_cases hx : 1000 < x.size
        · go_wp2_with fail
          refine (awakeN_any _).mono ?_; rintro e w9 ⟨rfl, hb9⟩
          go_wp2_with fail
          go_ret
          exact ⟨rfl, hb9⟩
        · go_wp2_with fail
          go_roundg (gk - 1)
          case measure => have := HK.out; omega
          case rel => exact ⟨rfl, k + 1, by have := HK.out; omega, by go_num⟩
      · have heq : (pl == pl) = true := by simp
        have heq2 : (r == r) = true := by simp
        go_wp2_with fail
        refine ((by rw [← HP.out]; exact pplace_any _ _ _ _ _ _ H.out) : Calls Try.prog 13 #[.slice a n cap, .string s] w fun e w' => e = .returned (.int .i64 pl) ∧ w = w').mono ?_; rintro e w1 ⟨rfl, rfl⟩
        go_wp2_with fail
        refine (rplace_at _ _ _ _ _ _ _ H.out HP.out).mono ?_; rintro e w1 ⟨rfl, rfl⟩
        go_wp2_with fail
        refine (ptwice_any _ _ _ _ r _ H.out HT.out HLEN.out).mono ?_; rintro e w1 ⟨rfl, hb1⟩
        have HB1 := Lib.hid hb1
        have HR1 := Lib.hid (H.out.below hb1 (Nat.le_refl _))
        clear hb1
        go_wp2_with fail
        refine (rtwice_any _ _ _ _ r _ HR1.out HT.out).mono ?_; rintro e w2 ⟨rfl, hb2⟩
        have HB2 := Lib.hid (HB1.out.trans (hb2.mono HB1.out.size))
        clear hb2
        go_wp2_with fail
        refine (awakeN_any _).mono ?_; rintro e w9 ⟨rfl, hb9⟩
        have HB9 := Lib.hid (HB2.out.trans (hb9.mono HB2.out.size))
        clear hb9
        go_wp2_with fail
        go_ret
        exact ⟨rfl, HB9.out⟩
end Go.Proofs.Ytofghmbnkoodcaa
