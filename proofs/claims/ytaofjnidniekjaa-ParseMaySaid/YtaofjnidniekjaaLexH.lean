/- Contract of lex.Kind, the example of the layer, and the walk of the law LexTokens. Conditions: the text is no longer than Go's longest length. -/
import Derived.Test.YtaofjnidniekjaaLexF
import Derived.Test.YtaofjnidniekjaaLexG
namespace Go.Proofs.Ytaofjnidniekjaa
open Go.RowKit

def kindS (k : Int) : ByteArray := if k = 0 then ⟨#[101, 110, 100]⟩ else if k = 1 then ⟨#[119, 111, 114, 100]⟩ else if k = 2 then ⟨#[110, 97, 109, 101]⟩ else if k = 3 then ⟨#[110, 117, 109, 98, 101, 114]⟩ else if k = 4 then ⟨#[115, 105, 103, 110]⟩ else ⟨#[63]⟩

theorem kind_at (k n a : Int) (t r : ByteArray) (w : World) (hr : kindS k = r) :
    Calls Try.prog 10 #[.agg #[.int .i64 k, .string t, .int .i64 n, .int .i64 a]] w fun e w' => e = .returned (.string r) ∧ Below w.heap.size w w' := by
  by_cases h0 : k < 0
  · have : kindS k = ⟨#[63]⟩ := by unfold kindS; rw [if_neg (by omega), if_neg (by omega), if_neg (by omega), if_neg (by omega), if_neg (by omega)]
    rw [this] at hr
    subst hr
    go_enter Try.func10, Try.ntmps10
    go_wp2_with fail
    go_ret
    exact ⟨rfl, ((Below.refl _ _).alloc (Nat.le_refl _) _).alloc (by simp) _⟩
  · by_cases h5 : 5 ≤ k
    · have : kindS k = ⟨#[63]⟩ := by unfold kindS; rw [if_neg (by omega), if_neg (by omega), if_neg (by omega), if_neg (by omega), if_neg (by omega)]
      rw [this] at hr
      subst hr
      go_enter Try.func10, Try.ntmps10
      go_wp2_with fail
      go_ret
      exact ⟨rfl, ((Below.refl _ _).alloc (Nat.le_refl _) _).alloc (by simp) _⟩
    · rcases (by omega : k = 0 ∨ k = 1 ∨ k = 2 ∨ k = 3 ∨ k = 4) with rfl | rfl | rfl | rfl | rfl
      all_goals
        subst hr
        go_enter Try.func10, Try.ntmps10
        go_wp2_with fail
        go_ret
        exact ⟨rfl, ((Below.refl _ _).alloc (Nat.le_refl _) _).alloc (by simp) _⟩

def exS : ByteArray := ⟨#[115, 117, 109, 40, 97, 41, 61, 49, 48]⟩
theorem ex_lex : lexAll exS = .ok [⟨1, ⟨#[115, 117, 109]⟩, 0, 0⟩, ⟨4, ⟨#[40]⟩, 0, 3⟩, ⟨2, ⟨#[97]⟩, 0, 4⟩, ⟨4, ⟨#[41]⟩, 0, 5⟩, ⟨4, ⟨#[61]⟩, 0, 6⟩, ⟨3, ⟨#[49, 48]⟩, 10, 7⟩, ⟨0, ⟨#[]⟩, 0, 9⟩] := by
  kernel_rfl
theorem kind_sign : kindS 4 = ⟨#[115, 105, 103, 110]⟩ := by decide

theorem awakeL_any (w : World) : Calls Try.prog 9 #[] w fun e w' => e = .returned (.bool true) ∧ Below w.heap.size w w' := by
  go_enter Try.func9, Try.ntmps9
  go_wp2_with fail
  refine (ltok_any exS _ (by decide)).mono ?_; rintro e w1 hret
  rcases hret with ⟨l, v, hl, rfl, hown, hb⟩ | ⟨a, er, hl, _⟩
  · rw [ex_lex] at hl
    injection hl with hl
    subst hl
    have HB := Lib.hid hb
    obtain ⟨p, c, rfl⟩ := hown.form
    obtain ⟨g, rfl, hc, hg, h0⟩ := hown.cell (i := 0) rfl
    obtain ⟨g1, e1, -, -, h1⟩ := hown.cell (i := 1) rfl
    obtain ⟨g2, e2, -, -, h2⟩ := hown.cell (i := 2) rfl
    obtain ⟨g5, e5, -, -, h5⟩ := hown.cell (i := 5) rfl
    obtain ⟨g6, e6, -, -, h6⟩ := hown.cell (i := 6) rfl
    cases e1
    cases e2
    cases e5
    cases e6
    have c0 : w1.cell? ⟨g, 0, none⟩ = some (.int .i64 1) := h0 0 _ rfl
    have c4 : w1.cell? ⟨g, 4, none⟩ = some (.int .i64 4) := h1 0 _ rfl
    have c5 : w1.cell? ⟨g, 5, none⟩ = some (.string ⟨#[40]⟩) := h1 1 _ rfl
    have c6 : w1.cell? ⟨g, 6, none⟩ = some (.int .i64 0) := h1 2 _ rfl
    have c7 : w1.cell? ⟨g, 7, none⟩ = some (.int .i64 3) := h1 3 _ rfl
    have c8 : w1.cell? ⟨g, 8, none⟩ = some (.int .i64 2) := h2 0 _ rfl
    have c20 : w1.cell? ⟨g, 20, none⟩ = some (.int .i64 3) := h5 0 _ rfl
    have c22 : w1.cell? ⟨g, 22, none⟩ = some (.int .i64 10) := h5 2 _ rfl
    have c24 : w1.cell? ⟨g, 24, none⟩ = some (.int .i64 0) := h6 0 _ rfl
    have c27 : w1.cell? ⟨g, 27, none⟩ = some (.int .i64 9) := h6 3 _ rfl
    clear h0 h1 h2 h5 h6 hown hb hc
    go_wp2_with fail
    refine (kind_at 4 0 3 _ _ _ kind_sign).mono ?_; rintro e w2 ⟨rfl, hb2⟩
    have HB2 := Lib.hid (HB.out.trans (hb2.mono HB.out.size))
    clear hb2
    go_wp2_with fail
    go_ret
    exact ⟨rfl, HB2.out⟩
  · rw [ex_lex] at hl
    cases hl

set_option maxHeartbeats 1000000 in
theorem walk_tokens (s : ByteArray) (w : World) (w0 : s.size ≤ maxLen) : Calls Try.prog 3 #[.string s] w fun e w' => e = .returned (.bool true) ∧ Below w.heap.size w w' := by
  go_enter Try.func3, Try.ntmps3
  go_wp2_with fail
  refine (ltok_any s _ w0).mono ?_; rintro e w1 hret
  rcases hret with ⟨l, v, hl, rfl, hown, hb⟩ | ⟨a, er, hl, her, rfl, hb⟩
  · have HB := Lib.hid hb
    have HOWN := Lib.hid hown
    have HL := Lib.hid hl
    clear hb hown hl
    go_wp2_with fail
    refine (rtok_any s _ w0).mono ?_; rintro e w2 hret2
    rcases hret2 with ⟨l2, v2, hl2, rfl, hown2, hb2⟩ | ⟨a, er, hl2, _⟩
    · have hll : l2 = l := by
        have h := HL.out
        rw [hl2] at h
        injection h
      subst hll
      have hlen : l2.length ≤ 9223372036854775807 := by
        rcases hown2.2 with ⟨_, h⟩ | ⟨g, cap, cur, _, _, _, h1, h2, _⟩
        · omega
        · unfold maxLen at h2; omega
      have HB2 := Lib.hid (HB.out.trans (hb2.mono HB.out.size))
      have HO1 := Lib.hid (HOWN.out.below hb2 (Nat.le_refl _))
      have HO2 := Lib.hid hown2
      obtain ⟨p1, c1, rfl⟩ := HO1.out.form
      obtain ⟨p2, c2, rfl⟩ := HO2.out.form
      clear hb2 hown2 HB HOWN hl2 HL
      have heq : ((l2.length : Int) != (l2.length : Int)) = false := by simp
      go_wp2_with fail
      go_loopg [9] l2.length (fun g u wr => ∃ k : Nat, k + g = l2.length ∧ u = .int .i64 k ∧ OwnT wr w.heap.size 30 (.slice p1 l2.length c1) l2.length l2 ∧ OwnT wr w1.heap.size 31 (.slice p2 l2.length c2) l2.length l2 ∧ Below w.heap.size w wr)
      case atStart => exact ⟨0, by omega, rfl, HO1.out, HO2.out, HB2.out⟩
      case round =>
        obtain ⟨k, hk, rfl, ho1, ho2, hbl⟩ := hrel
        have HK := Lib.hid hk
        have HP1 := Lib.hid ho1
        have HP2 := Lib.hid ho2
        have HBL := Lib.hid hbl
        clear hk ho1 ho2 hbl HO1 HO2 HB2
        by_cases hlt : k < l2.length
        · obtain ⟨x, hx⟩ : ∃ x, l2[k]? = some x := ⟨_, List.getElem?_eq_getElem hlt⟩
          obtain ⟨g1, rfl, -, -, h1⟩ := HP1.out.cell hx
          obtain ⟨g2, rfl, -, -, h2⟩ := HP2.out.cell hx
          have a0 : wr.cell? ⟨g1, k * 4, none⟩ = some (.int .i64 x.k) := h1 0 _ rfl
          have a1 : wr.cell? ⟨g1, k * 4 + 1, none⟩ = some (.string x.t) := h1 1 _ rfl
          have a2 : wr.cell? ⟨g1, k * 4 + 2, none⟩ = some (.int .i64 x.n) := h1 2 _ rfl
          have a3 : wr.cell? ⟨g1, k * 4 + 3, none⟩ = some (.int .i64 x.a) := h1 3 _ rfl
          have b0 : wr.cell? ⟨g2, k * 4, none⟩ = some (.int .i64 x.k) := h2 0 _ rfl
          have b1 : wr.cell? ⟨g2, k * 4 + 1, none⟩ = some (.string x.t) := h2 1 _ rfl
          have b2 : wr.cell? ⟨g2, k * 4 + 2, none⟩ = some (.int .i64 x.n) := h2 2 _ rfl
          have b3 : wr.cell? ⟨g2, k * 4 + 3, none⟩ = some (.int .i64 x.a) := h2 3 _ rfl
          obtain ⟨xk, xt, xn, xa⟩ := x
          have e0 : (xk != xk) = false := by simp
          have e1 : (xt.toList == xt.toList) = true := by simp
          have e2 : (xn != xn) = false := by simp
          have e3 : (xa != xa) = false := by simp
          have i0 : (0 : Int) ≤ (k : Int) := by omega
          have i1 : (k : Int) < (l2.length : Int) := by omega
          clear h1 h2 hx
          go_wp2_with fail
          go_quiet (fail)
          go_wp2_with fail
          go_roundg (gk - 1)
          case measure => have := HK.out; omega
          case rel => exact ⟨k + 1, by have := HK.out; omega, by go_num, HP1.out.drewN _, HP2.out.drewN _, blk_dn HBL.out _⟩
        · go_wp2_with fail
          refine (awakeL_any _).mono ?_; rintro e w3 ⟨rfl, hb3⟩
          go_wp2_with fail
          go_ret
          exact ⟨rfl, HBL.out.trans (hb3.mono HBL.out.size)⟩
    · rw [HL.out] at hl2
      cases hl2
  · have HB := Lib.hid hb
    have HL := Lib.hid hl
    clear hb hl
    go_wp2_with fail
    refine (rtok_any s _ w0).mono ?_; rintro e w2 hret2
    rcases hret2 with ⟨l2, v2, hl2, _⟩ | ⟨a2, er2, hl2, _, rfl, hb2⟩
    · rw [HL.out] at hl2
      cases hl2
    · rw [HL.out] at hl2
      injection hl2 with e1 e2
      subst e1 e2
      have HB2 := Lib.hid (HB.out.trans (hb2.mono HB.out.size))
      have h1 : (er != er) = false := by simp
      have h2 : (a != a) = false := by simp
      clear hb2
      go_wp2_with fail
      refine wp_loop_rounds 1 ?_
      rw [rounds_succ]
      go_wp2_with fail
      refine (awakeL_any _).mono ?_; rintro e w3 ⟨rfl, hb3⟩
      go_wp2_with fail
      go_ret
      exact ⟨rfl, HB2.out.trans (hb3.mono HB2.out.size)⟩
end Go.Proofs.Ytaofjnidniekjaa
