/- The contract of package bushelref44's digits. Condition: a text within Go's longest length. -/
import Derived.Test.YtdbkgpakpadloaaGreatDoorRpE
namespace Go.Proofs.YtdbkgpakpadloaaGreatDoor
open Go.RowKit Ieee

/-- how many digits a text begins with -/
def nd (s : ByteArray) : Nat := ((lb s).takeWhile fun c => decide (48 ≤ c.toNat ∧ c.toNat ≤ 57)).length
theorem take_len : ∀ (l : List UInt8) (i : Nat) (p : UInt8 → Bool), i ≤ l.length → (∀ (j : Nat) (h : j < l.length), j < i → p l[j] = true) → (∀ h : i < l.length, p l[i] = false) → (l.takeWhile p).length = i
  | [], i, p, h, _, _ => by simp at h; simp [h]
  | c :: l, 0, p, _, _, h2 => by
    have := h2 (by simp)
    simp only [List.getElem_cons_zero] at this
    rw [List.takeWhile_cons, this]; rfl
  | c :: l, i + 1, p, h, h1, h2 => by
    have hc := h1 0 (by simp) (by omega)
    simp only [List.getElem_cons_zero] at hc
    rw [List.takeWhile_cons, if_pos hc, List.length_cons, take_len l i p (by simpa using h) (fun j hj hji => by have := h1 (j + 1) (by rw [List.length_cons]; omega) (by omega); rw [List.getElem_cons_succ] at this; exact this) (fun hi => by have := h2 (by rw [List.length_cons]; omega); rw [List.getElem_cons_succ] at this; exact this)]
theorem sb_lb {s : ByteArray} {j : Nat} (h : j < (lb s).length) : sb s j = (((lb s)[j]).toNat : Int) := by
  unfold sb; rw [List.getD_eq_getElem?_getD, show s.data.toList = lb s from rfl, List.getElem?_eq_getElem h]; rfl
theorem nd_is {s : ByteArray} {i : Nat} (h : i ≤ s.size) (h1 : ∀ j, j < i → 48 ≤ sb s j ∧ sb s j ≤ 57) (h2 : i = s.size ∨ ¬ (48 ≤ sb s i ∧ sb s i ≤ 57)) : nd s = i := by
  unfold nd
  refine take_len _ i _ (by rw [lb_size]; exact h) (fun j hj hji => ?_) (fun hi => ?_)
  · have := h1 j hji
    rw [sb_lb hj] at this
    exact decide_eq_true (by omega)
  · rcases h2 with h2 | h2
    · rw [lb_size] at hi; omega
    · rw [sb_lb hi] at h2
      exact decide_eq_false (by omega)
def dgt (s : ByteArray) (most : Nat) : Int := if nd s = 0 ∨ most < nd s ∨ (1 < nd s ∧ sb s 0 = 48) then -1 else nd s
theorem ret_i44 {a b : Int} (h : a = b) : Ending.returned (.int .i64 b) = .returned (.int .i64 a) := by rw [h]
set_option maxHeartbeats 4000000 in
theorem rdigits_any (s : ByteArray) (most : Nat) (w : World) (hs : s.size ≤ 1000000) : Calls Tryz.prog 24 #[.string s, .int .i64 (most : Int)] w fun e w' => e = .returned (.int .i64 (dgt s most)) ∧ w = w' := by
  obtain ⟨R, hR⟩ : ∃ r, dgt s most = r := ⟨_, rfl⟩
  rw [hR]
  have HR := Lib.hid hR
  clear hR
  go_enter Tryz.func24, Tryz.ntmps24
  go_wp2_with fail
  go_loop [5] (fun iu => ∃ i : Nat, iu = .int .i64 i ∧ i ≤ s.size ∧ ∀ j, j < i → 48 ≤ sb s j ∧ sb s j ≤ 57) (fun iu => s.size - (intOf iu).toNat)
  case atStart => exact ⟨0, rfl, Nat.zero_le _, fun j hj => by omega⟩
  case round =>
    obtain ⟨i, rfl, hi, hall⟩ := hrel
    have HA := Lib.hid hall
    clear hall
    by_cases hlt : i < s.size
    · have hc := sb_at hlt
      obtain ⟨c, hcc⟩ : ∃ c : Int, ((s[i]'hlt).toNat : Int) = c := ⟨_, rfl⟩
      rw [hcc] at hc
      have HC := Lib.hid hc
      clear hc
      by_cases h1 : 48 ≤ c
      · have v1 : decide ((48 : Int) ≤ ((s[i]'hlt).toNat : Int)) = true := decide_eq_true (by omega)
        have v1' : decide (48 ≤ (s[i]'hlt).toNat) = true := decide_eq_true (by omega)
        by_cases h2 : c ≤ 57
        · have v2 : decide (((s[i]'hlt).toNat : Int) ≤ 57) = true := decide_eq_true (by omega)
          have v2' : decide ((s[i]'hlt).toNat ≤ 57) = true := decide_eq_true (by omega)
          have H12 := Lib.hid (And.intro h1 h2)
          clear h1 h2 hcc
          go_wp2_with fail
          go_round
          case rel =>
            refine ⟨i + 1, by go_num, by omega, fun j hj => ?_⟩
            rcases Nat.lt_or_ge j i with h5 | h5
            · exact HA.out j h5
            · obtain rfl : j = i := by omega
              rw [HC.out]; exact H12.out
          case measure => simp [intOf]; omega
        · have v2 : decide (((s[i]'hlt).toNat : Int) ≤ 57) = false := decide_eq_false (by omega)
          have v2' : decide ((s[i]'hlt).toNat ≤ 57) = false := decide_eq_false (by omega)
          have HL : Hid (i = s.size ∨ ¬ (48 ≤ sb s i ∧ sb s i ≤ 57)) := Lib.hid (.inr (by rw [HC.out]; omega))
          clear h1 h2 hcc
          have HND : Hid (nd s = i) := Lib.hid (nd_is hi HA.out (HL.out))
          by_cases i0 : i = 0
          · subst i0
            have HX : Hid (R = -1) := Lib.hid (by rw [← HR.out]; unfold dgt; rw [HND.out, if_pos (.inl rfl)])
            skip
            go_wp2_with fail
            go_ret
            exact ⟨ret_i44 (HX.out), rfl⟩
          have u0 : ((i : Int) == 0) = false := by simp; omega
          by_cases i1 : most < i
          · have u1 : decide (most < i) = true := decide_eq_true i1
            have u1' : decide ((most : Int) < (i : Int)) = true := decide_eq_true (by omega)
            have HX : Hid (R = -1) := Lib.hid (by rw [← HR.out]; unfold dgt; rw [HND.out, if_pos (.inr (.inl i1))])
            clear i0 i1
            skip
            go_wp2_with fail
            go_ret
            exact ⟨ret_i44 (HX.out), rfl⟩
          have u1 : decide (most < i) = false := decide_eq_false i1
          have u1' : decide ((most : Int) < (i : Int)) = false := decide_eq_false (by omega)
          have hp : 0 < s.size := by omega
          have hc0 := sb_at hp
          obtain ⟨c0, hce⟩ : ∃ c : Int, ((s[0]'hp).toNat : Int) = c := ⟨_, rfl⟩
          rw [hce] at hc0
          have HC0 := Lib.hid hc0
          clear hc0
          by_cases i2 : 1 < i
          · have u2 : decide ((1 : Int) < (i : Int)) = true := decide_eq_true (by omega)
            have u2' : decide (1 < i) = true := decide_eq_true i2
            by_cases h48 : c0 = 48
            · have hq : (((s[0]'hp).toNat : Int) == 48) = true := by rw [hce, h48]; rfl
              have HX : Hid (R = -1) := Lib.hid (by rw [← HR.out]; unfold dgt; rw [HND.out, if_pos (.inr (.inr ⟨i2, by rw [HC0.out]; exact h48⟩))])
              clear i0 i1 i2 hce h48
              skip
              go_wp2_with fail
              go_ret
              exact ⟨ret_i44 (HX.out), rfl⟩
            · have hq : (((s[0]'hp).toNat : Int) == 48) = false := by rw [hce]; simpa using h48
              have HX : Hid (R = i) := Lib.hid (by rw [← HR.out]; unfold dgt; rw [HND.out, if_neg (fun h => by rcases h with h | h | ⟨-, h⟩; omega; omega; rw [HC0.out] at h; exact h48 h)])
              clear i0 i1 i2 hce h48
              skip
              go_wp2_with fail
              go_ret
              exact ⟨ret_i44 (HX.out), rfl⟩
          · have u2 : decide ((1 : Int) < (i : Int)) = false := decide_eq_false (by omega)
            have u2' : decide (1 < i) = false := decide_eq_false i2
            have HX : Hid (R = i) := Lib.hid (by rw [← HR.out]; unfold dgt; rw [HND.out, if_neg (fun h => by rcases h with h | h | ⟨h, -⟩ <;> omega)])
            clear i0 i1 i2 hce
            skip
            go_wp2_with fail
            go_ret
            exact ⟨ret_i44 (HX.out), rfl⟩
      · have v1 : decide ((48 : Int) ≤ ((s[i]'hlt).toNat : Int)) = false := decide_eq_false (by omega)
        have v1' : decide (48 ≤ (s[i]'hlt).toNat) = false := decide_eq_false (by omega)
        have HL : Hid (i = s.size ∨ ¬ (48 ≤ sb s i ∧ sb s i ≤ 57)) := Lib.hid (.inr (by rw [HC.out]; omega))
        clear h1 hcc
        have HND : Hid (nd s = i) := Lib.hid (nd_is hi HA.out (HL.out))
        by_cases i0 : i = 0
        · subst i0
          have HX : Hid (R = -1) := Lib.hid (by rw [← HR.out]; unfold dgt; rw [HND.out, if_pos (.inl rfl)])
          skip
          go_wp2_with fail
          go_ret
          exact ⟨ret_i44 (HX.out), rfl⟩
        have u0 : ((i : Int) == 0) = false := by simp; omega
        by_cases i1 : most < i
        · have u1 : decide (most < i) = true := decide_eq_true i1
          have u1' : decide ((most : Int) < (i : Int)) = true := decide_eq_true (by omega)
          have HX : Hid (R = -1) := Lib.hid (by rw [← HR.out]; unfold dgt; rw [HND.out, if_pos (.inr (.inl i1))])
          clear i0 i1
          skip
          go_wp2_with fail
          go_ret
          exact ⟨ret_i44 (HX.out), rfl⟩
        have u1 : decide (most < i) = false := decide_eq_false i1
        have u1' : decide ((most : Int) < (i : Int)) = false := decide_eq_false (by omega)
        have hp : 0 < s.size := by omega
        have hc0 := sb_at hp
        obtain ⟨c0, hce⟩ : ∃ c : Int, ((s[0]'hp).toNat : Int) = c := ⟨_, rfl⟩
        rw [hce] at hc0
        have HC0 := Lib.hid hc0
        clear hc0
        by_cases i2 : 1 < i
        · have u2 : decide ((1 : Int) < (i : Int)) = true := decide_eq_true (by omega)
          have u2' : decide (1 < i) = true := decide_eq_true i2
          by_cases h48 : c0 = 48
          · have hq : (((s[0]'hp).toNat : Int) == 48) = true := by rw [hce, h48]; rfl
            have HX : Hid (R = -1) := Lib.hid (by rw [← HR.out]; unfold dgt; rw [HND.out, if_pos (.inr (.inr ⟨i2, by rw [HC0.out]; exact h48⟩))])
            clear i0 i1 i2 hce h48
            skip
            go_wp2_with fail
            go_ret
            exact ⟨ret_i44 (HX.out), rfl⟩
          · have hq : (((s[0]'hp).toNat : Int) == 48) = false := by rw [hce]; simpa using h48
            have HX : Hid (R = i) := Lib.hid (by rw [← HR.out]; unfold dgt; rw [HND.out, if_neg (fun h => by rcases h with h | h | ⟨-, h⟩; omega; omega; rw [HC0.out] at h; exact h48 h)])
            clear i0 i1 i2 hce h48
            skip
            go_wp2_with fail
            go_ret
            exact ⟨ret_i44 (HX.out), rfl⟩
        · have u2 : decide ((1 : Int) < (i : Int)) = false := decide_eq_false (by omega)
          have u2' : decide (1 < i) = false := decide_eq_false i2
          have HX : Hid (R = i) := Lib.hid (by rw [← HR.out]; unfold dgt; rw [HND.out, if_neg (fun h => by rcases h with h | h | ⟨h, -⟩ <;> omega)])
          clear i0 i1 i2 hce
          skip
          go_wp2_with fail
          go_ret
          exact ⟨ret_i44 (HX.out), rfl⟩
    · have HL : Hid (i = s.size ∨ ¬ (48 ≤ sb s i ∧ sb s i ≤ 57)) := Lib.hid (.inl (by omega))
      have HND : Hid (nd s = i) := Lib.hid (nd_is hi HA.out (HL.out))
      by_cases i0 : i = 0
      · subst i0
        have HX : Hid (R = -1) := Lib.hid (by rw [← HR.out]; unfold dgt; rw [HND.out, if_pos (.inl rfl)])
        skip
        go_wp2_with fail
        go_ret
        exact ⟨ret_i44 (HX.out), rfl⟩
      have u0 : ((i : Int) == 0) = false := by simp; omega
      by_cases i1 : most < i
      · have u1 : decide (most < i) = true := decide_eq_true i1
        have u1' : decide ((most : Int) < (i : Int)) = true := decide_eq_true (by omega)
        have HX : Hid (R = -1) := Lib.hid (by rw [← HR.out]; unfold dgt; rw [HND.out, if_pos (.inr (.inl i1))])
        clear i0 i1
        skip
        go_wp2_with fail
        go_ret
        exact ⟨ret_i44 (HX.out), rfl⟩
      have u1 : decide (most < i) = false := decide_eq_false i1
      have u1' : decide ((most : Int) < (i : Int)) = false := decide_eq_false (by omega)
      have hp : 0 < s.size := by omega
      have hc0 := sb_at hp
      obtain ⟨c0, hce⟩ : ∃ c : Int, ((s[0]'hp).toNat : Int) = c := ⟨_, rfl⟩
      rw [hce] at hc0
      have HC0 := Lib.hid hc0
      clear hc0
      by_cases i2 : 1 < i
      · have u2 : decide ((1 : Int) < (i : Int)) = true := decide_eq_true (by omega)
        have u2' : decide (1 < i) = true := decide_eq_true i2
        by_cases h48 : c0 = 48
        · have hq : (((s[0]'hp).toNat : Int) == 48) = true := by rw [hce, h48]; rfl
          have HX : Hid (R = -1) := Lib.hid (by rw [← HR.out]; unfold dgt; rw [HND.out, if_pos (.inr (.inr ⟨i2, by rw [HC0.out]; exact h48⟩))])
          clear i0 i1 i2 hce h48
          skip
          go_wp2_with fail
          go_ret
          exact ⟨ret_i44 (HX.out), rfl⟩
        · have hq : (((s[0]'hp).toNat : Int) == 48) = false := by rw [hce]; simpa using h48
          have HX : Hid (R = i) := Lib.hid (by rw [← HR.out]; unfold dgt; rw [HND.out, if_neg (fun h => by rcases h with h | h | ⟨-, h⟩; omega; omega; rw [HC0.out] at h; exact h48 h)])
          clear i0 i1 i2 hce h48
          skip
          go_wp2_with fail
          go_ret
          exact ⟨ret_i44 (HX.out), rfl⟩
      · have u2 : decide ((1 : Int) < (i : Int)) = false := decide_eq_false (by omega)
        have u2' : decide (1 < i) = false := decide_eq_false i2
        have HX : Hid (R = i) := Lib.hid (by rw [← HR.out]; unfold dgt; rw [HND.out, if_neg (fun h => by rcases h with h | h | ⟨h, -⟩ <;> omega)])
        clear i0 i1 i2 hce
        skip
        go_wp2_with fail
        go_ret
        exact ⟨ret_i44 (HX.out), rfl⟩
end Go.Proofs.YtdbkgpakpadloaaGreatDoor
