/- What bushelref44.Parse looks at (plain). No conditions. -/
import Derived.Test.YtdbkgpakpadloaaGreatDoorRpF
namespace Go.Proofs.YtdbkgpakpadloaaGreatDoor
open Go.RowKit Ieee

theorem lb_get {s : ByteArray} {j : Nat} (h : j < s.size) : ∃ h' : j < (lb s).length, sb s j = (((lb s)[j]).toNat : Int) :=
  ⟨by rw [lb_size]; exact h, sb_lb (by rw [lb_size]; exact h)⟩
theorem bdy_plain {s : ByteArray} (h : s.size = 0 ∨ sb s 0 ≠ 45) : bdy s = lb s ∧ ngB s = false := by
  have h1 : ∀ c t, lb s = c :: t → c ≠ 45 := by
    intro c t hc e
    have hl := lb_size s
    rw [hc] at hl
    simp at hl
    have h2 := sb_lb (s := s) (j := 0) (by rw [hc]; simp)
    simp only [hc, List.getElem_cons_zero, e] at h2
    rcases h with h | h
    · omega
    · exact h (by rw [h2]; decide)
  have := bdy_is (neg := false) (r := s) h1
  have e : sgB false ++ s = s := lb_inj (by rw [lb_app]; rfl)
  rw [e] at this
  exact this
theorem bdy_minus {s : ByteArray} (h : 0 < s.size) (h1 : sb s 0 = 45) : bdy s = lb (s.extract 1 s.size) ∧ ngB s = true := by
  have e : lb (s.extract 1 s.size) = (lb s).drop 1 := Lib.extract_to_end s 1
  have h2 := sb_lb (s := s) (j := 0) (by rw [lb_size]; exact h)
  rw [e]
  unfold bdy ngB Lib.trimPrefix
  rcases hl : lb s with _ | ⟨c, t⟩
  · have := lb_size s; rw [hl] at this; simp at this; omega
  · simp only [hl, List.getElem_cons_zero] at h2
    have hc : c = 45 := by
      have : c.toNat = 45 := by omega
      exact UInt8.toNat_inj.1 this
    have hp : Lib.hasPrefix (c :: t) [45] = true := by rw [hc]; unfold Lib.hasPrefix; simp [List.isPrefixOf]
    rw [hp]
    exact ⟨rfl, rfl⟩
theorem sg_bdy (s : ByteArray) : lb s = lb (sgB (ngB s)) ++ bdy s := by
  rcases Nat.eq_zero_or_pos s.size with h | h
  · obtain ⟨h1, h2⟩ := bdy_plain (s := s) (.inl h)
    rw [h1, h2]; rfl
  · by_cases h1 : sb s 0 = 45
    · obtain ⟨h2, h3⟩ := bdy_minus h h1
      have e : lb (s.extract 1 s.size) = (lb s).drop 1 := Lib.extract_to_end s 1
      have h4 := sb_lb (s := s) (j := 0) (by rw [lb_size]; exact h)
      rw [h2, h3, e]
      rcases hl : lb s with _ | ⟨c, t⟩
      · have := lb_size s; rw [hl] at this; simp at this; omega
      · simp only [hl, List.getElem_cons_zero] at h4
        have hc : c = 45 := by
          have : c.toNat = 45 := by omega
          exact UInt8.toNat_inj.1 this
        rw [hc]; rfl
    · obtain ⟨h2, h3⟩ := bdy_plain (s := s) (.inr h1)
      rw [h2, h3]; rfl
theorem real_zero {s : ByteArray} (h : bdy s = lb txZero) : IsReal (if ngB s then flipS 0 else 0) s := by
  refine ⟨ngB s, 0, 0, ?_, .inl ⟨?_, ?_⟩⟩
  · cases ngB s <;> exact .inl ⟨by decide, by decide, rfl, rfl⟩
  · cases ngB s <;> decide
  · exact lb_inj (by rw [sg_bdy s, h, lb_app])
theorem real_infi {s : ByteArray} (h : bdy s = lb txInf) : IsReal (if ngB s then flipS INF else INF) s := by
  refine ⟨ngB s, 0, 0, ?_, .inr (.inl ⟨?_, ?_⟩)⟩
  · cases ngB s <;> exact .inl ⟨by decide, by decide, rfl, rfl⟩
  · cases ngB s <;> decide
  · exact lb_inj (by rw [sg_bdy s, h, lb_app])
/-- a text that says a number of kind 1 has this shape -/
theorem real_shape {s : ByteArray} {x : Nat} (h : IsReal x s) (hx : x < 18446744073709551616) (hn : s ≠ txNone) (hz : bdy s ≠ lb txZero) (hi : bdy s ≠ lb txInf) :
    ∃ t u e, bdy s = lb t ++ 112 :: lb u ∧ OkText t ∧ t.size ≤ 16 ∧ IsNum e u ∧ -1074 ≤ e ∧ e ≤ 1023 ∧ x = joinN (ngB s) (tv t t.size).toNat e := by
  have hk : kindZ x ≠ 3 := fun hk => hn (nan_text h hk)
  rcases real_cases h hk hx with ⟨neg, rfl, -⟩ | ⟨neg, rfl, -⟩ | ⟨neg, t, u, e, rfl, h2, h3, h4, h5, h6, -, h7⟩
  · exact absurd (bdy_is (neg := neg) (r := txZero) (fun c t hc => by cases hc; decide)).1 hz
  · exact absurd (bdy_is (neg := neg) (r := txInf) (fun c t hc => by cases hc; decide)).1 hi
  · obtain ⟨e1, e2⟩ := parts_is (neg := neg) (u := u) h2
    exact ⟨t, u, e, e1, h2, h3, h4, h5, h6, by rw [e2]; exact h7⟩
theorem nd_all (s : ByteArray) : nd s ≤ s.size ∧ (∀ j, j < nd s → 48 ≤ sb s j ∧ sb s j ≤ 57) := by
  have hle : nd s ≤ (lb s).length := (List.takeWhile_sublist _).length_le
  refine ⟨by rw [← lb_size]; exact hle, fun j hj => ?_⟩
  have hj' : j < (lb s).length := by omega
  have hm : ((lb s).takeWhile fun c => decide (48 ≤ c.toNat ∧ c.toNat ≤ 57))[j]'hj = (lb s)[j] := List.IsPrefix.getElem (List.takeWhile_prefix _) hj
  have hp := List.all_takeWhile (p := fun c : UInt8 => decide (48 ≤ c.toNat ∧ c.toNat ≤ 57)) (l := lb s)
  rw [List.all_eq_true] at hp
  have := hp _ (List.getElem_mem hj)
  rw [hm] at this
  have := of_decide_eq_true this
  rw [sb_lb hj']
  omega
theorem dgt_pos {s : ByteArray} {most : Nat} (h : ¬ dgt s most < 0) : dgt s most = nd s ∧ 0 < nd s ∧ nd s ≤ most ∧ ¬ (1 < nd s ∧ sb s 0 = 48) := by
  unfold dgt at *
  split at h
  · exact absurd (by decide) h
  · rename_i h1
    rw [if_neg h1]
    refine ⟨rfl, ?_, ?_, ?_⟩ <;> omega
theorem sb_of_lb {s t : ByteArray} {j k : Nat} (hj : j < s.size) (hk : k < t.size) (h : (lb s)[j]? = (lb t)[k]?) : sb s j = sb t k := by
  rw [sb_lb (by rw [lb_size]; exact hj), sb_lb (by rw [lb_size]; exact hk)]
  rw [List.getElem?_eq_getElem (by rw [lb_size]; exact hj), List.getElem?_eq_getElem (by rw [lb_size]; exact hk)] at h
  injection h with h
  rw [h]
theorem lb_pre (s : ByteArray) (n : Nat) : lb (s.extract 0 n) = (lb s).take n := by
  show (s.extract 0 n).data.toList = _
  rw [Lib.extract_data, List.drop_zero, Nat.sub_zero]; rfl
theorem lb_from (s : ByteArray) (n : Nat) : lb (s.extract n s.size) = (lb s).drop n := Lib.extract_to_end s n
theorem pre_ok {s : ByteArray} {most : Nat} (h : ¬ dgt s most < 0) (hm : most ≤ 1000) : OkText (s.extract 0 (nd s)) ∧ (s.extract 0 (nd s)).size = nd s := by
  obtain ⟨-, h1, h2, h3⟩ := dgt_pos h
  obtain ⟨h4, h5⟩ := nd_all s
  have hsz : (s.extract 0 (nd s)).size = nd s := by rw [ByteArray.size_extract]; omega
  have hs : ∀ j, j < nd s → sb (s.extract 0 (nd s)) j = sb s j := fun j hj => sb_of_lb (by rw [hsz]; exact hj) (by omega) (by rw [lb_pre, List.getElem?_take, if_pos hj])
  refine ⟨⟨by rw [hsz]; exact h1, by rw [hsz]; omega, ?_, fun j hj => ?_⟩, hsz⟩
  · rw [hs 0 h1, hsz]; omega
  · rw [hsz] at hj; rw [hs j hj]; exact h5 j hj
theorem shape_digits {s t u : ByteArray} (h : lb s = lb t ++ 112 :: lb u) (ht : OkText t) : nd s = t.size ∧ t.size < s.size ∧ sb s t.size = 112 ∧ lb t = (lb s).take t.size ∧ lb u = (lb s).drop (t.size + 1) := by
  have hl := congrArg List.length h
  rw [List.length_append, List.length_cons, lb_size, lb_size, lb_size] at hl
  have hg : ∀ j, j < t.size → sb s j = sb t j := fun j hj => sb_of_lb (by omega) hj (by rw [h, List.getElem?_append_left (by rw [lb_size]; exact hj)])
  have hp : sb s t.size = 112 := by
    rw [sb_lb (s := s) (j := t.size) (by rw [lb_size]; omega)]
    have : (lb s)[t.size]? = some 112 := by rw [h, List.getElem?_append_right (by rw [lb_size]; exact Nat.le_refl _), lb_size, Nat.sub_self]; rfl
    rw [List.getElem?_eq_getElem (by rw [lb_size]; omega)] at this
    injection this with this
    rw [this]; rfl
  refine ⟨nd_is (by omega) (fun j hj => by rw [hg j hj]; exact ht.2.2.2 j hj) (.inr (by rw [hp]; decide)), by omega, hp, ?_, ?_⟩
  · rw [h, ← lb_size t, List.take_left' rfl]
  · rw [h, show lb t ++ 112 :: lb u = (lb t ++ [112]) ++ lb u from by simp, List.drop_left' (by rw [List.length_append, lb_size]; rfl)]
theorem shape_dgt {s t u : ByteArray} (h : lb s = lb t ++ 112 :: lb u) (ht : OkText t) (h16 : t.size ≤ 16) : dgt s 16 = t.size := by
  obtain ⟨h1, h2, h3, h4, -⟩ := shape_digits h ht
  unfold dgt
  rw [h1, if_neg]
  intro hh
  rcases hh with hh | hh | ⟨hh, h6⟩
  · have := ht.1; omega
  · omega
  · refine ht.2.2.1 ⟨?_, hh⟩
    rw [← h6]
    exact (sb_of_lb (by omega) (by omega) (by rw [h4, List.getElem?_take, if_pos (by omega)])).symm
theorem tv_bound {s : ByteArray} (h : OkText s) {k : Nat} (hk : s.size ≤ k) : 0 ≤ tv s s.size ∧ tv s s.size < 10 ^ k := by
  have key : ∀ i, i ≤ s.size → 0 ≤ tv s i ∧ tv s i < 10 ^ i := by
    intro i
    induction i with
    | zero => intro _; exact ⟨Int.le_refl _, by show (0 : Int) < 10 ^ 0; decide⟩
    | succ i ih =>
      intro hi
      obtain ⟨h0, h1⟩ := ih (by omega)
      have h2 := h.2.2.2 i (by omega)
      rw [Int.pow_succ]
      show 0 ≤ tv s i * 10 + (sb s i - 48) ∧ tv s i * 10 + (sb s i - 48) < _
      omega
  obtain ⟨h0, h1⟩ := key _ (Nat.le_refl _)
  exact ⟨h0, Int.lt_of_lt_of_le h1 (ipow_le (by decide) hk)⟩
/-- a number's text behind its sign -/
theorem num_shape {e : Int} {u : ByteArray} (h : IsNum e u) (h1 : -1074 ≤ e) (h2 : e ≤ 1023) :
    ∃ v, OkText v ∧ v.size ≤ 4 ∧ tv v v.size = (e.natAbs : Int) ∧ bdy u = lb v ∧ ngB u = decide (e < 0) := by
  obtain ⟨t, ht, rfl⟩ := h
  obtain ⟨ho, hv⟩ := ht.ok (by have : (10000 : Int) ≤ 10 ^ 250 := by decide
                               omega)
  obtain ⟨c, r, hc, hn⟩ := txt_head ho
  obtain ⟨e1, e2⟩ := bdy_is (neg := decide (e < 0)) (r := t) (fun d v hd => by rw [hc] at hd; simp only [List.cons.injEq] at hd; rw [← hd.1]; exact hn)
  refine ⟨t, ho, ?_, hv, e1, e2⟩
  obtain ⟨ds, q1, q2, q3, q4⟩ := ht
  rw [q4]
  split
  · decide
  · rename_i hne
    rw [strOfNums_size, List.length_reverse, chars_len]
    have hge := V_ge (B := 10) (by decide) q1 q2 hne
    rw [q3] at hge
    rcases Nat.lt_or_ge 4 ds.length with h9 | h9
    · have h8 : (10 : Int) ^ 4 ≤ 10 ^ (ds.length - 1) := ipow_le (by decide) (by omega)
      have h7 : (10 : Int) ^ 4 = 10000 := by decide
      omega
    · exact h9
theorem ok_dgt {v : ByteArray} {most : Nat} (h : OkText v) (h4 : v.size ≤ most) : dgt v most = v.size := by
  have hnd : nd v = v.size := nd_is (Nat.le_refl _) h.2.2.2 (.inl rfl)
  unfold dgt
  rw [hnd, if_neg]
  intro hh
  rcases hh with hh | hh | ⟨hh, h6⟩
  · have := h.1; omega
  · omega
  · exact h.2.2.1 ⟨h6, hh⟩
/-- what a text that tells a number has behind its 'p' -/
def Tail (C : Nat → Int → Prop) (U : ByteArray) : Prop := ∀ x, x < 18446744073709551616 → (∃ e, C x e) → ∃ e, IsNum e U ∧ -1074 ≤ e ∧ e ≤ 1023 ∧ C x e
/-- the last look of the shape: e is the sign's and the digits' -/
def ExpOf (V : ByteArray) (dn : Bool) (e : Int) : Prop := OkText V ∧ V.size ≤ 4 ∧ e = (if dn then -(tv V V.size) else tv V V.size)
theorem exp_of {e : Int} {U V : ByteArray} (h : IsNum e U) (h1 : -1074 ≤ e) (h2 : e ≤ 1023) (hV : lb V = bdy U) : ExpOf V (ngB U) e := by
  obtain ⟨v, h3, h4, h5, h6, h7⟩ := num_shape h h1 h2
  obtain rfl : V = v := lb_inj (by rw [hV, h6])
  refine ⟨h3, h4, ?_⟩
  rw [h7, h5]
  by_cases hx : e < 0
  · rw [decide_eq_true hx, if_pos rfl]; omega
  · rw [decide_eq_false hx, if_neg (by decide)]; omega
end Go.Proofs.YtdbkgpakpadloaaGreatDoor
