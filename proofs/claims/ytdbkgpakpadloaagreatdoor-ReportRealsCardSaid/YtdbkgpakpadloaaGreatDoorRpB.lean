/- Which real number a text tells: what report.Parse and bushelref44.Parse look at (plain). No conditions. -/
import Derived.Test.YtdbkgpakpadloaaGreatDoorRpA
namespace Go.Proofs.YtdbkgpakpadloaaGreatDoor
open Go.RowKit Ieee

def bdy (s : ByteArray) : List UInt8 := Lib.trimPrefix (lb s) [45]
def ngB (s : ByteArray) : Bool := Lib.hasPrefix (lb s) [45]
theorem bdy_is {neg : Bool} {r : ByteArray} (h : ∀ c t, lb r = c :: t → c ≠ 45) : bdy (sgB neg ++ r) = lb r ∧ ngB (sgB neg ++ r) = neg := by
  unfold bdy ngB Lib.trimPrefix
  rw [lb_app]
  cases neg
  · show (if Lib.hasPrefix (lb r) [45] = true then _ else lb r) = lb r ∧ Lib.hasPrefix (lb r) [45] = false
    have hp : Lib.hasPrefix (lb r) [45] = false := by
      unfold Lib.hasPrefix
      rcases hl : lb r with _ | ⟨c, t⟩
      · rfl
      · have := h c t hl
        simp [List.isPrefixOf]
        exact fun h => this h.symm
    rw [hp]
    exact ⟨rfl, rfl⟩
  · show (if Lib.hasPrefix (45 :: lb r) [45] = true then (45 :: lb r).drop 1 else 45 :: lb r) = lb r ∧ Lib.hasPrefix (45 :: lb r) [45] = true
    have hp : Lib.hasPrefix (45 :: lb r) [45] = true := by unfold Lib.hasPrefix; simp [List.isPrefixOf]
    rw [hp]
    exact ⟨rfl, rfl⟩
theorem index_p : ∀ (a b : List UInt8), (∀ c ∈ a, c ≠ 112) → Lib.index (a ++ 112 :: b) [112] = (a.length : Int)
  | [], b, _ => by show Lib.index (112 :: b) [112] = 0; unfold Lib.index; simp [List.isPrefixOf]
  | c :: a, b, h => by
    have ih := index_p a b fun d hd => h d (List.mem_cons_of_mem _ hd)
    have hc := h c List.mem_cons_self
    show Lib.index (c :: (a ++ 112 :: b)) [112] = _
    unfold Lib.index
    rw [if_neg (by simp [List.isPrefixOf]; exact fun h => hc h.symm), ih, if_neg (by rw [beq_iff_eq]; omega), List.length_cons]
    omega
theorem cut_p {a b : List UInt8} (h : ∀ c ∈ a, c ≠ 112) : Lib.cut (a ++ 112 :: b) [112] = (a, b, true) := by
  unfold Lib.cut
  rw [index_p a b h, if_pos (by omega), Int.toNat_natCast, List.take_left' rfl]
  have : List.drop (a.length + 1) (a ++ 112 :: b) = b := by
    rw [show a ++ 112 :: b = (a ++ [112]) ++ b from by simp]
    exact List.drop_left' (by simp)
  rw [show [(112 : UInt8)].length = 1 from rfl, this]
theorem join_inf (neg : Bool) : joinN neg 1 2000 = if neg then S63 + INF else INF := by
  unfold joinN
  rw [near_big (X := 1) (n := 1) (e := 2000) (by decide) (by decide) (by decide)]
/-- the place of a number's lowest bit -/
theorem split_range {b : Nat} {neg : Bool} {m x : Int} (h : SplitOut b neg m x) (hk : kindZ b = 1) : -1074 ≤ x ∧ x ≤ 1023 := by
  rcases h with ⟨h1, -⟩ | ⟨h1, -, M, k, -, rfl, ho⟩
  · exact absurd hk h1
  · have hk1 := kind1.1 hk
    have hM : 0 < M := by have := ho.2; omega
    have h2 : iv (b % S63) < iv INF := iv_lt hk1.2
    rw [ho.1, iv_inf] at h2
    have h3 : 2 ^ k ≤ M * 2 ^ k := Nat.le_mul_of_pos_left _ hM
    have h4 : B52 * 2 ^ K2046 = 2 ^ (52 + K2046) := by rw [Nat.pow_add]
    rw [h4] at h2
    have h5 := two_pow_lt (Nat.lt_of_le_of_lt h3 h2)
    unfold K2046 at h5
    omega
def cutA (s : ByteArray) : ByteArray := ⟨(Lib.cut (bdy s) [112]).1.toArray⟩
def cutB (s : ByteArray) : ByteArray := ⟨(Lib.cut (bdy s) [112]).2.1.toArray⟩
/-- what report.Parse takes a text for, ahead of its last look -/
def PCand (s : ByteArray) (x : Nat) : Prop :=
  (bdy s = lb txZero ∧ x = joinN (ngB s) 0 0) ∨ (bdy s ≠ lb txZero ∧ bdy s = lb txInf ∧ x = joinN (ngB s) 1 2000) ∨
  (bdy s ≠ lb txZero ∧ bdy s ≠ lb txInf ∧ (Lib.cut (bdy s) [112]).2.2 = true ∧ OkText (cutA s) ∧ ∃ e, Lib.atoiAll (lb (cutB s)) = .ok e ∧ -1074 ≤ e ∧ e ≤ 1023 ∧ tv (cutA s) (cutA s).size < 9007199254740992 ∧ x = joinN (ngB s) (tv (cutA s) (cutA s).size).toNat e)
theorem PCand.one {s : ByteArray} {x y : Nat} (h : PCand s x) (k : PCand s y) : x = y := by
  rcases h with ⟨h1, rfl⟩ | ⟨h1, h2, rfl⟩ | ⟨h1, h2, h3, h4, e, h5, h6, h7, h8, rfl⟩ <;> rcases k with ⟨k1, rfl⟩ | ⟨k1, k2, rfl⟩ | ⟨k1, k2, k3, k4, e', k5, k6, k7, k8, rfl⟩
  · rfl
  · exact absurd h1 k1
  · exact absurd h1 k1
  · exact absurd k1 h1
  · rfl
  · exact absurd h2 k2
  · exact absurd k1 h1
  · exact absurd k2 h2
  · rw [h5] at k5
    injection k5 with k5
    rw [k5]
theorem txt_head {t : ByteArray} (h : OkText t) : ∃ c r, lb t = c :: r ∧ c ≠ 45 := by
  rcases hl : lb t with _ | ⟨c, r⟩
  · have := lb_size t; rw [hl] at this; have := h.1; simp at *; omega
  · refine ⟨c, r, rfl, fun e => ?_⟩
    have := ok_digits h c (by rw [hl]; exact List.mem_cons_self)
    rw [e] at this
    exact absurd this (by decide)
theorem txt_nop {t : ByteArray} (h : OkText t) : ∀ c ∈ lb t, c ≠ 112 := fun c hc e => by
  have := ok_digits h c hc
  rw [e] at this
  exact absurd this (by decide)
theorem real_cases {b : Nat} {s : ByteArray} (h : IsReal b s) (hk : kindZ b ≠ 3) (hb : b < 18446744073709551616) :
    (∃ neg, s = sgB neg ++ txZero ∧ b = joinN neg 0 0) ∨ (∃ neg, s = sgB neg ++ txInf ∧ b = joinN neg 1 2000) ∨
    ∃ neg t u x, s = sgB neg ++ (t ++ txP ++ u) ∧ OkText t ∧ t.size ≤ 16 ∧ IsNum x u ∧ -1074 ≤ x ∧ x ≤ 1023 ∧ tv t t.size < 9007199254740992 ∧ b = joinN neg (tv t t.size).toNat x := by
  obtain ⟨neg, m, x, hs, h⟩ := h
  rcases h with ⟨h1, rfl⟩ | ⟨h1, rfl⟩ | ⟨h1, -⟩ | ⟨h1, t, u, ht, hu, rfl⟩
  · obtain ⟨M, hM, -, hj, -⟩ := join_split hb hs (.inl h1)
    rcases hs with ⟨-, -, rfl, rfl⟩ | ⟨h2, -⟩
    · obtain rfl : M = 0 := by omega
      exact .inl ⟨neg, rfl, hj.symm⟩
    · omega
  · refine .inr (.inl ⟨neg, rfl, ?_⟩)
    rcases hs with ⟨-, rfl, -, -⟩ | ⟨h2, -⟩
    · have hi : b % S63 = INF := by
        unfold kindZ at h1
        split at h1
        · omega
        · split at h1
          · assumption
          · split at h1 <;> omega
      rw [join_inf]
      unfold belowB
      unfold S63 INF at *
      by_cases h2 : 9223372036854775808 ≤ b
      · rw [decide_eq_true h2, decide_eq_true (by omega), if_pos (by rfl)]; omega
      · rw [decide_eq_false h2, if_neg (by simp)]; omega
    · omega
  · exact absurd h1 hk
  · obtain ⟨M, rfl, hM, hj, -⟩ := join_split hb hs (.inr h1)
    obtain ⟨e1, e2⟩ := split_range hs h1
    obtain ⟨ho, hv⟩ := ht.ok (by have : (9007199254740992 : Int) ≤ 10 ^ 250 := by decide
                                 omega)
    refine .inr (.inr ⟨neg, t, u, x, lb_inj (by simp only [lb_app, List.append_assoc]), ho, ?_, hu, e1, e2, by rw [hv]; omega, by rw [hv, Int.toNat_natCast]; exact hj.symm⟩)
    obtain ⟨ds, q1, q2, q3, q4⟩ := ht
    rw [q4]
    split
    · decide
    · rename_i hne
      rw [strOfNums_size, List.length_reverse, chars_len]
      have hge := V_ge (B := 10) (by decide) q1 q2 hne
      rw [q3] at hge
      rcases Nat.lt_or_ge 16 ds.length with h9 | h9
      · have h8 : (10 : Int) ^ 16 ≤ 10 ^ (ds.length - 1) := ipow_le (by decide) (by omega)
        have h7 : (10 : Int) ^ 16 = 10000000000000000 := by decide
        omega
      · exact h9
theorem parts_is {neg : Bool} {t u : ByteArray} (h : OkText t) : bdy (sgB neg ++ (t ++ txP ++ u)) = lb t ++ 112 :: lb u ∧ ngB (sgB neg ++ (t ++ txP ++ u)) = neg := by
  obtain ⟨c, r, hc, hn⟩ := txt_head h
  have hl : lb (t ++ txP ++ u) = lb t ++ 112 :: lb u := by rw [lb_app, lb_app, List.append_assoc]; rfl
  rw [← hl]
  exact bdy_is fun d v hd => by
    rw [hl, hc] at hd
    simp only [List.cons_append, List.cons.injEq] at hd
    rw [← hd.1]; exact hn
theorem real_pcand {b : Nat} {s : ByteArray} (h : IsReal b s) (hk : kindZ b ≠ 3) (hb : b < 18446744073709551616) : PCand s b := by
  rcases real_cases h hk hb with ⟨neg, rfl, h2⟩ | ⟨neg, rfl, h2⟩ | ⟨neg, t, u, x, rfl, h2, -, h3, h4, h5, h6, h7⟩
  · obtain ⟨e1, e2⟩ := bdy_is (neg := neg) (r := txZero) (fun c t hc => by cases hc; decide)
    exact .inl ⟨e1, by rw [e2]; exact h2⟩
  · obtain ⟨e1, e2⟩ := bdy_is (neg := neg) (r := txInf) (fun c t hc => by cases hc; decide)
    exact .inr (.inl ⟨by rw [e1]; decide, e1, by rw [e2]; exact h2⟩)
  · obtain ⟨e1, e2⟩ := parts_is (neg := neg) (u := u) h2
    have hcut := cut_p (a := lb t) (b := lb u) (txt_nop h2)
    have ha : cutA (sgB neg ++ (t ++ txP ++ u)) = t := by unfold cutA; rw [e1, hcut]; rfl
    have hbb : cutB (sgB neg ++ (t ++ txP ++ u)) = u := by unfold cutB; rw [e1, hcut]; rfl
    have hin : (112 : UInt8) ∈ lb t ++ 112 :: lb u := by simp
    refine .inr (.inr ⟨?_, ?_, ?_, ?_, x, ?_, h4, h5, ?_, ?_⟩)
    · rw [e1]; intro hh; rw [hh] at hin; exact absurd hin (by decide)
    · rw [e1]; intro hh; rw [hh] at hin; exact absurd hin (by decide)
    · rw [e1, hcut]
    · rw [ha]; exact h2
    · rw [hbb]; exact num_atoi h3 (by omega)
    · rw [ha]; exact h6
    · rw [ha, e2]; exact h7
theorem real_none {b : Nat} (h : IsReal b txNone) (hb : b < 18446744073709551616) : kindZ b = 3 := by
  by_cases hk : kindZ b = 3
  · exact hk
  exfalso
  have hn : bdy txNone = lb txNone := rfl
  rcases real_cases h hk hb with ⟨neg, h2, -⟩ | ⟨neg, h2, -⟩ | ⟨neg, t, u, x, h2, h3, -⟩
  · have e1 := (bdy_is (neg := neg) (r := txZero) (fun c t hc => by cases hc; decide)).1
    rw [← h2, hn] at e1
    exact absurd e1 (by decide)
  · have e1 := (bdy_is (neg := neg) (r := txInf) (fun c t hc => by cases hc; decide)).1
    rw [← h2, hn] at e1
    exact absurd e1 (by decide)
  · have e1 := (parts_is (neg := neg) (u := u) h3).1
    rw [← h2, hn] at e1
    have hin : (112 : UInt8) ∈ lb t ++ 112 :: lb u := by simp
    rw [← e1] at hin
    exact absurd hin (by decide)
theorem nan_text {b : Nat} {s : ByteArray} (h : IsReal b s) (hk : kindZ b = 3) : s = txNone := by
  obtain ⟨n, m, x, -, h⟩ := h
  rcases h with ⟨h1, -⟩ | ⟨h1, -⟩ | ⟨-, h1⟩ | ⟨h1, -⟩
  · omega
  · omega
  · exact h1
  · omega
end Go.Proofs.YtdbkgpakpadloaaGreatDoor
