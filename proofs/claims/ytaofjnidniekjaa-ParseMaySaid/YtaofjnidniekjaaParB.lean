/- How far a reading goes (plain): each thing goes past one token at least; more fuel changes nothing. No conditions. -/
import Derived.Test.YtaofjnidniekjaaParA
namespace Go.Proofs.Ytaofjnidniekjaa
open Go.RowKit

theorem tok_over {L : List Tok} {i : Nat} (h : L.length ≤ i) : (tokAt L i).k = 0 := by
  unfold tokAt; rw [List.getD_eq_getElem?_getD, List.getElem?_eq_none h]; rfl
theorem word_lt {L : List Tok} {i : Nat} {t : List UInt8} (h : wordAt L i t = true) : i < L.length := by
  unfold wordAt at h
  have h := of_decide_eq_true h
  rcases Nat.lt_or_ge i L.length with h1 | h1
  · exact h1
  · have := tok_over h1; omega
theorem want_ok {L : List Tok} {i j : Nat} {t : List UInt8} (h : wantS L i t = .ok j) : j = i + 1 ∧ i < L.length := by
  unfold wantS at h
  split at h
  · rename_i h1; cases h; exact ⟨rfl, word_lt h1⟩
  · cases h
theorem num_ok {L : List Tok} {i : Nat} {x : Nat × Int} (h : numT L i = .ok x) : x.1 = i + 1 ∧ i < L.length := by
  unfold numT at h
  split at h
  · rename_i h1; cases h
    refine ⟨rfl, ?_⟩
    rcases Nat.lt_or_ge i L.length with h2 | h2
    · exact h2
    · have := tok_over h2; omega
  · cases h
theorem name_ok {names : List ByteArray} {L : List Tok} {i : Nat} {x : Nat × Nat} (h : nameS names L i = .ok x) : x.1 = i + 1 ∧ i < L.length := by
  unfold nameS at h
  split at h
  · rename_i h1
    split at h
    · cases h
    · cases h
      refine ⟨rfl, ?_⟩
      rcases Nat.lt_or_ge i L.length with h2 | h2
      · exact h2
      · have := tok_over h2; omega
  · cases h
theorem bind_ok {α β : Type} {x : Except (Nat × Nat) α} {f : α → Except (Nat × Nat) β} {y : β} (h : (x >>= f) = .ok y) : ∃ a, x = .ok a ∧ f a = .ok y := by
  cases x with
  | error e => cases h
  | ok a => exact ⟨a, rfl, h⟩
/-- a reading goes on, and not past the end -/
def Goes {σ : Type} (L : List Tok) (one : Nat → σ → Except (Nat × Nat) (Nat × σ)) : Prop := ∀ i q x, one i q = .ok x → i < x.1 ∧ x.1 ≤ L.length
theorem nums_ok (L : List Tok) : ∀ (f i : Nat) (l : List Int) (x : Nat × List Int), numsS L f i l = .ok x → i < x.1 ∧ x.1 ≤ L.length
  | 0, _, _, _, h => by cases h
  | f + 1, i, l, x, h => by
    obtain ⟨a, h1, h2⟩ := bind_ok h
    obtain ⟨h3, h4⟩ := num_ok h1
    dsimp only at h2
    split at h2
    · have := nums_ok L f _ _ _ h2; omega
    · cases h2; dsimp only; omega
theorem col_goes (meas : List ByteArray) (L : List Tok) : Goes L (colS meas L) := by
  intro i q x h
  have hk : ∀ (l : List (List UInt8)) (k m : Nat), kindAt L i l k = some m → i < L.length := by
    intro l
    induction l with
    | nil => intro k m h; cases h
    | cons w l ih =>
      intro k m h
      unfold kindAt at h
      split at h
      · rename_i h1; exact word_lt h1
      · exact ih _ _ h
  unfold colS at h
  split at h
  · cases h
  · rename_i h1; cases h
    have := hk _ _ _ h1
    dsimp only; omega
  · rename_i k h1
    obtain ⟨a, h2, h3⟩ := bind_ok h
    obtain ⟨b, h4, h5⟩ := bind_ok h3
    obtain ⟨c, h6, h7⟩ := bind_ok h5
    have e1 := want_ok h2
    have e2 := name_ok h4
    have e3 := want_ok h6
    cases h7
    dsimp only at *; omega
theorem ord_goes (L : List Tok) : Goes L (ordS L) := by
  intro i q x h
  unfold ordS at h
  obtain ⟨a, h1, h2⟩ := bind_ok h
  obtain ⟨h3, h4⟩ := num_ok h1
  dsimp only at h2
  split at h2
  · rename_i h5; have := word_lt h5; cases h2; dsimp only; omega
  · split at h2
    · rename_i h5; have := word_lt h5; cases h2; dsimp only; omega
    · cases h2; dsimp only; omega
theorem group_goes (dims : List ByteArray) (L : List Tok) : Goes L (groupS dims L) := by
  intro i q x h
  unfold groupS at h
  obtain ⟨a, h1, h2⟩ := bind_ok h
  obtain ⟨h3, h4⟩ := name_ok h1
  dsimp only at h2
  split at h2
  · cases h2
  · cases h2; dsimp only; omega
theorem cond_goes (dims : List ByteArray) (L : List Tok) : Goes L (condS dims L) := by
  intro i q x h
  unfold condS at h
  obtain ⟨a, h1, h2⟩ := bind_ok h
  obtain ⟨h3, h4⟩ := name_ok h1
  dsimp only at h2
  split at h2
  · obtain ⟨b, h5, h6⟩ := bind_ok h2
    have := num_ok h5
    cases h6
    dsimp only at *; omega
  · obtain ⟨b, h5, h6⟩ := bind_ok h2
    obtain ⟨c, h7, h8⟩ := bind_ok h6
    have e1 := want_ok h5
    have e2 := want_ok h7
    split at h8
    · rename_i h9; have := word_lt h9; cases h8; dsimp only at *; omega
    · obtain ⟨d, h9, h10⟩ := bind_ok h8
      have e3 := nums_ok L _ _ _ _ h9
      obtain ⟨e, h11, h12⟩ := bind_ok h10
      have e4 := want_ok h11
      cases h12
      dsimp only at *; omega
theorem list_fuel {σ : Type} {L : List Tok} {one : Nat → σ → Except (Nat × Nat) (Nat × σ)} (hg : Goes L one) (b : List UInt8) : ∀ (f g i : Nat) (q : σ), L.length < f + i → L.length < g + i → 0 < f → 0 < g → listS one L b f i q = listS one L b g i q
  | 0, _, _, _, _, _, h, _ => absurd h (Nat.lt_irrefl 0)
  | _ + 1, 0, _, _, _, _, _, h => absurd h (Nat.lt_irrefl 0)
  | f + 1, g + 1, i, q, hf, hgg, _, _ => by
    show (one i q >>= fun x => if wordAt L x.1 b = true then listS one L b f (x.1 + 1) x.2 else pure (x.1, x.2)) = (one i q >>= fun x => if wordAt L x.1 b = true then listS one L b g (x.1 + 1) x.2 else pure (x.1, x.2))
    rcases h : one i q with e | x
    · rfl
    · show (if wordAt L x.1 b = true then listS one L b f (x.1 + 1) x.2 else pure (x.1, x.2)) = (if wordAt L x.1 b = true then listS one L b g (x.1 + 1) x.2 else pure (x.1, x.2))
      obtain ⟨h1, h2⟩ := hg i q x h
      split
      · rename_i h3
        have h4 := word_lt h3
        exact list_fuel hg b f g (x.1 + 1) x.2 (by omega) (by omega) (by omega) (by omega)
      · rfl
/-- one of a condition's numbers -/
def numOne (L : List Tok) (i : Nat) (l : List Int) : Except (Nat × Nat) (Nat × List Int) := numT L i >>= fun x => pure (x.1, l ++ [x.2])
theorem numOne_goes (L : List Tok) : Goes L (numOne L) := by
  intro i l x h
  obtain ⟨a, h1, h2⟩ := bind_ok h
  obtain ⟨h3, h4⟩ := num_ok h1
  cases h2
  dsimp only; omega
theorem nums_list (L : List Tok) : ∀ (f i : Nat) (l : List Int), numsS L f i l = listS (numOne L) L [44] f i l
  | 0, _, _ => rfl
  | f + 1, i, l => by
    show (numT L i >>= fun x => if wordAt L x.1 [44] = true then numsS L f (x.1 + 1) (l ++ [x.2]) else pure (x.1, l ++ [x.2])) = (numOne L i l >>= fun x => if wordAt L x.1 [44] = true then listS (numOne L) L [44] f (x.1 + 1) x.2 else pure (x.1, x.2))
    unfold numOne
    rcases h : numT L i with e | x
    · rfl
    · show (if wordAt L x.1 [44] = true then numsS L f (x.1 + 1) (l ++ [x.2]) else pure (x.1, l ++ [x.2])) = (if wordAt L x.1 [44] = true then listS (numOne L) L [44] f (x.1 + 1) (l ++ [x.2]) else pure (x.1, l ++ [x.2]))
      rw [nums_list L f]
end Go.Proofs.Ytaofjnidniekjaa
