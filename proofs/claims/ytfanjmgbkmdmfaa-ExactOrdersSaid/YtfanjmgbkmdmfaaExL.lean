/- Sums of at most 100 numbers hang on no order. No conditions. -/
import Derived.Test.YtfanjmgbkmdmfaaExI
namespace Go.Proofs.Ytfanjmgbkmdmfaa
open Go.RowKit Ieee

def flagOf (x : Nat) : Nat := if kindZ x = 3 then 1 else if kindZ x = 2 then (if S63 ≤ x then 4 else 2) else if kindZ x = 0 then (if S63 ≤ x then 8 else 16) else 16
def uniOf (x : Nat) : Int := if kindZ x = 1 then unitsOf x else 0
def orF : List Nat → Nat
  | [] => 0
  | x :: zs => flagOf x ||| orF zs
def sumU : List Nat → Int
  | [] => 0
  | x :: zs => uniOf x + sumU zs
theorem orF_append : ∀ (xs ys : List Nat), orF (xs ++ ys) = orF xs ||| orF ys
  | [], ys => by rw [List.nil_append]; exact (Nat.zero_or _).symm
  | x :: xs, ys => by
    show flagOf x ||| orF (xs ++ ys) = flagOf x ||| orF xs ||| orF ys
    rw [orF_append xs ys, Nat.or_assoc]
theorem sumU_append : ∀ (xs ys : List Nat), sumU (xs ++ ys) = sumU xs + sumU ys
  | [], ys => by rw [List.nil_append]; exact (Int.zero_add _).symm
  | x :: xs, ys => by
    show uniOf x + sumU (xs ++ ys) = uniOf x + sumU xs + sumU ys
    rw [sumU_append xs ys, Int.add_assoc]
theorem orF_rev : ∀ (xs : List Nat), orF xs.reverse = orF xs
  | [] => rfl
  | x :: xs => by
    rw [List.reverse_cons, orF_append, orF_rev xs]
    show orF xs ||| (flagOf x ||| 0) = flagOf x ||| orF xs
    rw [Nat.or_zero, Nat.or_comm]
theorem sumU_rev : ∀ (xs : List Nat), sumU xs.reverse = sumU xs
  | [] => rfl
  | x :: xs => by
    rw [List.reverse_cons, sumU_append, sumU_rev xs]
    show sumU xs + (uniOf x + 0) = uniOf x + sumU xs
    omega
def TOP : Nat := iv INF
theorem uni_le (x : Nat) : (uniOf x).natAbs ≤ TOP := by
  unfold uniOf
  split
  · rename_i h
    obtain ⟨-, h2⟩ := kind1.1 h
    have := iv_lt h2
    unfold unitsOf signU TOP
    split <;> omega
  · exact Nat.zero_le _
theorem sumU_le : ∀ (xs : List Nat), (sumU xs).natAbs ≤ xs.length * TOP
  | [] => Nat.zero_le _
  | x :: xs => by
    have h1 := sumU_le xs
    have h2 := uni_le x
    show (uniOf x + sumU xs).natAbs ≤ (xs.length + 1) * TOP
    rw [Nat.add_mul, Nat.one_mul]
    omega
theorem top_room {n : Nat} (h : n ≤ 128) : n * TOP < ROOM := by
  unfold TOP
  rw [iv_inf, room_eq]
  obtain ⟨k, hk⟩ : ∃ k, k = K2046 := ⟨_, rfl⟩
  obtain ⟨l, hl⟩ : ∃ l, l = K2240 := ⟨_, rfl⟩
  rw [← hk, ← hl]
  have h1 : n * (B52 * 2 ^ k) ≤ 2 ^ 7 * (2 ^ 52 * 2 ^ k) := Nat.mul_le_mul h (Nat.le_refl _)
  rw [← Nat.pow_add, ← Nat.pow_add] at h1
  refine Nat.lt_of_le_of_lt h1 (Nat.pow_lt_pow_right (by decide) ?_)
  rw [hk, hl]; decide
theorem sumU_room {xs : List Nat} (h : xs.length ≤ 128) : (sumU xs).natAbs < ROOM := Nat.lt_of_le_of_lt (sumU_le xs) (top_room h)
theorem step_free {b x : Nat} {z : Int} (h : (z + uniOf x).natAbs < ROOM) : stepS (b, z) x = (b ||| flagOf x, z + uniOf x) := by
  rcases kind_cases x with hk | ⟨hk, -⟩ | ⟨hk, -⟩ | hk
  · unfold stepS addF addZ uniOf flagOf
    simp only [hk]
    simp
  · unfold stepS addF addZ uniOf flagOf
    simp only [hk]
    simp
  · unfold stepS addF addZ uniOf flagOf
    simp only [hk]
    simp
  · have e : uniOf x = unitsOf x := by unfold uniOf; rw [if_pos hk]
    rw [e] at h ⊢
    have hf : flagOf x = 16 := by unfold flagOf; simp only [hk]; simp
    rw [hf]
    unfold stepS addF addZ addOk putZ
    simp only [hk]
    rw [if_pos h, decide_eq_true h]
    rfl
theorem fold_from : ∀ (zs pre : List Nat), pre.length + zs.length ≤ 128 → zs.foldl stepS (orF pre, sumU pre) = (orF (pre ++ zs), sumU (pre ++ zs))
  | [], pre, _ => by rw [List.append_nil]; rfl
  | x :: zs, pre, h => by
    have h1 : sumU (pre ++ [x]) = sumU pre + uniOf x := by
      rw [sumU_append]
      show sumU pre + (uniOf x + 0) = _
      omega
    have h2 : orF (pre ++ [x]) = orF pre ||| flagOf x := by
      rw [orF_append]
      show orF pre ||| (flagOf x ||| 0) = _
      rw [Nat.or_zero]
    rw [List.foldl_cons, step_free (by rw [← h1]; exact sumU_room (by simp at h ⊢; omega)), ← h1, ← h2, fold_from zs (pre ++ [x]) (by simp at h ⊢; omega), List.append_assoc]
    rfl
theorem foldS_eq {zs : List Nat} (h : zs.length ≤ 128) : foldS zs = (orF zs, sumU zs) := by
  have := fold_from zs [] (by simpa using h)
  exact this
theorem foldS_rev {zs : List Nat} (h : zs.length ≤ 128) : foldS zs.reverse = foldS zs := by
  rw [foldS_eq (by simpa using h), foldS_eq h, orF_rev, sumU_rev]
theorem foldS_cut {zs : List Nat} (h : zs.length ≤ 128) (k : Nat) : (((foldS (zs.drop k)).2 + (foldS (zs.take k)).2).natAbs < ROOM) ∧ (foldS (zs.drop k)).1 ||| (foldS (zs.take k)).1 = (foldS zs).1 ∧ (foldS (zs.drop k)).2 + (foldS (zs.take k)).2 = (foldS zs).2 := by
  have hd : (zs.drop k).length ≤ 128 := by rw [List.length_drop]; omega
  have ht : (zs.take k).length ≤ 128 := by rw [List.length_take]; omega
  rw [foldS_eq hd, foldS_eq ht, foldS_eq h]
  have h1 : orF (zs.take k) ||| orF (zs.drop k) = orF zs := by rw [← orF_append, List.take_append_drop]
  have h2 : sumU (zs.take k) + sumU (zs.drop k) = sumU zs := by rw [← sumU_append, List.take_append_drop]
  refine ⟨?_, ?_, ?_⟩
  · show (sumU (zs.drop k) + sumU (zs.take k)).natAbs < ROOM
    rw [Int.add_comm, h2]
    exact sumU_room h
  · show orF (zs.drop k) ||| orF (zs.take k) = orF zs
    rw [Nat.or_comm]; exact h1
  · show sumU (zs.drop k) + sumU (zs.take k) = sumU zs
    rw [Int.add_comm]; exact h2
theorem foldS_snoc (zs : List Nat) (x : Nat) : foldS (zs ++ [x]) = stepS (foldS zs) x := by
  unfold foldS
  rw [List.foldl_append]
  rfl
end Go.Proofs.Ytfanjmgbkmdmfaa
