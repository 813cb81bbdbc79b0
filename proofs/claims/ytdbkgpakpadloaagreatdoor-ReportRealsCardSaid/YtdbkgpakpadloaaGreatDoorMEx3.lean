/- The chapter's examples of ratio: bushellaw04.awake. No conditions. -/
import Derived.Test.YtdbkgpakpadloaaGreatDoorMRat2
import Derived.Test.YtdbkgpakpadloaaGreatDoorMEx2
namespace Go.Proofs.YtdbkgpakpadloaaGreatDoor
open Go.RowKit Ieee

theorem near_ex {p q t k K : Nat} (hK : K = t + k) (hq : 0 < q) (h1 : p * 2 ^ k < q * 9007199254740992) (h2 : t = 0 ∨ q * 4503599627370496 ≤ p * 2 ^ k) : IsNear (p * 2 ^ K) q (min (t * B52 + rne (p * 2 ^ k) q) INF) := by
  have e1 : p * 2 ^ K = p * 2 ^ k * 2 ^ t := by rw [hK, Nat.pow_add]; ac_rfl
  refine ⟨t, ⟨hq, ?_, ?_⟩, ?_⟩
  · rw [e1, Nat.add_comm t, Nat.pow_add 2 53, ← Nat.mul_assoc]
    exact Nat.mul_lt_mul_of_pos_right h1 (Nat.two_pow_pos t)
  · rcases h2 with h2 | h2
    · exact .inl h2
    · right
      rw [e1, Nat.add_comm t, Nat.pow_add 2 52, ← Nat.mul_assoc]
      exact Nat.mul_le_mul_right _ h2
  · rw [e1, rne_scale (Nat.two_pow_pos t)]
/-- a root that comes out -/
theorem root_ex {r q t k K : Nat} (hK : K = t + k) (hq : 0 < q) (h1 : r * 2 ^ k < 9007199254740992) (h2 : t = 0 ∨ 4503599627370496 ≤ r * 2 ^ k) : IsRoot (r * r * q * (2 ^ K * 2 ^ K)) q (min (t * B52 + r * 2 ^ k) INF) := by
  have e1 : r * r * q * (2 ^ K * 2 ^ K) = q * (r * 2 ^ k * 2 ^ t * (r * 2 ^ k * 2 ^ t)) := by rw [hK, Nat.pow_add]; ac_rfl
  have hpt := Nat.two_pow_pos t
  rw [e1]
  generalize r * 2 ^ k = m at *
  have hup : upR (q * (m * 2 ^ t * (m * 2 ^ t))) q t m = false := by
    unfold upR
    have e2 : 4 * (q * (m * 2 ^ t * (m * 2 ^ t))) = q * (2 * m * 2 ^ t * (2 * m * 2 ^ t)) := by
      rw [show (4 : Nat) = 2 * 2 from rfl]; ac_rfl
    have h3 : 2 * m * 2 ^ t * (2 * m * 2 ^ t) < (2 * m + 1) * 2 ^ t * ((2 * m + 1) * 2 ^ t) := sq_lt.2 (Nat.mul_lt_mul_of_pos_right (by omega) hpt)
    have h4 := Nat.mul_lt_mul_of_pos_left h3 hq
    rw [e2, show decide (q * ((2 * m + 1) * 2 ^ t * ((2 * m + 1) * 2 ^ t)) < q * (2 * m * 2 ^ t * (2 * m * 2 ^ t))) = false from by simp only [decide_eq_false_iff_not]; omega,
      show decide (q * ((2 * m + 1) * 2 ^ t * ((2 * m + 1) * 2 ^ t)) = q * (2 * m * 2 ^ t * (2 * m * 2 ^ t))) = false from by simp only [decide_eq_false_iff_not]; omega]
    rfl
  refine ⟨t, m, ⟨hq, ?_, ?_⟩, Nat.le_refl _, ?_, ?_⟩
  · refine Nat.mul_lt_mul_of_pos_left (sq_lt.2 ?_) hq
    rw [Nat.add_comm t, Nat.pow_add 2 53]
    exact Nat.mul_lt_mul_of_pos_right h1 hpt
  · rcases h2 with h2 | h2
    · exact .inl h2
    · right
      refine Nat.mul_le_mul_left _ (sq_le.2 ?_)
      rw [Nat.add_comm t, Nat.pow_add 2 52]
      exact Nat.mul_le_mul_right _ h2
  · exact Nat.mul_lt_mul_of_pos_left (sq_lt.2 (Nat.mul_lt_mul_of_pos_right (by omega) hpt)) hq
  · rw [hup]; rfl
theorem third {z : Nat} (h : IsQuot false 1 3 z) : z = 4599676419421066581 := by
  obtain ⟨-, h⟩ := h
  rcases h with ⟨h1, -, -⟩ | ⟨-, h1, -⟩ | ⟨h1, -, -⟩ | ⟨-, -, y, h3, h4⟩
  · omega
  · omega
  · omega
  · rw [sgnW_no] at h4
    rw [h4, h3.one (near_ex (t := 1020) (k := 54) (by decide) (by decide) (by decide) (.inr (by decide)))]
    decide
theorem half3 {z : Nat} (h : IsMean (-3) 2 z) : z = 13832806255468478464 := by
  rcases h with ⟨h1, -, -⟩ | ⟨-, -, h⟩
  · omega
  · rcases h with ⟨h1, -, -⟩ | ⟨-, h1, -⟩ | ⟨h1, -, -⟩ | ⟨-, -, y, h3, h4⟩
    · exact absurd h1 (by decide)
    · exact absurd h1 (by decide)
    · exact absurd h1 (by decide)
    · rw [show ((-3 : Int)).natAbs = 3 from rfl, show ((2 : Int)).natAbs = 2 from rfl] at h3
      rw [h4, IsNear.one (D := 2) (N := 3 * 2 ^ K1074) h3 (near_ex (t := 1022) (k := 52) (by decide) (by decide) (by decide) (.inr (by decide)))]
      decide
theorem mean00 {z : Nat} (h : IsMean 0 0 z) : kindZ z = 3 := by
  rcases h with ⟨-, h1, -⟩ | ⟨-, -, h⟩
  · exact absurd rfl h1
  · rcases h with ⟨-, -, h1⟩ | ⟨h1, -, -⟩ | ⟨-, h1, -⟩ | ⟨h1, -, -⟩
    · exact kind3.2 h1
    · exact absurd rfl h1
    · exact absurd rfl h1
    · exact absurd rfl h1
theorem dev1 {z : Nat} (h : IsDev 2 4 10 z) : z = 4607182418800017408 := by
  obtain ⟨-, h⟩ := h
  rcases h with ⟨h1, -⟩ | ⟨-, -, -, h⟩
  · rcases h1 with h1 | h1 <;> exact absurd h1 (by decide)
  · rcases h with ⟨h1, -, -⟩ | ⟨-, h1, -⟩ | ⟨h1, -, -⟩ | ⟨-, -, h3⟩
    · exact absurd h1 (by decide)
    · exact absurd h1 (by decide)
    · exact absurd h1 (by decide)
    · rw [show ((2 : Int) * ((10 : Nat) : Int) - 4 * 4).toNat = 1 * 1 * 4 from by decide, show ((2 : Int)).toNat * ((2 : Int)).toNat = 4 from by decide] at h3
      rw [IsRoot.one (D := 4) (N := 1 * 1 * 4 * (2 ^ K1074 * 2 ^ K1074)) h3 (root_ex (t := 1022) (k := 52) (by decide) (by decide) (by decide) (.inr (by decide)))]
      decide
theorem dig_1 {x : Int} (h0 : 0 ≤ x) (h1 : x < 4294967296) : Dig 4294967296 [x] := by
  intro d hd
  simp at hd
  omega

end Go.Proofs.YtdbkgpakpadloaaGreatDoor
/- Contract of package exact's Total; the chapter's examples. No conditions. -/
namespace Go.Proofs.YtdbkgpakpadloaaGreatDoor
open Go.RowKit Ieee

/-- a slice of floats that holds the words zs -/
def FRow (w : World) (a : Option Addr) (n c : Nat) (zs : List Nat) : Prop :=
  zs.length = n ∧ n ≤ c ∧ c ≤ maxLen ∧ (n = 0 ∨ ∃ b off, a = some ⟨b, off, none⟩ ∧ b < w.heap.size ∧ ∀ i, i < n → w.cell? ⟨b, off + i, none⟩ = some (.float .f64 (zs.getD i 0)))
theorem FRow.below {w w' : World} {a : Option Addr} {n c B : Nat} {zs : List Nat} (h : FRow w a n c zs) (hb : Below B w w') (hB : w.heap.size ≤ B) : FRow w' a n c zs := by
  obtain ⟨h1, h2, h3, h4⟩ := h
  refine ⟨h1, h2, h3, ?_⟩
  rcases h4 with h4 | ⟨b, off, e, hlt, hc⟩
  · exact .inl h4
  · exact .inr ⟨b, off, e, by have := hb.size; omega, fun i hi => by rw [(bcell hb).1 _ _ (by omega)]; exact hc i hi⟩
theorem FRow.but {w w' : World} {a : Option Addr} {n c g b l q : Nat} {neg : Bool} {A : Option Addr} {zs : List Nat} {t : TypeId} (h : FRow w a n c zs) (hk : Blk w g t (sumCells b neg A l q)) (hb : But g w w') : FRow w' a n c zs := by
  obtain ⟨h1, h2, h3, h4⟩ := h
  refine ⟨h1, h2, h3, ?_⟩
  rcases h4 with h4 | ⟨bb, off, rfl, hlt, hc⟩
  · exact .inl h4
  · refine .inr ⟨bb, off, rfl, Nat.lt_of_lt_of_le hlt hb.size, fun i hi => ?_⟩
    by_cases hg : bb = g
    · subst hg
      have h5 := hc i hi
      rw [hk.cell] at h5
      have h6 : off + i = 0 ∨ off + i = 1 ∨ off + i = 2 ∨ off + i = 3 ∨ 4 ≤ off + i := by omega
      rcases h6 with h6 | h6 | h6 | h6 | h6
      · rw [h6] at h5; cases h5
      · rw [h6] at h5; cases h5
      · rw [h6] at h5; cases h5
      · rw [h6] at h5; cases h5
      · rw [Array.getElem?_eq_none (by simp [sumCells]; omega)] at h5; cases h5
    · rw [hb.cell hlt hg]
      exact hc i hi
/-- one number more -/
def stepS (s : Nat × Int) (x : Nat) : Nat × Int := (addF s.1 s.2 x, addZ s.2 x)
def foldS (zs : List Nat) : Nat × Int := zs.foldl stepS (0, 0)
def Okay (s : Nat × Int) : Prop := s.1 < 32 ∧ s.2.natAbs < ROOM
theorem room_pos : 0 < ROOM := by rw [room_eq]; exact Nat.two_pow_pos _
theorem okay0 : Okay (0, 0) := ⟨by decide, room_pos⟩
theorem addF_lt {b x : Nat} {z : Int} (h : b < 32) : addF b z x < 32 := by
  have h1 : ∀ k, k < 2 ^ 5 → b ||| k < 2 ^ 5 := fun k hk => Nat.or_lt_two_pow h hk
  unfold addF
  split
  · exact h1 1 (by decide)
  · split
    · split
      · exact h1 4 (by decide)
      · exact h1 2 (by decide)
    · split
      · split
        · exact h1 8 (by decide)
        · exact h1 16 (by decide)
      · split
        · exact h1 16 (by decide)
        · exact h
theorem putZ_lt {z y : Int} (h : z.natAbs < ROOM) : (putZ z y).natAbs < ROOM := by
  unfold putZ
  split
  · assumption
  · exact h
theorem Okay.step {s : Nat × Int} (h : Okay s) (x : Nat) : Okay (stepS s x) := by
  refine ⟨addF_lt h.1, ?_⟩
  show (addZ s.2 x).natAbs < ROOM
  unfold addZ
  split
  · exact putZ_lt h.2
  · exact h.2
theorem Okay.fold : ∀ (zs : List Nat) (s : Nat × Int), Okay s → Okay (zs.foldl stepS s)
  | [], _, h => h
  | x :: zs, _, h => Okay.fold zs _ (h.step x)
theorem foldS_take {zs : List Nat} {k : Nat} (h : k < zs.length) : foldS (zs.take (k + 1)) = stepS (foldS (zs.take k)) (zs.getD k 0) := by
  unfold foldS
  rw [List.take_succ_eq_append_getElem h, List.foldl_append]
  simp [h]

end Go.Proofs.YtdbkgpakpadloaaGreatDoor
/- Sums of at most 100 numbers hang on no order. No conditions. -/
namespace Go.Proofs.YtdbkgpakpadloaaGreatDoor
open Go.RowKit Ieee

def flagOf (x : Nat) : Nat := if kindZ x = 3 then 1 else if kindZ x = 2 then (if S63 ≤ x then 4 else 2) else if kindZ x = 0 then (if S63 ≤ x then 8 else 16) else 16
def uniOf (x : Nat) : Int := if kindZ x = 1 then unitsOf x else 0
def orF : List Nat → Nat
  | [] => 0
  | x :: zs => flagOf x ||| orF zs
def sumU : List Nat → Int
  | [] => 0
  | x :: zs => uniOf x + sumU zs
theorem orF_append : ∀ (xs ys : List Nat), orF (xs ++ ys) = orF xs ||| orF ys
  | [], ys => by rw [List.nil_append]; exact (Nat.zero_or _).symm
  | x :: xs, ys => by
    show flagOf x ||| orF (xs ++ ys) = flagOf x ||| orF xs ||| orF ys
    rw [orF_append xs ys, Nat.or_assoc]
theorem sumU_append : ∀ (xs ys : List Nat), sumU (xs ++ ys) = sumU xs + sumU ys
  | [], ys => by rw [List.nil_append]; exact (Int.zero_add _).symm
  | x :: xs, ys => by
    show uniOf x + sumU (xs ++ ys) = uniOf x + sumU xs + sumU ys
    rw [sumU_append xs ys, Int.add_assoc]
theorem orF_rev : ∀ (xs : List Nat), orF xs.reverse = orF xs
  | [] => rfl
  | x :: xs => by
    rw [List.reverse_cons, orF_append, orF_rev xs]
    show orF xs ||| (flagOf x ||| 0) = flagOf x ||| orF xs
    rw [Nat.or_zero, Nat.or_comm]
theorem sumU_rev : ∀ (xs : List Nat), sumU xs.reverse = sumU xs
  | [] => rfl
  | x :: xs => by
    rw [List.reverse_cons, sumU_append, sumU_rev xs]
    show sumU xs + (uniOf x + 0) = uniOf x + sumU xs
    omega
def TOP : Nat := iv INF
theorem uni_le (x : Nat) : (uniOf x).natAbs ≤ TOP := by
  unfold uniOf
  split
  · rename_i h
    obtain ⟨-, h2⟩ := kind1.1 h
    have := iv_lt h2
    unfold unitsOf signU TOP
    split <;> omega
  · exact Nat.zero_le _
theorem sumU_le : ∀ (xs : List Nat), (sumU xs).natAbs ≤ xs.length * TOP
  | [] => Nat.zero_le _
  | x :: xs => by
    have h1 := sumU_le xs
    have h2 := uni_le x
    show (uniOf x + sumU xs).natAbs ≤ (xs.length + 1) * TOP
    rw [Nat.add_mul, Nat.one_mul]
    omega
theorem top_room {n : Nat} (h : n ≤ 128) : n * TOP < ROOM := by
  unfold TOP
  rw [iv_inf, room_eq]
  obtain ⟨k, hk⟩ : ∃ k, k = K2046 := ⟨_, rfl⟩
  obtain ⟨l, hl⟩ : ∃ l, l = K2240 := ⟨_, rfl⟩
  rw [← hk, ← hl]
  have h1 : n * (B52 * 2 ^ k) ≤ 2 ^ 7 * (2 ^ 52 * 2 ^ k) := Nat.mul_le_mul h (Nat.le_refl _)
  rw [← Nat.pow_add, ← Nat.pow_add] at h1
  refine Nat.lt_of_le_of_lt h1 (Nat.pow_lt_pow_right (by decide) ?_)
  rw [hk, hl]; decide
theorem sumU_room {xs : List Nat} (h : xs.length ≤ 128) : (sumU xs).natAbs < ROOM := Nat.lt_of_le_of_lt (sumU_le xs) (top_room h)
theorem step_free {b x : Nat} {z : Int} (h : (z + uniOf x).natAbs < ROOM) : stepS (b, z) x = (b ||| flagOf x, z + uniOf x) := by
  rcases kind_cases x with hk | ⟨hk, -⟩ | ⟨hk, -⟩ | hk
  · unfold stepS addF addZ uniOf flagOf
    simp only [hk]
    simp
  · unfold stepS addF addZ uniOf flagOf
    simp only [hk]
    simp
  · unfold stepS addF addZ uniOf flagOf
    simp only [hk]
    simp
  · have e : uniOf x = unitsOf x := by unfold uniOf; rw [if_pos hk]
    rw [e] at h ⊢
    have hf : flagOf x = 16 := by unfold flagOf; simp only [hk]; simp
    rw [hf]
    unfold stepS addF addZ addOk putZ
    simp only [hk]
    rw [if_pos h, decide_eq_true h]
    rfl
theorem fold_from : ∀ (zs pre : List Nat), pre.length + zs.length ≤ 128 → zs.foldl stepS (orF pre, sumU pre) = (orF (pre ++ zs), sumU (pre ++ zs))
  | [], pre, _ => by rw [List.append_nil]; rfl
  | x :: zs, pre, h => by
    have h1 : sumU (pre ++ [x]) = sumU pre + uniOf x := by
      rw [sumU_append]
      show sumU pre + (uniOf x + 0) = _
      omega
    have h2 : orF (pre ++ [x]) = orF pre ||| flagOf x := by
      rw [orF_append]
      show orF pre ||| (flagOf x ||| 0) = _
      rw [Nat.or_zero]
    rw [List.foldl_cons, step_free (by rw [← h1]; exact sumU_room (by simp at h ⊢; omega)), ← h1, ← h2, fold_from zs (pre ++ [x]) (by simp at h ⊢; omega), List.append_assoc]
    rfl
theorem foldS_eq {zs : List Nat} (h : zs.length ≤ 128) : foldS zs = (orF zs, sumU zs) := by
  have := fold_from zs [] (by simpa using h)
  exact this
theorem foldS_rev {zs : List Nat} (h : zs.length ≤ 128) : foldS zs.reverse = foldS zs := by
  rw [foldS_eq (by simpa using h), foldS_eq h, orF_rev, sumU_rev]
theorem foldS_cut {zs : List Nat} (h : zs.length ≤ 128) (k : Nat) : (((foldS (zs.drop k)).2 + (foldS (zs.take k)).2).natAbs < ROOM) ∧ (foldS (zs.drop k)).1 ||| (foldS (zs.take k)).1 = (foldS zs).1 ∧ (foldS (zs.drop k)).2 + (foldS (zs.take k)).2 = (foldS zs).2 := by
  have hd : (zs.drop k).length ≤ 128 := by rw [List.length_drop]; omega
  have ht : (zs.take k).length ≤ 128 := by rw [List.length_take]; omega
  rw [foldS_eq hd, foldS_eq ht, foldS_eq h]
  have h1 : orF (zs.take k) ||| orF (zs.drop k) = orF zs := by rw [← orF_append, List.take_append_drop]
  have h2 : sumU (zs.take k) + sumU (zs.drop k) = sumU zs := by rw [← sumU_append, List.take_append_drop]
  refine ⟨?_, ?_, ?_⟩
  · show (sumU (zs.drop k) + sumU (zs.take k)).natAbs < ROOM
    rw [Int.add_comm, h2]
    exact sumU_room h
  · show orF (zs.drop k) ||| orF (zs.take k) = orF zs
    rw [Nat.or_comm]; exact h1
  · show sumU (zs.drop k) + sumU (zs.take k) = sumU zs
    rw [Int.add_comm]; exact h2
theorem foldS_snoc (zs : List Nat) (x : Nat) : foldS (zs ++ [x]) = stepS (foldS zs) x := by
  unfold foldS
  rw [List.foldl_append]
  rfl
end Go.Proofs.YtdbkgpakpadloaaGreatDoor
/- What package bushelref05's sums are as values; contract of its Value. Conditions: below 2^2240 units; units come with their flag. -/
namespace Go.Proofs.YtdbkgpakpadloaaGreatDoor
open Go.RowKit Ieee

def fN (b : Nat) : Bool := decide (b % 2 = 1)
def fU (b : Nat) : Bool := decide (b / 2 % 2 = 1)
def fD (b : Nat) : Bool := decide (b / 4 % 2 = 1)
def fM (b : Nat) : Bool := decide (b / 8 % 2 = 1)
def fP (b : Nat) : Bool := decide (b / 16 % 2 = 1)
/-- a sum's cells in the reference -/
def rsCells (b : Nat) (ng : Bool) (a : Option Addr) (l c : Nat) : Array Value := #[.bool (fN b), .bool (fU b), .bool (fD b), .bool (fM b), .bool (fP b), .bool ng, .slice a l c]
/-- units come with their flag -/
def Plus (b : Nat) (z : Int) : Prop := z ≠ 0 → 16 ≤ b
theorem Plus.step {s : Nat × Int} (h : Plus s.1 s.2) (x : Nat) : Plus (stepS s x).1 (stepS s x).2 := by
  intro hz
  have hor : ∀ k, s.1 ≤ s.1 ||| k := fun k => Nat.left_le_or
  have hor16 : 16 ≤ s.1 ||| 16 := Nat.right_le_or
  show 16 ≤ addF s.1 s.2 x
  have hz' : addZ s.2 x ≠ 0 := hz
  unfold addF
  unfold addZ at hz'
  by_cases k3 : kindZ x = 3
  · rw [if_pos k3]; rw [if_neg (by omega)] at hz'; exact Nat.le_trans (h hz') (hor 1)
  · rw [if_neg k3]
    by_cases k2 : kindZ x = 2
    · rw [if_pos k2]; rw [if_neg (by omega)] at hz'; exact Nat.le_trans (h hz') (hor _)
    · rw [if_neg k2]
      by_cases k0 : kindZ x = 0
      · rw [if_pos k0]; rw [if_neg (by omega)] at hz'; exact Nat.le_trans (h hz') (hor _)
      · rw [if_neg k0]
        by_cases hk : addOk s.2 x = true
        · rw [if_pos hk]; exact hor16
        · rw [if_neg hk]
          have k1 : kindZ x = 1 := by
            rcases kind_cases x with h1 | ⟨h1, -⟩ | ⟨h1, -⟩ | h1
            · exact absurd h1 k3
            · exact absurd h1 k2
            · exact absurd h1 k0
            · exact h1
          rw [if_pos k1] at hz'
          refine h ?_
          unfold putZ at hz'
          have hok : ¬ (s.2 + unitsOf x).natAbs < ROOM := by
            intro hlt
            apply hk
            unfold addOk
            rw [decide_eq_true hlt, Bool.or_true]
          rw [if_neg hok] at hz'
          exact hz'
theorem Plus.fold : ∀ (zs : List Nat) (s : Nat × Int), Plus s.1 s.2 → Plus (zs.foldl stepS s).1 (zs.foldl stepS s).2
  | [], _, h => h
  | x :: zs, _, h => Plus.fold zs _ (h.step x)

theorem f0 {x : Nat} (h : decide (x % 2 = 1) = false) : x % 2 = 0 := by
  have := of_decide_eq_false h
  omega

end Go.Proofs.YtdbkgpakpadloaaGreatDoor
