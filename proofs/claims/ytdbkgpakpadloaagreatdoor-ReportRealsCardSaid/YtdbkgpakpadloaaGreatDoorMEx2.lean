/- Contract of package exact's Bytes. Conditions: below 2^2240 units. -/
import Derived.Test.YtdbkgpakpadloaaGreatDoorMEx1
import Derived.Test.YtdbkgpakpadloaaGreatDoorNatQ
import Derived.Test.YtdbkgpakpadloaaGreatDoorMReg
import Derived.BigRegion
namespace Go.Proofs.YtdbkgpakpadloaaGreatDoor
open Go.RowKit Ieee

theorem info_u8e : (Tryz.prog.info? 5).map (fun i => (i.zero, i.size, i.bytes)) = some (some (.int .u8 0), 1, 1) := by kernel_rfl
theorem append4 (k : IntKind) (t e : TypeId) (bytes : Nat) (hinfo : (Tryz.prog.info? e).map (fun i => (i.zero, i.size, i.bytes)) = some (some (.int k 0), 1, bytes)) (hb8 : bytes ≤ 8) (ht : Tryz.prog.underlying t = some (.slice e))
    {ops : Array Oper} {rest : List Oper} {o : Oper} {a : Act} {Q : Exit → Act → World → Prop} (hgd : o.guard = none) (s x : Operand)
    (ho : o.op = .call { callee := .builtin .append, args := #[s, x], argTypes := #[t, t] }) (B : Nat) (wr : World) (v : Value) (n : Nat) (xs : List Int) (d0 d1 d2 d3 : Int)
    (hs : a.eval s = v) (hx : a.eval x = .slice (some ⟨wr.heap.size, 0, none⟩) 4 4) (hown : OwnK k wr B e v n xs) (hn : n ≤ 8796093022208) (hB : B ≤ wr.heap.size)
    (h : ∀ g cap w', OwnK k w' B e (.slice (some ⟨g, 0, none⟩) (n + 4) cap) (n + 4) (xs ++ [d0, d1, d2, d3]) → wr.grownBy w' v.ownBlock → (∀ w0, Below B w0 wr → Below B w0 w') → (v.ownBlock = some g ∨ wr.heap.size ≤ g) → wpList Tryz.prog ops Q rest (a.put o.dst (.slice (some ⟨g, 0, none⟩) (n + 4) cap)) w') :
    wpList Tryz.prog ops Q (o :: rest) a (wr.alloc (.cells #[.int k d0, .int k d1, .int k d2, .int k d3] e)) := by
  obtain ⟨i0, hi, hz0, hz1, hz2⟩ := info_parts hinfo
  refine wpList_append_lies _ hgd s x t ho B e i0 (.int k 0) 1 bytes ht hi hz0 hz1 hz2 rfl (by decide) v n _ hs (World.ownsRow.alloc hown _) ⟨wr.heap.size, 0, none⟩ 4 4 [.int k d0, .int k d1, .int k d2, .int k d3] hx rfl ?c1 ?c2 (by decide) ?c3 ?c4 ?c5 _ rfl ?_
  case c1 =>
    intro j u hj
    match j, hj with
    | 0, hj => simp at hj; subst hj; simp [Addr.add]
    | 1, hj => simp at hj; subst hj; simp [Addr.add]
    | 2, hj => simp at hj; subst hj; simp [Addr.add]
    | 3, hj => simp at hj; subst hj; simp [Addr.add]
  case c2 => intro u hu; simp at hu; rcases hu with rfl | rfl | rfl | rfl <;> rfl
  case c3 => unfold maxLen; omega
  case c4 =>
    have : (n + 4) * bytes ≤ (n + 4) * 8 := Nat.mul_le_mul_left _ hb8
    omega
  case c5 => simp; omega
  intro g cap w' h1 h2 h4 _
  have h3 := grown_alloc h2
  refine h g cap w' (by unfold OwnK; rw [List.map_append]; exact h1) h3 (fun w0 hb => hb.grown h3 hB fun k hk => (World.ownsRow.lt hown k hk).1) ?_
  rcases h4 with h4 | h4
  · exact .inl h4
  · right; simp at h4; omega
theorem OwnK.three (k : IntKind) (w : World) (e : TypeId) (d0 d1 d2 : Int) : OwnK k (w.alloc (.cells #[.int k d0, .int k d1, .int k d2] e)) w.heap.size e (.slice (some ⟨w.heap.size, 0, none⟩) 3 3) 3 [d0, d1, d2] := by
  refine ⟨rfl, .inr ⟨w.heap.size, 3, #[.int k d0, .int k d1, .int k d2], rfl, Nat.le_refl _, heap_alloc_new w _, Nat.le_refl _, by unfold maxLen; omega, by simp, by simp⟩⟩

/-- a word's bytes, the highest first -/
def be4 (x : Int) : List Int := [x / 16777216, x / 65536 % 256, x / 256 % 256, x % 256]
/-- the bytes of the highest j words -/
def tailB (xs : List Int) : Nat → List Int
  | 0 => []
  | j + 1 => tailB xs j ++ be4 (xs.getD (xs.length - 1 - j) 0)
/-- how many words at the beginning are 0 -/
def LowW (xs : List Int) (l : Nat) : Prop := l ≤ xs.length ∧ (∀ j, j < l → xs.getD j 0 = 0) ∧ (l < xs.length → xs.getD l 0 ≠ 0)
theorem LowW.one {xs : List Int} {l m : Nat} (h : LowW xs l) (k : LowW xs m) : l = m := by
  obtain ⟨h1, h2, h3⟩ := h
  obtain ⟨k1, k2, k3⟩ := k
  rcases Nat.lt_trichotomy l m with h4 | h4 | h4
  · exact absurd (k2 l h4) (h3 (by omega))
  · exact h4
  · exact absurd (h2 m h4) (k3 (by omega))
def IsBytes (b : Nat) (z : Int) (bs : List Int) : Prop :=
  ∃ xs l, Dig 4294967296 xs ∧ Trimmed xs ∧ V 4294967296 xs = ((z.natAbs : Nat) : Int) ∧ LowW xs l ∧ bs = [((b + (if z < 0 then 32 else 0) : Nat) : Int), (l : Int), ((xs.length - l : Nat) : Int)] ++ tailB xs (xs.length - l)
theorem IsBytes.one {b : Nat} {z : Int} {bs cs : List Int} (h : IsBytes b z bs) (k : IsBytes b z cs) : bs = cs := by
  obtain ⟨xs, l, h1, h2, h3, h4, h5⟩ := h
  obtain ⟨ys, m, k1, k2, k3, k4, k5⟩ := k
  obtain rfl := V_inj (B := 4294967296) (by decide) h1 k1 h2 k2 (by rw [h3, k3])
  obtain rfl := h4.one k4
  rw [h5, k5]
theorem tailB_len (xs : List Int) : ∀ j, (tailB xs j).length = 4 * j
  | 0 => rfl
  | j + 1 => by
    show (tailB xs j ++ be4 _).length = _
    rw [List.length_append, tailB_len xs j]
    rfl
def RBytes (b : Nat) (z : Int) (w : World) (e : Ending) (w' : World) : Prop := ∃ a n c bs, e = .returned (.slice a n c) ∧ RowK .u8 w' a n c bs ∧ IsBytes b z bs ∧ Below w.heap.size w w' ∧ Fresh w.heap.size a

theorem no_bits {x : Int} (h0 : 0 ≤ x) (n : Nat) : x < 2 ^ n → (∀ j, j < n → x / 2 ^ j % 2 = 0) → x = 0 := by
  induction n with
  | zero => intro h _; rw [Int.pow_zero] at h; omega
  | succ n ih =>
    intro h hb
    refine ih ?_ (fun j hj => hb j (by omega))
    have h1 := hb n (by omega)
    have hp : (0 : Int) < 2 ^ n := Int.pow_pos (by decide)
    have h2 : x / 2 ^ n < 2 := Int.ediv_lt_of_lt_mul hp (by rw [Int.mul_comm, ← Int.pow_succ]; exact h)
    have h3 : 0 ≤ x / 2 ^ n := Int.ediv_nonneg h0 (by omega)
    have h4 : x / 2 ^ n = 0 := by omega
    have h5 := Int.mul_ediv_add_emod x (2 ^ n)
    rw [h4, Int.mul_zero, Int.zero_add] at h5
    rw [← h5]
    exact Int.emod_lt_of_pos _ hp
theorem half_bits {X o : Int} {r : Nat} (h : X = 2 ^ r * (2 * o + 1)) : (∀ p, p < r → X / 2 ^ p % 2 = 0) ∧ X / 2 ^ r % 2 = 1 := by
  constructor
  · intro p hp
    obtain ⟨d, hd⟩ : ∃ d, r = p + (d + 1) := ⟨r - p - 1, by omega⟩
    have e : X = 2 ^ p * (2 * (2 ^ d * (2 * o + 1))) := by
      rw [h, hd, Int.pow_add, Int.pow_succ, Int.mul_assoc, Int.mul_comm (2 ^ d) 2, Int.mul_assoc]
    rw [e, Int.mul_ediv_cancel_left _ (Int.ne_of_gt (Int.pow_pos (by decide)))]
    omega
  · rw [h, Int.mul_ediv_cancel_left _ (Int.ne_of_gt (Int.pow_pos (by decide)))]
    omega
/-- the low words that are 0, by the number of noughts -/
theorem low_noughts {xs : List Int} {r : Nat} (hd : Dig 4294967296 xs) (ht : Trimmed xs) (h : IsHalf (V 4294967296 xs) r) : LowW xs (r / 32) := by
  have hp := V_pos (B := 4294967296) (by decide) hd ht
  rcases h with ⟨h1, h2⟩ | ⟨o, ho⟩
  · have hx : xs = [] := Decidable.byContradiction fun hne => by
      have := hp.2 hne
      omega
    subst hx
    subst h2
    exact ⟨by simp, by simp, by simp⟩
  · obtain ⟨b1, b2⟩ := half_bits ho
    have hz : ∀ i, i < r / 32 → i < xs.length → xs.getD i 0 = 0 := fun i hi hl => by
      have hx := hd.at (by decide) i
      refine no_bits hx.1 32 hx.2 (fun j hj => ?_)
      rw [bit_at hd hl (by omega)]
      exact b1 _ (by omega)
    have hne : xs ≠ [] := by
      intro e
      rw [e, V_nil] at ho
      have h3 : (2 : Int) ^ r ≠ 0 := Int.ne_of_gt (Int.pow_pos (by decide))
      rcases Int.mul_eq_zero.1 ho.symm with h4 | h4
      · exact h3 h4
      · omega
    have hlen : 0 < xs.length := List.length_pos_iff.2 hne
    have hlt : r / 32 < xs.length := by
      rcases Nat.lt_or_ge (r / 32) xs.length with h4 | h4
      · exact h4
      · rcases ht with h5 | h5
        · exact absurd h5 hne
        · exact absurd (hz (xs.length - 1) (by omega) (by omega)) h5
    refine ⟨by omega, fun j hj => hz j hj (by omega), fun _ h0 => ?_⟩
    have h5 := bit_at (j := r % 32) hd hlt (by omega)
    rw [show 32 * (r / 32) + r % 32 = r from by omega, b2, h0] at h5
    rw [Int.zero_ediv] at h5
    omega
end Go.Proofs.YtdbkgpakpadloaaGreatDoor
/- Contract of package exact's Bytes. Conditions: below 2^2240 units. -/
namespace Go.Proofs.YtdbkgpakpadloaaGreatDoor
open Go.RowKit Ieee

theorem wrap_u8 {x y : Int} (h : x % 256 = y) : IntKind.u8.wrap x = y := by
  simp only [IntKind.wrap, IntKind.bits, IntKind.signed]
  simp
  omega
theorem or_32 : ∀ b, b < 32 → b ||| 32 = b + 32 := by decide
theorem tail_more {xs : List Int} {j : Nat} {h : List Int} {x : Int} (hx : xs.getD (xs.length - 1 - j) 0 = x) : h ++ tailB xs j ++ be4 x = h ++ tailB xs (j + 1) := by
  rw [List.append_assoc, ← hx]; rfl

end Go.Proofs.YtdbkgpakpadloaaGreatDoor
/- Contract of package exact's Join. Conditions: both below 2^2240 units. -/
namespace Go.Proofs.YtdbkgpakpadloaaGreatDoor
open Go.RowKit Ieee

theorem signU_abs (y : Int) : signU (decide (y < 0)) y.natAbs = y := by
  unfold signU
  by_cases h : y < 0
  · rw [decide_eq_true h, if_pos rfl]; omega
  · rw [decide_eq_false h, if_neg (by decide)]; omega
def joinF (b d : Nat) (z y : Int) : Nat := if (z + y).natAbs < ROOM then b ||| d else b
end Go.Proofs.YtdbkgpakpadloaaGreatDoor
/- Contracts of package exact's methods of a sum that is none: nil, or one that New did not make. No conditions. -/
namespace Go.Proofs.YtdbkgpakpadloaaGreatDoor
open Go.RowKit Ieee

def Bad (w : World) (v : Value) : Prop := v = .pointer none ∨ ∃ g, v = .pointer (some ⟨g, 0, none⟩) ∧ w.cell? ⟨g, 0, none⟩ = some (.bool false) ∧ g < w.heap.size
theorem Bad.below {w w' : World} {v : Value} {B : Nat} (h : Bad w v) (hb : Below B w w') (hB : w.heap.size ≤ B) : Bad w' v := by
  rcases h with h | ⟨g, h1, h2, h3⟩
  · exact .inl h
  · exact .inr ⟨g, h1, by rw [(bcell hb).1 _ _ (by omega)]; exact h2, by have := hb.size; omega⟩
end Go.Proofs.YtdbkgpakpadloaaGreatDoor
