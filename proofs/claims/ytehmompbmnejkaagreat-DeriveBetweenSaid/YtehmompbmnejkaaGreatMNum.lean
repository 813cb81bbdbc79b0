/- Plain lemmas on numbers that are written as lists of digits of a base B, the lowest digit first. No conditions but those stated. -/
import Derived.Test.YtehmompbmnejkaaGreatProg
import Derived.WalkKit
import Derived.ProofKit
import Derived.Lib.Hide
import Derived.WalkSmall
import Derived.Deep.LoopGhost
import Derived.Deep.QuietTactic
import Derived.BigQuiet
import Derived.Deep.RegionHeld3
import Derived.Deep.AppendLies
namespace Go.Proofs.YtehmompbmnejkaaGreat

/-- f 0 + f 1 B + .. + f (n-1) B^(n-1) -/
def vf (B : Int) (f : Nat → Int) : Nat → Int
 | 0 => 0
 | n + 1 => vf B f n + f n * B ^ n

/-- the number of a list of digits -/
def V (B : Int) (xs : List Int) : Int := vf B (fun i => xs.getD i 0) xs.length

def Dig (B : Int) (xs : List Int) : Prop := ∀ d ∈ xs, 0 ≤ d ∧ d < B
/-- the highest digit is not 0 -/
def Trimmed (xs : List Int) : Prop := xs = [] ∨ xs.getD (xs.length - 1) 0 ≠ 0

theorem ipow_le {B : Int} (hB : 0 < B) {m n : Nat} (h : m ≤ n) : B ^ m ≤ B ^ n := by
 obtain ⟨k, rfl⟩ : ∃ k, n = m + k := ⟨n - m, by omega⟩
 rw [Int.pow_add]
 have h1 : 0 < B ^ m := Int.pow_pos hB
 have h2 : 0 < B ^ k := Int.pow_pos hB
 have := Int.mul_le_mul_of_nonneg_left (a := 1) (b := B ^ k) (c := B ^ m) (by omega) (by omega)
 omega

theorem vf_congr {B : Int} {f g : Nat → Int} : ∀ (n : Nat), (∀ i, i < n → f i = g i) → vf B f n = vf B g n
 | 0, _ => rfl
 | n + 1, h => by
  show vf B f n + f n * B ^ n = vf B g n + g n * B ^ n
  rw [vf_congr n (fun i hi => h i (by omega)), h n (by omega)]

theorem vf_add {B : Int} {f g : Nat → Int} : ∀ (n : Nat), vf B (fun i => f i + g i) n = vf B f n + vf B g n
 | 0 => rfl
 | n + 1 => by
  show vf B _ n + (f n + g n) * B ^ n = (vf B f n + f n * B ^ n) + (vf B g n + g n * B ^ n)
  rw [vf_add n, Int.add_mul]; omega

theorem vf_bd {B : Int} (hB : 0 < B) {f : Nat → Int} : ∀ (n : Nat), (∀ i, i < n → 0 ≤ f i ∧ f i < B) → 0 ≤ vf B f n ∧ vf B f n < B ^ n
 | 0, _ => ⟨Int.le_refl 0, by rw [Int.pow_zero]; exact Int.zero_lt_one⟩
 | n + 1, h => by
  have ⟨h1, h2⟩ := vf_bd hB n (fun i hi => h i (by omega))
  have ⟨h3, h4⟩ := h n (by omega)
  have hp : 0 < B ^ n := Int.pow_pos hB
  have h5 : 0 ≤ f n * B ^ n := Int.mul_nonneg h3 (by omega)
  have h6 : f n * B ^ n ≤ (B - 1) * B ^ n := Int.mul_le_mul_of_nonneg_right (by omega) (by omega)
  have h7 : (B - 1) * B ^ n = B ^ (n + 1) - B ^ n := by rw [Int.sub_mul, Int.pow_succ, Int.one_mul, Int.mul_comm B]
  refine ⟨?_, ?_⟩
  ·show 0 ≤ vf B f n + f n * B ^ n; omega
  ·show vf B f n + f n * B ^ n < B ^ (n + 1); omega

theorem vf_zero {B : Int} {f : Nat → Int} (n : Nat) : ∀ (m : Nat), (∀ i, n ≤ i → i < n + m → f i = 0) → vf B f (n + m) = vf B f n
 | 0, _ => rfl
 | m + 1, h => by
  show vf B f (n + m) + f (n + m) * B ^ (n + m) = _
  rw [h (n + m) (by omega) (by omega), Int.zero_mul, Int.add_zero]
  exact vf_zero n m (fun i h1 h2 => h i h1 (by omega))

theorem getD_ge {xs : List Int} {i : Nat} (h : xs.length ≤ i) : xs.getD i 0 = 0 := by
 simp [List.getElem?_eq_none h]

theorem getD_mem {xs : List Int} {i : Nat} (h : i < xs.length) : xs.getD i 0 ∈ xs := by
 rw [List.getD_eq_getElem?_getD, List.getElem?_eq_getElem h]; exact List.getElem_mem h

theorem Dig.at {B : Int} {xs : List Int} (h : Dig B xs) (hB : 0 < B) (i : Nat) : 0 ≤ xs.getD i 0 ∧ xs.getD i 0 < B := by
 by_cases hi : i < xs.length
 ·exact h _ (getD_mem hi)
 ·rw [getD_ge (by omega)]; exact ⟨Int.le_refl 0, hB⟩

theorem vf_ext {B : Int} {xs : List Int} {n : Nat} (h : xs.length ≤ n) : vf B (fun i => xs.getD i 0) n = V B xs := by
 obtain ⟨m, rfl⟩ : ∃ m, n = xs.length + m := ⟨n - xs.length, by omega⟩
 exact vf_zero _ m (fun i h1 _ => getD_ge h1)

theorem getD_append_lt {xs ys : List Int} {i : Nat} (h : i < xs.length) : (xs ++ ys).getD i 0 = xs.getD i 0 := by
 rw [List.getD_eq_getElem?_getD, List.getElem?_append_left h, List.getD_eq_getElem?_getD]

theorem getD_snoc {xs : List Int} {d : Int} : (xs ++ [d]).getD xs.length 0 = d := by
 rw [List.getD_eq_getElem?_getD, List.getElem?_append_right (Nat.le_refl _)]; simp

theorem V_snoc {B : Int} {xs : List Int} {d : Int} : V B (xs ++ [d]) = V B xs + d * B ^ xs.length := by
 unfold V
 rw [List.length_append]
 show vf B _ (xs.length + 1) = _
 show vf B _ xs.length + (xs ++ [d]).getD xs.length 0 * B ^ xs.length = _
 rw [getD_snoc, vf_congr (g := fun i => xs.getD i 0) xs.length (fun i hi => getD_append_lt hi)]

theorem V_nil {B : Int} : V B [] = 0 := rfl

theorem V_bd {B : Int} (hB : 0 < B) {xs : List Int} (h : Dig B xs) : 0 ≤ V B xs ∧ V B xs < B ^ xs.length :=
 vf_bd hB _ fun i _ => h.at hB i

theorem V_take {B : Int} {xs : List Int} {m : Nat} (hm : m ≤ xs.length) (h : ∀ i, m ≤ i → i < xs.length → xs.getD i 0 = 0) : V B (xs.take m) = V B xs := by
 have hl : (xs.take m).length = m := by rw [List.length_take]; omega
 unfold V
 rw [hl]
 obtain ⟨k, hk⟩ : ∃ k, xs.length = m + k := ⟨xs.length - m, by omega⟩
 rw [hk, vf_zero m k (fun i h1 h2 => h i h1 (by omega))]
 refine vf_congr m fun i hi => ?_
 rw [List.getD_eq_getElem?_getD, List.getElem?_take_of_lt hi, List.getD_eq_getElem?_getD]

theorem getD_take {xs : List Int} {i m : Nat} (hi : i < m) : (xs.take m).getD i 0 = xs.getD i 0 := by
 rw [List.getD_eq_getElem?_getD, List.getElem?_take_of_lt hi, List.getD_eq_getElem?_getD]

theorem Dig.take {B : Int} {xs : List Int} (h : Dig B xs) (m : Nat) : Dig B (xs.take m) := fun d hd => h d (List.mem_of_mem_take hd)
theorem Dig.snoc {B : Int} {xs : List Int} {d : Int} (h : Dig B xs) (h1 : 0 ≤ d) (h2 : d < B) : Dig B (xs ++ [d]) := by
 intro x hx
 rcases List.mem_append.1 hx with hx | hx
 ·exact h x hx
 ·rw [List.mem_singleton.1 hx]; exact ⟨h1, h2⟩
theorem Dig.nil {B : Int} : Dig B [] := fun _ h => by cases h

/-- a trimmed list that is not empty stands for at least B^(length - 1) -/
theorem V_ge {B : Int} (hB : 0 < B) {xs : List Int} (h : Dig B xs) (ht : Trimmed xs) (hne : xs ≠ []) : B ^ (xs.length - 1) ≤ V B xs := by
 have hl : 0 < xs.length := List.length_pos_iff.2 hne
 obtain ⟨n, hn⟩ : ∃ n, xs.length = n + 1 := ⟨xs.length - 1, by omega⟩
 have h1 := vf_bd hB (f := fun i => xs.getD i 0) n (fun i _ => h.at hB i)
 have h2 : xs.getD n 0 ≠ 0 := by
  rcases ht with rfl | ht
  ·exact absurd rfl hne
  ·rw [hn] at ht; exact ht
 have h3 : 1 ≤ xs.getD n 0 := by have := (h.at hB n).1; omega
 have h4 : 1 * B ^ n ≤ xs.getD n 0 * B ^ n := Int.mul_le_mul_of_nonneg_right h3 (Int.le_of_lt (Int.pow_pos hB))
 have h5 : V B xs = vf B (fun i => xs.getD i 0) n + xs.getD n 0 * B ^ n := by
  unfold V; rw [hn]; rfl
 rw [h5, hn, Nat.add_sub_cancel]
 omega

theorem V_pos {B : Int} (hB : 0 < B) {xs : List Int} (h : Dig B xs) (ht : Trimmed xs) : (0 < V B xs) ↔ xs ≠ [] := by
 constructor
 ·rintro h1 rfl; rw [V_nil] at h1; omega
 ·intro hne
  have := V_ge hB h ht hne
  have : 0 < B ^ (xs.length - 1) := Int.pow_pos hB
  omega

/-- the comparison is decided by the highest digits that differ -/
theorem vf_cmp {B : Int} (hB : 0 < B) {f g : Nat → Int} (n : Nat) (hf : ∀ i, i < n → 0 ≤ f i ∧ f i < B) (hg : ∀ i, i < n → 0 ≤ g i ∧ g i < B) (hlt : f n < g n) :
  vf B f (n + 1) < vf B g (n + 1) := by
 have h1 := vf_bd hB n hf
 have h2 := vf_bd hB n hg
 have h3 : (f n + 1) * B ^ n ≤ g n * B ^ n := Int.mul_le_mul_of_nonneg_right (by omega) (Int.le_of_lt (Int.pow_pos hB))
 rw [Int.add_mul, Int.one_mul] at h3
 show vf B f n + f n * B ^ n < vf B g n + g n * B ^ n
 omega

/-- above n they are alike: then they stand to one another as up to n -/
theorem vf_same_above {B : Int} {f g : Nat → Int} (n : Nat) : ∀ (m : Nat), (∀ i, n ≤ i → i < n + m → f i = g i) → vf B f (n + m) - vf B g (n + m) = vf B f n - vf B g n
 | 0, _ => rfl
 | m + 1, h => by
  show (vf B f (n + m) + f (n + m) * B ^ (n + m)) - (vf B g (n + m) + g (n + m) * B ^ (n + m)) = _
  rw [h (n + m) (by omega) (by omega)]
  have := vf_same_above (B := B) n m (fun i h1 h2 => h i h1 (by omega))
  omega

theorem trimmed_take {xs : List Int} {m : Nat} (hm : m ≤ xs.length) (h : m = 0 ∨ xs.getD (m - 1) 0 ≠ 0) : Trimmed (xs.take m) := by
 have hl : (xs.take m).length = m := by rw [List.length_take]; omega
 by_cases h0 : m = 0
 ·left; rw [h0]; rfl
 ·right
  rw [hl, getD_take (by omega)]
  rcases h with h | h
  ·exact absurd h h0
  ·exact h

theorem prod_bd {x y A B : Int} (hx : 0 ≤ x) (hy : 0 ≤ y) (h1 : x ≤ A) (h2 : y ≤ B) : 0 ≤ x * y ∧ x * y ≤ A * B :=
 ⟨Int.mul_nonneg hx hy, Int.mul_le_mul h1 h2 hy (by omega)⟩
end Go.Proofs.YtehmompbmnejkaaGreat
/- What the walks say of slices of integers in memory, and plain lemmas on it. No conditions but those stated. -/
namespace Go.Proofs.YtehmompbmnejkaaGreat
open Go.RowKit

theorem ret_int {k : IntKind} {a b : Int} (h : a = b) : Ending.returned (.int k a) = .returned (.int k b) := by rw [h]
theorem ret_bool {x y : Bool} (h : x = y) : Ending.returned (.bool x) = .returned (.bool y) := by rw [h]

/-- the slice (a, n, cap) holds the numbers xs of kind k -/
def RowK (k : IntKind) (w : World) (a : Option Addr) (n cap : Nat) (xs : List Int) : Prop :=
 xs.length = n ∧ n ≤ cap ∧ cap ≤ maxLen ∧ (cap = 0 ∨ ∃ b off, a = some ⟨b, off, none⟩ ∧ b < w.heap.size ∧ ∀ i, i < n → w.cell? ⟨b, off + i, none⟩ = some (.int k (xs.getD i 0)))

theorem RowK.below {k : IntKind} {w w' : World} {a : Option Addr} {n cap : Nat} {xs : List Int} {B : Nat} (h : RowK k w a n cap xs) (hb : Below B w w') (hB : w.heap.size ≤ B) : RowK k w' a n cap xs := by
 obtain ⟨h1, h2, h3, h4⟩ := h
 refine ⟨h1, h2, h3, ?_⟩
 rcases h4 with h4 | ⟨b, off, e, hlt, hc⟩
 ·exact .inl h4
 ·refine .inr ⟨b, off, e, by have := hb.size; omega, fun i hi => ?_⟩
  rw [hb.cell (p := ⟨b, off + i, none⟩) (by show b < B; omega)]
  exact hc i hi

theorem RowK.nil {k : IntKind} {w : World} : RowK k w none 0 0 [] := ⟨rfl, Nat.le_refl _, Nat.zero_le _, .inl rfl⟩

/-- the first m of them -/
theorem RowK.take {k : IntKind} {w : World} {a : Option Addr} {n cap : Nat} {xs : List Int} (h : RowK k w a n cap xs) {m : Nat} (hm : m ≤ n) : RowK k w a m cap (xs.take m) := by
 obtain ⟨h1, h2, h3, h4⟩ := h
 refine ⟨by rw [List.length_take]; omega, by omega, h3, ?_⟩
 rcases h4 with h4 | ⟨b, off, e, hlt, hc⟩
 ·exact .inl h4
 ·refine .inr ⟨b, off, e, hlt, fun i hi => ?_⟩
  rw [hc i (by omega), getD_take (by omega)]

/-- a cell that holds no number of kind k is none of the row's: a store into it leaves the row -/
theorem RowK.set {k : IntKind} {w : World} {a : Option Addr} {n cap : Nat} {xs : List Int} (h : RowK k w a n cap xs) {p : Addr} {u : Value} (hu : w.cell? p = some u) (hn : ∀ m, u ≠ .int k m) (v : Value) : RowK k (w.setCell p v) a n cap xs := by
 obtain ⟨h1, h2, h3, h4⟩ := h
 refine ⟨h1, h2, h3, ?_⟩
 rcases h4 with h4 | ⟨b, off, e, hlt, hc⟩
 ·exact .inl h4
 ·refine .inr ⟨b, off, e, by simpa [World.setCell] using hlt, fun i hi => ?_⟩
  rw [World.cell?_setCell_other]
  ·exact hc i hi
  ·intro e
   have := hc i hi
   rw [← e, hu] at this
   exact hn _ (Option.some.inj this)

theorem RowK.of_own {k : IntKind} {w : World} {base : Nat} {e : TypeId} {v : Value} {n : Nat} {xs : List Int} (h : w.ownsRow base e 1 v n (xs.map (Value.int k))) : ∃ a cap, v = .slice a n cap ∧ RowK k w a n cap xs := by
 obtain ⟨h1, h2⟩ := h
 have hl : xs.length = n := by simpa using h1
 rcases h2 with ⟨rfl, rfl⟩ | ⟨g, cap, cur, rfl, hb, hg, hn, hm, hs, ht⟩
 ·exact ⟨none, 0, rfl, hl, Nat.le_refl _, Nat.zero_le _, .inl rfl⟩
 ·refine ⟨_, cap, rfl, hl, hn, hm, .inr ⟨g, 0, rfl, (Array.getElem?_eq_some_iff.1 hg).1, fun i hi => ?_⟩⟩
  rw [Nat.zero_add, cell_of_row w g i cur e (0, 0) hg]
  have h3 : (cur.toList.take (n * 1))[i]? = (xs.map (Value.int k))[i]? := by rw [ht]
  rw [List.getElem?_take_of_lt (by omega)] at h3
  rw [← Array.getElem?_toList, h3, List.getElem?_map, List.getD_eq_getElem?_getD, List.getElem?_eq_getElem (by omega)]
  rfl

/-- all old cells and marks, as the walk wants them -/
theorem bcell {W w1 : World} {B : Nat} (hb : Below B W w1) : (∀ b o, b < B → w1.cell? ⟨b, o, none⟩ = W.cell? ⟨b, o, none⟩) ∧ (∀ b o, b < B → w1.frozen? ⟨b, o, none⟩ = W.frozen? ⟨b, o, none⟩) :=
 ⟨fun b o h => hb.cell (p := ⟨b, o, none⟩) h, fun b o h => hb.frozen (p := ⟨b, o, none⟩) h⟩
end Go.Proofs.YtehmompbmnejkaaGreat
/- When a number is one of int64. No conditions. -/
namespace Go.Proofs.YtehmompbmnejkaaGreat
/-- is a number one of int64? -/
def fits (z : Int) : Bool := decide (-9223372036854775808 ≤ z ∧ z ≤ 9223372036854775807)
theorem fits_yes {z : Int} (h : -9223372036854775808 ≤ z ∧ z ≤ 9223372036854775807) : fits z = true := by simp [fits, h]
theorem fits_no {z : Int} (h : ¬ (-9223372036854775808 ≤ z ∧ z ≤ 9223372036854775807)) : fits z = false := by
 simp only [fits, decide_eq_false_iff_not]; exact h
end Go.Proofs.YtehmompbmnejkaaGreat
/- Contracts of package bushelref01's functions on lists of digits: digit, made, less. Conditions: the lists hold digits of base 1000 where that is said. -/
namespace Go.Proofs.YtehmompbmnejkaaGreat
open Go.RowKit

/-- a number of package bushelref01: its sign, its list, what it stands for -/
def NumC (w : World) (neg : Bool) (a : Option Addr) (n cap : Nat) (z : Int) : Prop :=
 ∃ xs, RowK .i64 w a n cap xs ∧ Dig 1000 xs ∧ Trimmed xs ∧ z = (if neg then -V 1000 xs else V 1000 xs) ∧ (neg = true → 0 < V 1000 xs)

theorem NumC.below {w w' : World} {neg : Bool} {a : Option Addr} {n cap : Nat} {z : Int} {B : Nat} (h : NumC w neg a n cap z) (hb : Below B w w') (hB : w.heap.size ≤ B) : NumC w' neg a n cap z := by
 obtain ⟨xs, h1, h2⟩ := h
 exact ⟨xs, h1.below hb hB, h2⟩

theorem NumC.set {w : World} {neg : Bool} {a : Option Addr} {n cap : Nat} {z : Int} (h : NumC w neg a n cap z) {p : Addr} {u : Value} (hu : w.cell? p = some u) (hn : ∀ m, u ≠ .int .i64 m) (v : Value) : NumC (w.setCell p v) neg a n cap z := by
 obtain ⟨xs, h1, h2⟩ := h
 exact ⟨xs, h1.set hu hn v, h2⟩

/-- the address lies in a block from N on -/
def Fresh (N : Nat) (a : Option Addr) : Prop := ∀ x, a = some x → N ≤ x.block
def Same (a a' : Option Addr) : Prop := a' = a
theorem Fresh.mono {N M : Nat} {a : Option Addr} (h : Fresh N a) (hm : M ≤ N) : Fresh M a := fun x hx => Nat.le_trans hm (h x hx)
theorem Fresh.same {N : Nat} {a a' : Option Addr} (h : Fresh N a) (hs : Same a a') : Fresh N a' := by
 have e : a' = a := hs
 rw [e]; exact h
theorem Fresh.at {N b off : Nat} (h : N ≤ b) : Fresh N (some ⟨b, off, none⟩) := fun x hx => by cases hx; exact h
theorem Fresh.nil {N : Nat} : Fresh N none := fun x hx => by cases hx

/-- a call's answer: the number z; nothing that was there has changed; S of the list's address -/
def RetNumS (S : Option Addr → Prop) (w : World) (z : Int) (e : Ending) (w' : World) : Prop :=
 ∃ neg a n c, e = .returned (.agg #[.bool neg, .slice a n c]) ∧ NumC w' neg a n c z ∧ Below w.heap.size w w' ∧ S a
/-- the same, its list in memory of its own -/
def RetNum (w : World) (z : Int) (e : Ending) (w' : World) : Prop := RetNumS (Fresh w.heap.size) w z e w'

theorem RetNum.mk {w w' : World} {neg : Bool} {a : Option Addr} {n c : Nat} {z : Int} (h : NumC w neg a n c z) (hb : Below w.heap.size w w') :
  RetNumS (Same a) w z (.returned (.agg #[.bool neg, .slice a n c])) w' := ⟨_, _, _, _, rfl, h.below hb (Nat.le_refl _), hb, rfl⟩

/-- the answer is laid into a box of the call's own -/
theorem RetNum.stored {S : Option Addr → Prop} {w w1 : World} {neg : Bool} {a : Option Addr} {n c : Nat} {z : Int} {B : Nat} (h : NumC w1 neg a n c z) (hB : w.heap.size ≤ B) (hb : Below w.heap.size w w1)
  (h0 : w1.cell? ⟨B, 0, none⟩ = some (.bool false)) (h1 : w1.cell? ⟨B, 1, none⟩ = some (.slice none 0 0)) (hS : S a) :
  RetNumS S w z (.returned (.agg #[.bool neg, .slice a n c])) ((w1.setCell ⟨B, 0, none⟩ (.bool neg)).setCell ⟨B, 1, none⟩ (.slice a n c)) := by
 refine ⟨_, _, _, _, rfl, (h.set h0 (fun _ e => by cases e) _).set (u := .slice none 0 0) ?_ (fun _ e => by cases e) _, (hb.setCell hB _).setCell hB _, hS⟩
 rw [World.cell?_setCell_other _ _ _ _ (by simp)]
 exact h1

theorem digit_any (a : Option Addr) (n cap : Nat) (xs : List Int) (i : Int) (w : World) (h : RowK .i64 w a n cap xs) (hi : 0 ≤ i) :
  Calls Tryz.prog 104 #[.slice a n cap, .int .i64 i] w fun e w' => e = .returned (.int .i64 (xs.getD i.toNat 0)) ∧ w = w' := by
 obtain ⟨h1, h2, h3, h4⟩ := h
 unfold maxLen at h3
 by_cases hlt : i < n
 ·rcases h4 with hcap0 | ⟨b, off, rfl, hb, hc⟩
  ·omega
  ·have hc1 := hc i.toNat (by omega)
   obtain ⟨d, hd⟩ : ∃ d, d = xs.getD i.toNat 0 := ⟨_, rfl⟩
   rw [← hd] at hc1 ⊢
   clear hc hd h1
   go_enter Tryz.func104, Tryz.ntmps104
   go_wp2
   go_ret
   exact ⟨rfl, rfl⟩
 ·rw [getD_ge (by omega)]
  clear h1 h4
  go_enter Tryz.func104, Tryz.ntmps104
  go_wp2
  go_ret
  exact ⟨rfl, rfl⟩

theorem num_made {w : World} {neg : Bool} {a : Option Addr} {n cap m : Nat} {xs : List Int} (h : RowK .i64 w a n cap xs) (hd : Dig 1000 xs) (hm : m ≤ n) (hv : V 1000 (xs.take m) = V 1000 xs)
  (ht : m = 0 ∨ xs.getD (m - 1) 0 ≠ 0) : NumC w (neg && decide (0 < m)) a m cap (if neg then -V 1000 xs else V 1000 xs) := by
 have hl := h.1
 have T := trimmed_take (xs := xs) (m := m) (by omega) ht
 refine ⟨xs.take m, h.take hm, hd.take m, T, ?_, ?_⟩
 ·rw [hv]
  by_cases h0 : 0 < m
  ·simp [h0]
  ·have : m = 0 := by omega
   subst this
   have e : V 1000 xs = 0 := by rw [← hv]; rfl
   rw [e]; simp
 ·intro hn
  simp only [Bool.and_eq_true, decide_eq_true_eq] at hn
  refine (V_pos (by decide) (hd.take m) T).2 fun e => ?_
  have e2 := congrArg List.length e
  rw [List.length_take, List.length_nil] at e2
  have := hn.2
  clear hv ht hn
  omega

theorem made_any (neg : Bool) (a : Option Addr) (n cap : Nat) (xs : List Int) (z : Int) (w : World) (hz : (if neg then -V 1000 xs else V 1000 xs) = z) (h : RowK .i64 w a n cap xs) (hd : Dig 1000 xs) :
  Calls Tryz.prog 61 #[.bool neg, .slice a n cap] w (RetNumS (Same a) w z) := by
 have HZ := Lib.hid hz
 clear hz
 have H := Lib.hid h
 have HD := Lib.hid hd
 obtain ⟨h1, h2, h3, h4⟩ := h
 unfold maxLen at h3
 have H4 := Lib.hid h4
 have H1 := Lib.hid h1
 clear hd h4 h1
 go_enter Tryz.func61, Tryz.ntmps61
 go_wp2_with fail
 go_loopg [5] n (fun k x wr => wr = w.alloc (.cells #[.bool false, .slice none 0 0] 83) ∧ x = .int .i64 k ∧ k ≤ n ∧ V 1000 (xs.take k) = V 1000 xs)
 case atStart => exact ⟨rfl, rfl, Nat.le_refl _, by rw [List.take_of_length_le (by rw [H1.out]; exact Nat.le_refl _)]⟩
 case round =>
  obtain ⟨rfl, rfl, hk, hv⟩ := hrel
  have HV := Lib.hid hv
  clear hv
  by_cases h0 : gk = 0
  ·subst h0
   have hn0 := num_made (neg := neg) H.out HD.out (Nat.zero_le n) HV.out (.inl rfl)
   rw [HZ.out] at hn0
   have hn := Lib.hid hn0
   clear hn0
   simp only [Nat.lt_irrefl, decide_false, Bool.and_false] at hn
   cases neg
   all_goals
    go_wp2
    exact bodyPost_ret (v := .agg #[.bool false, .slice a 0 cap]) (by simp [results, Tryz.results61, go_sem]) rfl (RetNum.mk hn.out ((Below.refl _ _).alloc (Nat.le_refl _) _))
  ·rcases H4.out with hcap0 | ⟨b, off, rfl, hb, hc⟩
   ·omega
   have hc1 := hc (gk - 1) (by omega)
   obtain ⟨d, hd⟩ : ∃ d, d = xs.getD (gk - 1) 0 := ⟨_, rfl⟩
   rw [← hd] at hc1
   have HX := Lib.hid hd
   have hgk : 0 < gk := by omega
   clear hc hd h0
   by_cases hd0 : d = 0
   ·subst hd0
    go_wp2
    go_roundg (gk - 1)
    case measure => omega
    case rel => exact ⟨rfl, by go_num, by omega, by
     rw [← HV.out]
     have e : xs.take gk = xs.take (gk - 1) ++ [(0 : Int)] := by
      have := H1.out
      obtain ⟨j, rfl⟩ : ∃ j, gk = j + 1 := ⟨gk - 1, by omega⟩
      rw [List.take_succ_eq_append_getElem (by omega)]
      have hx := HX.out
      rw [Nat.add_sub_cancel, List.getD_eq_getElem?_getD, List.getElem?_eq_getElem (by omega)] at hx
      simp at hx
      rw [← hx]; rfl
     rw [e, V_snoc, Int.zero_mul, Int.add_zero]⟩
   ·have hne : (d == 0) = false := by simpa using hd0
    have hn0 := num_made (neg := neg) H.out HD.out hk HV.out (.inr (by rw [← HX.out]; exact hd0))
    rw [HZ.out] at hn0
    have hn := Lib.hid hn0
    clear hn0
    simp only [hgk, decide_true, Bool.and_true] at hn
    clear hd0
    cases neg
    ·go_wp2
     exact bodyPost_ret (v := .agg #[.bool false, .slice (some ⟨b, off, none⟩) gk cap]) (by simp [results, Tryz.results61, go_sem]) rfl (RetNum.mk hn.out ((Below.refl _ _).alloc (Nat.le_refl _) _))
    ·go_wp2
     exact bodyPost_ret (v := .agg #[.bool true, .slice (some ⟨b, off, none⟩) gk cap]) (by simp [results, Tryz.results61, go_sem]) rfl (RetNum.mk hn.out ((Below.refl _ _).alloc (Nat.le_refl _) _))

theorem digit_at (a : Option Addr) (n cap : Nat) (xs : List Int) (i d : Int) (w : World) (h : RowK .i64 w a n cap xs) (hi : 0 ≤ i) (hd : xs.getD i.toNat 0 = d) :
  Calls Tryz.prog 104 #[.slice a n cap, .int .i64 i] w fun e w' => e = .returned (.int .i64 d) ∧ w = w' := by
 rw [← hd]; exact digit_any a n cap xs i w h hi

/-- -1, 0, 1 -/
def cmpZ (x y : Int) : Int := if x < y then -1 else if x = y then 0 else 1
theorem cmpZ_lt {x y : Int} (h : x < y) : cmpZ x y = -1 := by simp [cmpZ, h]
theorem cmpZ_eq {x y : Int} (h : x = y) : cmpZ x y = 0 := by simp [cmpZ, h]
theorem cmpZ_gt {x y : Int} (h : y < x) : cmpZ x y = 1 := by
 unfold cmpZ; rw [if_neg (by omega), if_neg (by omega)]

theorem less_step {B : Int} (hB : 0 < B) {xs ys : List Int} (hx : Dig B xs) (hy : Dig B ys) {k : Nat} (hab : ∀ i, k + 1 ≤ i → xs.getD i 0 = ys.getD i 0) (hlt : xs.getD k 0 < ys.getD k 0) : V B xs < V B ys := by
 have h1 := vf_cmp hB (f := fun i => xs.getD i 0) (g := fun i => ys.getD i 0) k (fun i _ => hx.at hB i) (fun i _ => hy.at hB i) hlt
 have h2 := vf_same_above (B := B) (f := fun i => xs.getD i 0) (g := fun i => ys.getD i 0) (k + 1) (max xs.length ys.length) (fun i h _ => hab i h)
 rw [vf_ext (by omega), vf_ext (by omega)] at h2
 omega
theorem less_same {B : Int} {xs ys : List Int} (hab : ∀ i : Nat, xs.getD i 0 = ys.getD i 0) : V B xs = V B ys := by
 rw [← vf_ext (xs := xs) (n := max xs.length ys.length) (by omega), ← vf_ext (xs := ys) (n := max xs.length ys.length) (by omega)]
 exact vf_congr _ fun i _ => hab i

theorem less_any (a b : Option Addr) (n cap m cb : Nat) (xs ys : List Int) (w : World) (ha : RowK .i64 w a n cap xs) (hb : RowK .i64 w b m cb ys) (hx : Dig 1000 xs) (hy : Dig 1000 ys) :
  Calls Tryz.prog 85 #[.slice a n cap, .slice b m cb] w fun e w' => e = .returned (.int .i64 (cmpZ (V 1000 xs) (V 1000 ys))) ∧ w = w' := by
 have HA := Lib.hid ha
 have HB := Lib.hid hb
 have HX := Lib.hid hx
 have HY := Lib.hid hy
 have e1 : n ≤ 9223372036854775807 := by have := ha.2.1; have := ha.2.2.1; unfold maxLen at this; omega
 have e2 : m ≤ 9223372036854775807 := by have := hb.2.1; have := hb.2.2.1; unfold maxLen at this; omega
 have S : Hid (∀ i, max n m ≤ i → xs.getD i 0 = ys.getD i 0) := by
  have h : ∀ i, max n m ≤ i → xs.getD i 0 = ys.getD i 0 := fun i hi => by
   rw [getD_ge (by have := ha.1; omega), getD_ge (by have := hb.1; omega)]
  exact Lib.hid h
 clear ha hb hx hy
 by_cases hnm : n < m
 all_goals
  go_enter Tryz.func85, Tryz.ntmps85
  go_wp2_with fail
  go_loopg [5] (max n m) (fun k x wr => w = wr ∧ x = .int .i64 ((k : Int) - 1) ∧ k ≤ max n m ∧ ∀ i, k ≤ i → xs.getD i 0 = ys.getD i 0)
  case atStart => exact ⟨rfl, congrArg (Value.int .i64) (by omega), Nat.le_refl _, S.out⟩
  case round =>
   obtain ⟨rfl, rfl, hk, hab⟩ := hrel
   have HAB := Lib.hid hab
   clear hab
   by_cases h0 : gk = 0
   ·subst h0
    have HZ := Lib.hid (less_same (B := 1000) (fun i => HAB.out i (Nat.zero_le i)))
    go_wp2_with fail
    go_ret
    exact ⟨ret_int (cmpZ_eq HZ.out).symm, rfl⟩
   ·have hj : ((gk : Int) - 1).toNat = gk - 1 := by omega
    have hd0 : 0 ≤ (gk : Int) - 1 := by omega
    obtain ⟨d, hd⟩ : ∃ d, xs.getD (gk - 1) 0 = d := ⟨_, rfl⟩
    obtain ⟨e, he⟩ : ∃ e, ys.getD (gk - 1) 0 = e := ⟨_, rfl⟩
    have hA := Lib.hid (digit_at a n cap xs ((gk : Int) - 1) d w HA.out hd0 (by rw [hj]; exact hd))
    have hB := Lib.hid (digit_at b m cb ys ((gk : Int) - 1) e w HB.out hd0 (by rw [hj]; exact he))
    have HD := Lib.hid hd
    have HE := Lib.hid he
    clear hd he hj
    rcases Int.lt_trichotomy d e with hlt | heq | hgt
    ·have HZ := Lib.hid (less_step (B := 1000) (by decide) HX.out HY.out (k := gk - 1) (fun i hi => HAB.out i (by omega)) (by rw [HD.out, HE.out]; exact hlt))
     have hne : (d == e) = false := by simp; omega
     have hne2 : (d != e) = true := by simp; omega
     go_wp2_with fail
     refine hA.out.mono ?_; rintro e w' ⟨rfl, rfl⟩
     go_wp2_with fail
     refine hB.out.mono ?_; rintro e w' ⟨rfl, rfl⟩
     go_wp2_with fail
     refine hA.out.mono ?_; rintro e w' ⟨rfl, rfl⟩
     go_wp2_with fail
     refine hB.out.mono ?_; rintro e w' ⟨rfl, rfl⟩
     go_wp2_with fail
     go_ret
     exact ⟨ret_int (cmpZ_lt HZ.out).symm, rfl⟩
    ·subst heq
     have hne2 : (d != d) = false := by simp
     go_wp2_with fail
     refine hA.out.mono ?_; rintro e w' ⟨rfl, rfl⟩
     go_wp2_with fail
     refine hB.out.mono ?_; rintro e w' ⟨rfl, rfl⟩
     go_wp2_with fail
     go_roundg (gk - 1)
     case measure => omega
     case rel => exact ⟨rfl, congrArg (Value.int .i64) (by omega), by omega, fun i hi => by
      by_cases h : i = gk - 1
      ·rw [h, HD.out, HE.out]
      ·exact HAB.out i (by omega)⟩
    ·have HZ := Lib.hid (less_step (B := 1000) (by decide) HY.out HX.out (k := gk - 1) (fun i hi => (HAB.out i (by omega)).symm) (by rw [HD.out, HE.out]; exact hgt))
     have hne : (d == e) = false := by simp; omega
     have hne2 : (d != e) = true := by simp; omega
     go_wp2_with fail
     refine hA.out.mono ?_; rintro e w' ⟨rfl, rfl⟩
     go_wp2_with fail
     refine hB.out.mono ?_; rintro e w' ⟨rfl, rfl⟩
     go_wp2_with fail
     refine hA.out.mono ?_; rintro e w' ⟨rfl, rfl⟩
     go_wp2_with fail
     refine hB.out.mono ?_; rintro e w' ⟨rfl, rfl⟩
     go_wp2_with fail
     go_ret
     exact ⟨ret_int (cmpZ_gt HZ.out).symm, rfl⟩
end Go.Proofs.YtehmompbmnejkaaGreat
/- One law for 'out = append(out, x)' on a []int of the call's own, and what is known of it afterwards. Condition: the slice has at most 2^43 elements. -/
namespace Go.Proofs.YtehmompbmnejkaaGreat
open Go.RowKit

theorem info_int : (Tryz.prog.info? 3).map (fun i => (i.zero, i.size, i.bytes)) = some (some (.int .i64 0), 1, 8) := by kernel_rfl

theorem grown_alloc {w : World} {o : Obj} {w' : World} {row : Option Nat} (h : (w.alloc o).grownBy w' row) : w.grownBy w' row :=
 ⟨h.os, h.tape, h.output, by have := h.size; simp at this; omega, fun k hk hne => by
  rw [h.block k (by simp; omega) hne]; exact Below.heap_alloc _ _ _ hk⟩

/-- the slice value v of n elements of kind k owns the numbers xs, in a block from B on -/
def OwnK (k : IntKind) (w : World) (B : Nat) (e : TypeId) (v : Value) (n : Nat) (xs : List Int) : Prop := w.ownsRow B e 1 v n (xs.map (Value.int k))
theorem OwnK.nil (k : IntKind) (w : World) (B : Nat) (e : TypeId) : OwnK k w B e (.slice none 0 0) 0 [] := World.ownsRow_nil _ _ _ _
theorem OwnK.len {k : IntKind} {w : World} {B : Nat} {e : TypeId} {v : Value} {n : Nat} {xs : List Int} (h : OwnK k w B e v n xs) : xs.length = n := by simpa using h.1

theorem OwnK.form {k : IntKind} {w : World} {B : Nat} {e : TypeId} {v : Value} {n : Nat} {xs : List Int} (h : OwnK k w B e v n xs) : ∃ a c, v = .slice a n c := by
 rcases h.2 with ⟨rfl, rfl⟩ | ⟨g, cap, cur, rfl, _⟩
 ·exact ⟨none, 0, rfl⟩
 ·exact ⟨_, cap, rfl⟩
theorem OwnK.row {k : IntKind} {w : World} {B : Nat} {e : TypeId} {a : Option Addr} {n c : Nat} {xs : List Int} (h : OwnK k w B e (.slice a n c) n xs) : RowK k w a n c xs := by
 obtain ⟨a', c', e, hr⟩ := RowK.of_own h
 cases e; exact hr
theorem OwnK.fresh {k : IntKind} {w : World} {B : Nat} {e : TypeId} {a : Option Addr} {n c : Nat} {xs : List Int} (h : OwnK k w B e (.slice a n c) n xs) : Fresh B a := by
 rcases h.2 with ⟨h1, _⟩ | ⟨g, cap, cur, h1, hg, _⟩
 ·cases h1; exact Fresh.nil
 ·cases h1; exact Fresh.at hg
theorem OwnK.set_below {k : IntKind} {w : World} {B : Nat} {e : TypeId} {v : Value} {n : Nat} {xs : List Int} (h : OwnK k w B e v n xs) {p : Addr} (hp : p.block < B) (u : Value) : OwnK k (w.setCell p u) B e v n xs :=
 ownsRow_setCell_below h hp u

theorem append1 (k : IntKind) (t e : TypeId) (bytes : Nat) (hinfo : (Tryz.prog.info? e).map (fun i => (i.zero, i.size, i.bytes)) = some (some (.int k 0), 1, bytes)) (hb8 : bytes ≤ 8) (ht : Tryz.prog.underlying t = some (.slice e))
  {ops : Array Oper} {rest : List Oper} {o : Oper} {a : Act} {Q : Exit → Act → World → Prop} (hgd : o.guard = none) (s x : Operand)
  (ho : o.op = .call { callee := .builtin .append, args := #[s, x], argTypes := #[t, t] }) (B : Nat) (wr : World) (v : Value) (n : Nat) (xs : List Int) (d : Int)
  (hs : a.eval s = v) (hx : a.eval x = .slice (some ⟨wr.heap.size, 0, none⟩) 1 1) (hown : OwnK k wr B e v n xs) (hn : n ≤ 8796093022208) (hB : B ≤ wr.heap.size)
  (h : ∀ g cap w', OwnK k w' B e (.slice (some ⟨g, 0, none⟩) (n + 1) cap) (n + 1) (xs ++ [d]) → wr.grownBy w' v.ownBlock → (∀ w0, Below B w0 wr → Below B w0 w') → (v.ownBlock = some g ∨ wr.heap.size ≤ g) → wpList Tryz.prog ops Q rest (a.put o.dst (.slice (some ⟨g, 0, none⟩) (n + 1) cap)) w') :
  wpList Tryz.prog ops Q (o :: rest) a (wr.alloc (.cells #[.int k d] e)) := by
 obtain ⟨i0, hi, hz0, hz1, hz2⟩ := info_parts hinfo
 refine wpList_append_lies _ hgd s x t ho B e i0 (.int k 0) 1 bytes ht hi hz0 hz1 hz2 rfl (by decide) v n _ hs (World.ownsRow.alloc hown _) ⟨wr.heap.size, 0, none⟩ 1 1 [.int k d] hx rfl ?c1 ?c2 (by decide) ?c3 ?c4 ?c5 _ rfl ?_
 case c1 =>
  intro j u hj
  match j, hj with
  | 0, hj => simp at hj; subst hj; simp [Addr.add]
 case c2 => intro u hu; simp at hu; subst hu; rfl
 case c3 => unfold maxLen; omega
 case c4 =>
  have : (n + 1) * bytes ≤ (n + 1) * 8 := Nat.mul_le_mul_left _ hb8
  omega
 case c5 => simp; omega
 intro g cap w' h1 h2 h4 _
 have h3 := grown_alloc h2
 refine h g cap w' (by unfold OwnK; rw [List.map_append]; exact h1) h3 (fun w0 hb => hb.grown h3 hB fun k hk => (World.ownsRow.lt hown k hk).1) ?_
 rcases h4 with h4 | h4
 ·exact .inl h4
 ·right; simp at h4; omega

theorem append1_i64 {ops : Array Oper} {rest : List Oper} {o : Oper} {a : Act} {Q : Exit → Act → World → Prop} (hgd : o.guard = none) (s x : Operand)
  (ho : o.op = .call { callee := .builtin .append, args := #[s, x], argTypes := #[50, 50] }) (B : Nat) (wr : World) (v : Value) (n : Nat) (xs : List Int) (d : Int)
  (hs : a.eval s = v) (hx : a.eval x = .slice (some ⟨wr.heap.size, 0, none⟩) 1 1) (hown : OwnK .i64 wr B 3 v n xs) (hn : n ≤ 8796093022208) (hB : B ≤ wr.heap.size)
  (h : ∀ v' w', OwnK .i64 w' B 3 v' (n + 1) (xs ++ [d]) → wr.grownBy w' v.ownBlock → (∀ w0, Below B w0 wr → Below B w0 w') → wpList Tryz.prog ops Q rest (a.put o.dst v') w') :
  wpList Tryz.prog ops Q (o :: rest) a (wr.alloc (.cells #[.int .i64 d] 3)) :=
 append1 .i64 50 3 8 info_int (by decide) Tryz.underlying50 hgd s x ho B wr v n xs d hs hx hown hn hB fun g cap w' h1 h2 h3 _ => h _ w' h1 h2 h3

theorem RowK.lt {k : IntKind} {w : World} {a : Option Addr} {n cap : Nat} {xs : List Int} (h : RowK k w a n cap xs) : cap = 0 ∨ ∀ x, a = some x → x.block < w.heap.size := by
 rcases h.2.2.2 with h0 | ⟨b, off, rfl, hb, _⟩
 ·exact .inl h0
 ·exact .inr fun x hx => by cases hx; exact hb
/-- a row in another block than the one that may have been written stays -/
theorem RowK.grown {k : IntKind} {w w' : World} {a : Option Addr} {n cap : Nat} {xs : List Int} {row : Option Nat} (h : RowK k w a n cap xs) (hg : w.grownBy w' row) (hne : cap = 0 ∨ ∀ x, a = some x → some x.block ≠ row) : RowK k w' a n cap xs := by
 obtain ⟨h1, h2, h3, h4⟩ := h
 refine ⟨h1, h2, h3, ?_⟩
 rcases h4 with h4 | ⟨b, off, e, hlt, hc⟩
 ·exact .inl h4
 rcases hne with h0 | hne
 ·exact .inl h0
 ·have hb := hg.block b hlt (hne _ e)
  refine .inr ⟨b, off, e, by have := hg.size; omega, fun i hi => ?_⟩
  rw [World.cell?_of_block (w := w) (a := ⟨b, off + i, none⟩) hb]
  exact hc i hi
/-- a call's answer: a slice that holds digits of the number z; nothing that was there has changed -/
def RetDig (w : World) (l : Nat) (z : Int) (e : Ending) (w' : World) : Prop :=
 ∃ a n c xs, e = .returned (.slice a n c) ∧ RowK .i64 w' a n c xs ∧ n = l ∧ Dig 1000 xs ∧ V 1000 xs = z ∧ Below w.heap.size w w' ∧ Fresh w.heap.size a

theorem RetDig.of_own {w w' : World} {e : TypeId} {v : Value} {n : Nat} {xs : List Int} {z : Int} (h : OwnK .i64 w' w.heap.size e v n xs) (hd : Dig 1000 xs) (hz : V 1000 xs = z) (hb : Below w.heap.size w w') :
  RetDig w n z (.returned v) w' := by
 obtain ⟨a, c, rfl, hr⟩ := RowK.of_own h
 exact ⟨a, n, c, xs, rfl, hr, rfl, hd, hz, hb, h.fresh⟩
end Go.Proofs.YtehmompbmnejkaaGreat
/- Contracts of package bushelref01's sum and rest. Conditions: lists of digits of at most 2^40 elements. -/
namespace Go.Proofs.YtehmompbmnejkaaGreat
open Go.RowKit

theorem sum_step {xs ys os : List Int} {c s : Int} {k : Nat} (ho : os.length = k) (hv : V 1000 os + c * 1000 ^ k = vf 1000 (fun i => xs.getD i 0 + ys.getD i 0) k) (hs : s = xs.getD k 0 + ys.getD k 0 + c) :
  V 1000 (os ++ [s % 1000]) + s / 1000 * 1000 ^ (k + 1) = vf 1000 (fun i => xs.getD i 0 + ys.getD i 0) (k + 1) := by
 rw [V_snoc, ho]
 show _ = vf 1000 (fun i => xs.getD i 0 + ys.getD i 0) k + (xs.getD k 0 + ys.getD k 0) * 1000 ^ k
 rw [← hv, Int.pow_succ, ← Int.mul_assoc, Int.mul_comm (s / 1000), Int.mul_assoc (1000 ^ k), Int.mul_comm (1000 ^ k)]
 have h1 : s = s % 1000 + s / 1000 * 1000 := by omega
 have h2 : (xs.getD k 0 + ys.getD k 0) = s - c := by omega
 rw [h2, Int.sub_mul]
 have h3 : s * 1000 ^ k = (s % 1000 + s / 1000 * 1000) * 1000 ^ k := by rw [← h1]
 rw [Int.add_mul] at h3
 have h4 : s / 1000 * 1000 * 1000 ^ k = s / 1000 * 1000 * 1000 ^ k := rfl
 omega

theorem sum_any (a b : Option Addr) (n cap m cb : Nat) (xs ys : List Int) (w : World) (ha : RowK .i64 w a n cap xs) (hb : RowK .i64 w b m cb ys) (hx : Dig 1000 xs) (hy : Dig 1000 ys)
  (hn : n ≤ 1099511627776) (hm : m ≤ 1099511627776) :
  Calls Tryz.prog 84 #[.slice a n cap, .slice b m cb] w (RetDig w (max n m + 1) (V 1000 xs + V 1000 ys)) := by
 have HA := Lib.hid ha
 have HB := Lib.hid hb
 have HX := Lib.hid hx
 have HY := Lib.hid hy
 have HE : Hid (V 1000 xs + V 1000 ys = vf 1000 (fun i => xs.getD i 0 + ys.getD i 0) (max n m)) := by
  have h : V 1000 xs + V 1000 ys = vf 1000 (fun i => xs.getD i 0 + ys.getD i 0) (max n m) := by
   rw [vf_add, vf_ext (by have := ha.1; omega), vf_ext (by have := hb.1; omega)]
  exact Lib.hid h
 clear ha hb hx hy
 go_enter Tryz.func84, Tryz.ntmps84
 go_wp2_with fail
 go_loopg [5, 6, 7] (max n m) (fun k v c i wr => ∃ (j : Nat) (os : List Int) (cy : Int), i = .int .i64 j ∧ c = .int .i64 cy ∧ j + k = max n m ∧ OwnK .i64 wr w.heap.size 3 v j os ∧
  Dig 1000 os ∧ 0 ≤ cy ∧ cy ≤ 1 ∧ V 1000 os + cy * 1000 ^ j = vf 1000 (fun i => xs.getD i 0 + ys.getD i 0) j ∧ Below w.heap.size w wr)
 case atStart => exact ⟨0, [], 0, rfl, rfl, by omega, OwnK.nil _ _ _ _, Dig.nil, by omega, by omega, rfl, Below.refl _ _⟩
 case round =>
  obtain ⟨j, os, cy, rfl, rfl, hk, hown, hD, hc0, hc1, hv, hbel⟩ := hrel
  have HK := Lib.hid hk
  have HO := Lib.hid hown
  have HD := Lib.hid hD
  have HV := Lib.hid hv
  have HBe := Lib.hid hbel
  have hlo : os.length = j := hown.len
  have HL := Lib.hid hlo
  have hsz := hbel.size
  clear hk hown hD hv hbel hlo
  by_cases hj : j < max n m
  ·obtain ⟨d, hd⟩ : ∃ d, xs.getD j 0 = d := ⟨_, rfl⟩
   obtain ⟨e, he⟩ : ∃ e, ys.getD j 0 = e := ⟨_, rfl⟩
   have hA := Lib.hid (digit_at a n cap xs j d wr (HA.out.below HBe.out (Nat.le_refl _)) (by omega) hd)
   have hB := Lib.hid (digit_at b m cb ys j e wr (HB.out.below HBe.out (Nat.le_refl _)) (by omega) he)
   have hdr := HX.out.at (by decide) j
   have her := HY.out.at (by decide) j
   rw [hd] at hdr
   rw [he] at her
   have HD1 := Lib.hid hd
   have HE1 := Lib.hid he
   clear hd he
   by_cases hnm : n < m
   all_goals
    go_wp2_with fail
    refine hA.out.mono ?_; rintro e w' ⟨rfl, rfl⟩
    go_wp2_with fail
    refine hB.out.mono ?_; rintro e w' ⟨rfl, rfl⟩
    go_wp2_with (at_builtin; refine append1_i64 rfl _ _ rfl w.heap.size wr u5 j os ((d + e + cy) % 1000) rfl rfl HO.out ?c1 ?c2 ?_)
    case c1 => omega
    case c2 => exact hsz
    intro v' w1 hown' _ hbel'
    have HO' := Lib.hid hown'
    have HB' := Lib.hid (hbel' _ HBe.out)
    clear hown' hbel'
    go_wp2_with fail
    go_roundg (gk - 1)
    case measure => have := HK.out; omega
    case rel => exact ⟨j + 1, os ++ [(d + e + cy) % 1000], (d + e + cy) / 1000, by go_num, rfl, by have := HK.out; omega, HO'.out, HD.out.snoc (by omega) (by omega), by omega, by omega,
     sum_step HL.out HV.out (by rw [HD1.out, HE1.out]), HB'.out⟩
  ·obtain rfl : j = max n m := by have := HK.out; omega
   by_cases hnm : n < m
   all_goals
    go_wp2_with (at_builtin; refine append1_i64 rfl _ _ rfl w.heap.size wr u5 (max n m) os cy rfl rfl HO.out ?c1 ?c2 ?_)
    case c1 => omega
    case c2 => exact hsz
    intro v' w1 hown' _ hbel'
    have HO' := Lib.hid hown'
    have HB' := Lib.hid (hbel' _ HBe.out)
    clear hown' hbel'
    go_wp2_with fail
    go_ret
    exact RetDig.of_own HO'.out (HD.out.snoc hc0 (by omega)) (by rw [V_snoc, HL.out, HE.out, HV.out]) HB'.out

theorem V_above {B : Int} (hB : 0 < B) {ys : List Int} (hy : Dig B ys) (n : Nat) (h : V B ys < B ^ n) : vf B (fun i => ys.getD i 0) n = V B ys := by
 have key : ∀ m, vf B (fun i => ys.getD i 0) (n + m) < B ^ n → vf B (fun i => ys.getD i 0) (n + m) = vf B (fun i => ys.getD i 0) n := by
  intro m
  induction m with
  | zero => intro _; rfl
  | succ m ih =>
   intro hlt
   have e : vf B (fun i => ys.getD i 0) (n + (m + 1)) = vf B (fun i => ys.getD i 0) (n + m) + ys.getD (n + m) 0 * B ^ (n + m) := rfl
   have h0 := (vf_bd hB (f := fun i => ys.getD i 0) (n + m) (fun i _ => hy.at hB i)).1
   have h1 := (hy.at hB (n + m)).1
   have hp : B ^ n ≤ B ^ (n + m) := ipow_le hB (by omega)
   have hpos : 0 < B ^ (n + m) := Int.pow_pos hB
   have hz : ys.getD (n + m) 0 = 0 := by
    rcases Int.lt_or_eq_of_le h1 with h2 | h2
    ·have h3 : 1 * B ^ (n + m) ≤ ys.getD (n + m) 0 * B ^ (n + m) := Int.mul_le_mul_of_nonneg_right (by omega) (by omega)
     omega
    ·exact h2.symm
   rw [e, hz, Int.zero_mul, Int.add_zero] at hlt ⊢
   exact ih hlt
 by_cases hl : ys.length ≤ n
 ·exact vf_ext hl
 ·obtain ⟨m, hm⟩ : ∃ m, ys.length = n + m := ⟨ys.length - n, by omega⟩
  have h1 := key m (by rw [← hm]; exact h)
  rw [← h1, ← hm]; rfl

theorem rest_step {xs ys os : List Int} {c s t c' : Int} {k : Nat} (ho : os.length = k) (hv : V 1000 os - c * 1000 ^ k = vf 1000 (fun i => xs.getD i 0) k - vf 1000 (fun i => ys.getD i 0) k)
  (hs : s = xs.getD k 0 - ys.getD k 0 - c) (ht : t = s + c' * 1000) :
  V 1000 (os ++ [t]) - c' * 1000 ^ (k + 1) = vf 1000 (fun i => xs.getD i 0) (k + 1) - vf 1000 (fun i => ys.getD i 0) (k + 1) := by
 rw [V_snoc, ho]
 show _ = (vf 1000 (fun i => xs.getD i 0) k + xs.getD k 0 * 1000 ^ k) - (vf 1000 (fun i => ys.getD i 0) k + ys.getD k 0 * 1000 ^ k)
 have h1 : t * 1000 ^ k = (xs.getD k 0 - ys.getD k 0 - c + c' * 1000) * 1000 ^ k := by rw [ht, hs]
 rw [Int.add_mul, Int.sub_mul, Int.sub_mul, Int.mul_assoc c'] at h1
 rw [Int.pow_succ, Int.mul_comm (1000 ^ k) 1000]
 omega

theorem rest_end {xs ys os : List Int} {c : Int} {n : Nat} (hx : Dig 1000 xs) (hy : Dig 1000 ys) (ho : Dig 1000 os) (hl : os.length = n) (hn : xs.length = n) (hge : V 1000 ys ≤ V 1000 xs)
  (hv : V 1000 os - c * 1000 ^ n = vf 1000 (fun i => xs.getD i 0) n - vf 1000 (fun i => ys.getD i 0) n) (hc : 0 ≤ c) : V 1000 os = V 1000 xs - V 1000 ys := by
 have h1 : vf 1000 (fun i => xs.getD i 0) n = V 1000 xs := vf_ext (by omega)
 have h2 := (V_bd (by decide) hx).2
 rw [hn] at h2
 have h3 := V_above (B := 1000) (by decide) hy n (by omega)
 have h4 := (V_bd (by decide) ho)
 rw [hl] at h4
 rw [h1, h3] at hv
 have h5 := (V_bd (by decide) hy).1
 have hp : (0 : Int) < 1000 ^ n := Int.pow_pos (by decide)
 have : c = 0 := by
  rcases Int.lt_or_eq_of_le hc with h6 | h6
  ·have : 1 * 1000 ^ n ≤ c * 1000 ^ n := Int.mul_le_mul_of_nonneg_right (by omega) (by omega)
   omega
  ·exact h6.symm
 rw [this, Int.zero_mul] at hv
 omega

theorem rest_any (a b : Option Addr) (n cap m cb : Nat) (xs ys : List Int) (w : World) (ha : RowK .i64 w a n cap xs) (hb : RowK .i64 w b m cb ys) (hx : Dig 1000 xs) (hy : Dig 1000 ys)
  (hn : n ≤ 1099511627776) (hge : V 1000 ys ≤ V 1000 xs) :
  Calls Tryz.prog 86 #[.slice a n cap, .slice b m cb] w (RetDig w n (V 1000 xs - V 1000 ys)) := by
 have HA := Lib.hid ha
 have HB := Lib.hid hb
 have HX := Lib.hid hx
 have HY := Lib.hid hy
 have HG := Lib.hid hge
 clear ha hb hx hy hge
 go_enter Tryz.func86, Tryz.ntmps86
 go_wp2_with fail
 go_loopg [5, 6, 7] n (fun k v c i wr => ∃ (j : Nat) (os : List Int) (cy : Int), i = .int .i64 j ∧ c = .int .i64 cy ∧ j + k = n ∧ OwnK .i64 wr w.heap.size 3 v j os ∧
  Dig 1000 os ∧ 0 ≤ cy ∧ cy ≤ 1 ∧ V 1000 os - cy * 1000 ^ j = vf 1000 (fun i => xs.getD i 0) j - vf 1000 (fun i => ys.getD i 0) j ∧ Below w.heap.size w wr)
 case atStart => exact ⟨0, [], 0, rfl, rfl, by omega, OwnK.nil _ _ _ _, Dig.nil, by omega, by omega, rfl, Below.refl _ _⟩
 case round =>
  obtain ⟨j, os, cy, rfl, rfl, hk, hown, hD, hc0, hc1, hv, hbel⟩ := hrel
  have HK := Lib.hid hk
  have HO := Lib.hid hown
  have HD := Lib.hid hD
  have HV := Lib.hid hv
  have HBe := Lib.hid hbel
  have hlo : os.length = j := hown.len
  have HL := Lib.hid hlo
  have hsz := hbel.size
  clear hk hown hD hv hbel hlo
  by_cases hj : j < n
  ·obtain ⟨d, hd⟩ : ∃ d, xs.getD j 0 = d := ⟨_, rfl⟩
   obtain ⟨e, he⟩ : ∃ e, ys.getD j 0 = e := ⟨_, rfl⟩
   have hA := Lib.hid (digit_at a n cap xs j d wr (HA.out.below HBe.out (Nat.le_refl _)) (by omega) hd)
   have hB := Lib.hid (digit_at b m cb ys j e wr (HB.out.below HBe.out (Nat.le_refl _)) (by omega) he)
   have hdr := HX.out.at (by decide) j
   have her := HY.out.at (by decide) j
   rw [hd] at hdr
   rw [he] at her
   have HD1 := Lib.hid hd
   have HE1 := Lib.hid he
   clear hd he
   by_cases hs : d - e - cy < 0
   ·go_wp2_with fail
    refine hA.out.mono ?_; rintro e w' ⟨rfl, rfl⟩
    go_wp2_with fail
    refine hB.out.mono ?_; rintro e w' ⟨rfl, rfl⟩
    go_wp2_with (at_builtin; refine append1_i64 rfl _ _ rfl w.heap.size wr u5 j os (d - e - cy + 1000) rfl rfl HO.out ?c1 ?c2 ?_)
    case c1 => omega
    case c2 => exact hsz
    intro v' w1 hown' _ hbel'
    have HO' := Lib.hid hown'
    have HB' := Lib.hid (hbel' _ HBe.out)
    clear hown' hbel'
    go_wp2_with fail
    go_roundg (gk - 1)
    case measure => have := HK.out; omega
    case rel => exact ⟨j + 1, os ++ [d - e - cy + 1000], 1, by go_num, rfl, by have := HK.out; omega, HO'.out, HD.out.snoc (by omega) (by omega), by omega, by omega,
     rest_step HL.out HV.out (by rw [HD1.out, HE1.out]) (by omega), HB'.out⟩
   ·go_wp2_with fail
    refine hA.out.mono ?_; rintro e w' ⟨rfl, rfl⟩
    go_wp2_with fail
    refine hB.out.mono ?_; rintro e w' ⟨rfl, rfl⟩
    go_wp2_with (at_builtin; refine append1_i64 rfl _ _ rfl w.heap.size wr u5 j os (d - e - cy) rfl rfl HO.out ?c1 ?c2 ?_)
    case c1 => omega
    case c2 => exact hsz
    intro v' w1 hown' _ hbel'
    have HO' := Lib.hid hown'
    have HB' := Lib.hid (hbel' _ HBe.out)
    clear hown' hbel'
    go_wp2_with fail
    go_roundg (gk - 1)
    case measure => have := HK.out; omega
    case rel => exact ⟨j + 1, os ++ [d - e - cy], 0, by go_num, rfl, by have := HK.out; omega, HO'.out, HD.out.snoc (by omega) (by omega), by omega, by omega,
     rest_step HL.out HV.out (by rw [HD1.out, HE1.out]) (by omega), HB'.out⟩
  ·obtain rfl : j = n := by have := HK.out; omega
   go_wp2_with fail
   go_ret
   exact RetDig.of_own HO.out HD.out (rest_end HX.out HY.out HD.out HL.out HA.out.1 HG.out HV.out hc0) HBe.out

theorem nat_step {os : List Int} {x z : Int} {j : Nat} (hl : os.length = j) (hv : V 1000 os + x * 1000 ^ j = z) : V 1000 (os ++ [x % 1000]) + x / 1000 * 1000 ^ (j + 1) = z := by
 rw [V_snoc, hl, ← hv, Int.pow_succ, Int.mul_comm (1000 ^ j) 1000, ← Int.mul_assoc]
 have h : x * 1000 ^ j = (x % 1000 + x / 1000 * 1000) * 1000 ^ j := by rw [show x % 1000 + x / 1000 * 1000 = x from by omega]
 rw [Int.add_mul] at h
 omega

theorem nat_j {k j : Nat} (hk : 0 < k) (h : (k : Int) * 1000 ^ j ≤ 18446744073709551615) : j + 1 ≤ 100000 := by
 refine Nat.le_of_not_lt fun hj => ?_
 have h1 : (1000 : Int) ^ 7 ≤ 1000 ^ j := ipow_le (by decide) (by omega)
 have h2 : 1 * (1000 : Int) ^ j ≤ k * 1000 ^ j := Int.mul_le_mul_of_nonneg_right (by omega) (by omega)
 omega
theorem nat_le {k j : Nat} (h : (k : Int) * 1000 ^ j ≤ 18446744073709551615) : ((k / 1000 : Nat) : Int) * 1000 ^ (j + 1) ≤ 18446744073709551615 := by
 have hp : (0 : Int) < 1000 ^ j := Int.pow_pos (by decide)
 rw [Int.pow_succ, Int.mul_comm (1000 ^ j) 1000, ← Int.mul_assoc]
 have : ((k / 1000 : Nat) : Int) * 1000 * 1000 ^ j ≤ k * 1000 ^ j := Int.mul_le_mul_of_nonneg_right (by omega) (by omega)
 omega
theorem trimmed_snoc {xs : List Int} {d : Int} (h : d ≠ 0) : Trimmed (xs ++ [d]) := by
 right
 rw [List.length_append, List.length_singleton, Nat.add_sub_cancel, getD_snoc]
 exact h

theorem nat_any (x : Int) (w : World) (h0 : 0 ≤ x) (h1 : x ≤ 18446744073709551615) :
  Calls Tryz.prog 60 #[.int .u64 x] w (RetNum w x) := by
 go_enter Tryz.func60, Tryz.ntmps60
 go_wp2_with fail
 go_loopg [0, 3] x.toNat (fun k i v wr => ∃ (j : Nat) (os : List Int) (a : Option Addr) (c : Nat), i = .int .u64 k ∧ v = .slice a j c ∧ OwnK .i64 wr (w.heap.size + 1) 3 v j os ∧ (k : Int) ≤ 18446744073709551615 ∧ j ≤ 100000 ∧
  (k : Int) * 1000 ^ j ≤ 18446744073709551615 ∧ Dig 1000 os ∧ V 1000 os + k * 1000 ^ j = x ∧ (k = 0 → Trimmed os) ∧ Below (w.heap.size + 1) (w.alloc (.cells #[.bool false, .slice none 0 0] 83)) wr)
 case atStart => exact ⟨0, [], none, 0, congrArg (Value.int .u64) (by omega), rfl, OwnK.nil _ _ _ _, by omega, by omega, by rw [Int.pow_zero]; omega, Dig.nil, by rw [V_nil, Int.pow_zero]; omega, fun _ => .inl rfl, Below.refl _ _⟩
 case round =>
  obtain ⟨j, os, a, c, rfl, rfl, hown, hk, hj, hjk, hD, hv, hT, hbel⟩ := hrel
  have HO := Lib.hid hown
  have HD := Lib.hid hD
  have HV := Lib.hid hv
  have HT := Lib.hid hT
  have HBe := Lib.hid hbel
  have hlo : os.length = j := hown.len
  have HL := Lib.hid hlo
  have HJ := Lib.hid hjk
  have hsz : w.heap.size + 1 ≤ wr.heap.size := by have := hbel.size; simpa using this
  obtain ⟨bc, bf⟩ := bcell hbel
  clear hown hD hv hbel hlo hT hjk
  by_cases h0 : gk = 0
  ·subst h0
   go_wp2
   have hN : NumC ((wr.setCell ⟨w.heap.size, 0, none⟩ (.bool false)).setCell ⟨w.heap.size, 1, none⟩ (.slice a j c)) false a j c x :=
    ⟨os, ((HO.out.set_below (by simp) _).set_below (by simp) _).row, HD.out, HT.out trivial, by rw [← HV.out]; simp, fun h => by cases h⟩
   refine bodyPost_ret (v := .agg #[.bool false, .slice a j c]) (by simp [results, Tryz.results60, go_sem, bc]) rfl ⟨_, _, _, _, rfl, hN, ?_, HO.out.fresh.mono (by omega)⟩
   exact ((((Below.refl _ _).alloc (Nat.le_refl _) _).trans (HBe.out.mono (by omega))).setCell (Nat.le_refl _) _).setCell (Nat.le_refl _) _
  ·have h1' : 0 < gk := by omega
   go_wp2_with (at_builtin; refine append1_i64 rfl _ _ rfl (w.heap.size + 1) wr (.slice a j c) j os ((gk : Int) % 1000) rfl rfl HO.out ?c1 ?c2 ?_)
   case c1 => omega
   case c2 => exact hsz
   intro v' w1 hown' _ hbel'
   obtain ⟨a', c', hv'⟩ := hown'.form
   have HV' := Lib.hid hv'
   have HO' := Lib.hid hown'
   have HB' := Lib.hid (hbel' _ HBe.out)
   clear hown' hbel' hv'
   go_wp2_with fail
   go_roundg (gk / 1000)
   case measure => omega
   case rel => exact ⟨j + 1, os ++ [(gk : Int) % 1000], a', c', by first | rfl | go_num, HV'.out, HO'.out, by omega, nat_j h1' HJ.out, nat_le HJ.out, HD.out.snoc (by omega) (by omega), nat_step HL.out HV.out, fun h => trimmed_snoc (by omega), HB'.out⟩
end Go.Proofs.YtehmompbmnejkaaGreat
/- Contracts of package bushelref01's Neg, Add, Sub, Cmp. Conditions: the numbers lie below 1000^1000000. -/
namespace Go.Proofs.YtehmompbmnejkaaGreat
open Go.RowKit

def K0 : Nat := 1000000
theorem K0_le : K0 ≤ 1000000 := Nat.le_refl _
theorem le_K0 {k : Nat} (h : k ≤ 1000000) : k ≤ K0 := h
/-- a number of at most a million digits of base 1000 -/
def Fit (z : Int) : Prop := z.natAbs < 1000 ^ K0
attribute [irreducible] K0
theorem Fit.of_pow {z : Int} {k : Nat} (h : z.natAbs < 1000 ^ k) (hk : k ≤ 1000000) : Fit z :=
 Nat.lt_of_lt_of_le h (Nat.pow_le_pow_right (by decide) (le_K0 hk))
theorem Fit.of_pow2 {z : Int} {k : Nat} (h : z.natAbs < 2 ^ k) (hk : k ≤ 1000000) : Fit z :=
 Fit.of_pow (Nat.lt_of_lt_of_le h (Nat.pow_le_pow_left (by decide) k)) hk
theorem Fit.i64 {z : Int} (h1 : -18446744073709551616 ≤ z) (h2 : z ≤ 18446744073709551616) : Fit z := Fit.of_pow (k := 10) (by omega) (by decide)

theorem NumC.len {w : World} {neg : Bool} {a : Option Addr} {n c : Nat} {z : Int} (h : NumC w neg a n c z) (hf : Fit z) : n ≤ 1000000 := by
 obtain ⟨xs, hr, hd, ht, hz, _⟩ := h
 by_cases h0 : xs = []
 ·have := hr.1; rw [h0] at this; simp at this; omega
 ·have h1 := V_ge (by decide) hd ht h0
  have h2 : V 1000 xs = z.natAbs := by
   have := (V_bd (B := 1000) (by decide) hd).1
   rw [hz]; split <;> omega
  rw [h2] at h1
  have h3 : (1000 : Nat) ^ (xs.length - 1) < 1000 ^ K0 := by
   have : ((1000 ^ (xs.length - 1) : Nat) : Int) = 1000 ^ (xs.length - 1) := by rw [Int.natCast_pow]; rfl
   have hf' : z.natAbs < 1000 ^ K0 := hf
   omega
  have h4 := (Nat.pow_lt_pow_iff_right (a := 1000) (by decide)).1 h3
  have := K0_le
  have := hr.1
  omega

theorem neg_any (neg : Bool) (a : Option Addr) (n c : Nat) (z : Int) (w : World) (h : NumC w neg a n c z) :
  Calls Tryz.prog 59 #[.agg #[.bool neg, .slice a n c]] w (RetNumS (Same a) w (-z)) := by
 obtain ⟨xs, hr, hd, ht, hz, hn⟩ := h
 have hz2 : (if !neg then -V 1000 xs else V 1000 xs) = -z := by rw [hz]; cases neg <;> simp
 have HM := fun w1 (hb : Below w.heap.size w w1) => made_any (!neg) a n c xs (-z) w1 hz2 (hr.below hb (Nat.le_refl _)) hd
 have HM' := Lib.hid HM
 clear hr hd ht hz hn hz2 HM
 go_enter Tryz.func59, Tryz.ntmps59
 go_wp2_with fail
 refine (HM'.out _ (((Below.refl _ _).alloc (Nat.le_refl _) _).alloc (by simp) _)).mono ?_
 rintro e w1 ⟨neg1, a1, n1, c1, rfl, hN, hb, hf⟩
 simp only [World.size_alloc] at hb
 obtain ⟨bc, bf⟩ := bcell hb
 go_wp2_with fail
 exact bodyPost_ret (v := .agg #[.bool neg1, .slice a1 n1 c1]) (by simp [results, Tryz.results59, go_sem, bc]) rfl
  (RetNum.stored hN (by omega) ((((Below.refl _ _).alloc (Nat.le_refl _) _).alloc (by simp) _).trans (hb.mono (by omega))) (by simp [bc]) (by simp [bc]) hf)

theorem add_same (neg : Bool) (a b : Option Addr) (n c m d : Nat) (x y : Int) (w : World) (hx : NumC w neg a n c x) (hy : NumC w neg b m d y) (fx : Fit x) (fy : Fit y) :
  Calls Tryz.prog 53 #[.agg #[.bool neg, .slice a n c], .agg #[.bool neg, .slice b m d]] w (RetNum w (x + y)) := by
 have hn := hx.len fx
 have hm := hy.len fy
 obtain ⟨xs, hr, hd, ht, hz, hg⟩ := hx
 obtain ⟨ys, kr, kd, kt, kz, kg⟩ := hy
 have HS := Lib.hid (fun w1 (hb : Below w.heap.size w w1) => sum_any a b n c m d xs ys w1 (hr.below hb (Nat.le_refl _)) (kr.below hb (Nat.le_refl _)) hd kd (by omega) (by omega))
 have HZ : Hid ((if neg then -(V 1000 xs + V 1000 ys) else V 1000 xs + V 1000 ys) = x + y) := by
  have h : (if neg then -(V 1000 xs + V 1000 ys) else V 1000 xs + V 1000 ys) = x + y := by rw [hz, kz]; cases neg <;> simp <;> omega
  exact Lib.hid h
 clear hr hd ht hz hg kr kd kt kz kg
 have q0 : w.heap.size < w.heap.size + 1 + 1 + 1 := by omega
 have q1 : ¬ (w.heap.size + 1 + 1 = w.heap.size) := by omega
 go_enter Tryz.func53, Tryz.ntmps53
 go_wp2_with fail
 go_region_held3 (fun w' => w'.cell? ⟨w.heap.size, 0, none⟩ = some (.bool neg) ∧ w'.cell? ⟨w.heap.size, 1, none⟩ = some (.slice a n c) ∧ w'.cell? ⟨w.heap.size + 1, 1, none⟩ = some (.slice b m d)) (go_keep)
  (first
   | (go_at_call 84; refine (HS.out _ (by exact ((((Below.refl _ _).alloc (Nat.le_refl _) _).alloc (by simp) _).alloc (by simp; omega) _).drew)).mono ?_; rintro e w1 ⟨a1, n1, c1, xs1, rfl, hr1, hl1, hd1, hv1, hb1, hf1⟩; have HV1 := Lib.hid hv1; clear hv1 hl1; simp only [World.size_drew, World.size_alloc] at hb1; obtain ⟨bc1, bf1⟩ := bcell hb1)
   | (go_at_call 61; refine (made_any neg _ _ _ xs1 (x + y) _ (by rw [HV1.out]; exact HZ.out) hr1 hd1).mono ?_; rintro e w2 ⟨neg2, a2, n2, c2, rfl, hN2, hb2, hf2⟩; have hb3 := hb1.trans (hb2.mono (by have := hb1.size; simpa using this)); clear bc1 bf1; obtain ⟨bc2, bf2⟩ := bcell hb3))
 go_wp2_with fail
 exact bodyPost_ret (v := .agg #[.bool neg2, .slice a2 n2 c2]) (by simp [results, Tryz.results53, go_sem, bc2]) rfl
  (RetNum.stored hN2 (by omega) (((((Below.refl _ _).alloc (Nat.le_refl _) _).alloc (by simp) _).alloc (by simp; omega) _).drew.trans (hb3.mono (by omega))) (by simp [go_sem, bc2]) (by simp [go_sem, bc2]) ((hf1.mono (by simp; omega)).same hf2))

theorem cmpZ_ge {x y : Int} (h : y ≤ x) : 0 ≤ cmpZ x y := by
 unfold cmpZ; split
 ·omega
 ·split <;> omega

theorem add_diff (na nb : Bool) (a b : Option Addr) (n c m d : Nat) (x y : Int) (w : World) (hx : NumC w na a n c x) (hy : NumC w nb b m d y) (fx : Fit x) (fy : Fit y) (hne : (na == nb) = false) :
  Calls Tryz.prog 53 #[.agg #[.bool na, .slice a n c], .agg #[.bool nb, .slice b m d]] w (RetNum w (x + y)) := by
 have hn := hx.len fx
 have hm := hy.len fy
 obtain ⟨xs, hr, hd, ht, hz, hg⟩ := hx
 obtain ⟨ys, kr, kd, kt, kz, kg⟩ := hy
 have HL := Lib.hid (fun w1 (hb : Below w.heap.size w w1) => less_any a b n c m d xs ys w1 (hr.below hb (Nat.le_refl _)) (kr.below hb (Nat.le_refl _)) hd kd)
 have q0 : w.heap.size < w.heap.size + 1 + 1 + 1 := by omega
 have q1 : ¬ (w.heap.size + 1 + 1 = w.heap.size) := by omega
 by_cases hge : V 1000 ys ≤ V 1000 xs
 ·have HS := Lib.hid (fun w1 (hb : Below w.heap.size w w1) => rest_any a b n c m d xs ys w1 (hr.below hb (Nat.le_refl _)) (kr.below hb (Nat.le_refl _)) hd kd (by omega) hge)
  have HZ : Hid ((if na then -(V 1000 xs - V 1000 ys) else V 1000 xs - V 1000 ys) = x + y) := by
   have h : (if na then -(V 1000 xs - V 1000 ys) else V 1000 xs - V 1000 ys) = x + y := by rw [hz, kz]; cases na <;> cases nb <;> simp at hne ⊢ <;> omega
   exact Lib.hid h
  have hc := cmpZ_ge hge
  generalize cmpZ (V 1000 xs) (V 1000 ys) = cc at *
  clear hr hd ht hz hg kr kd kt kz kg hge
  go_enter Tryz.func53, Tryz.ntmps53
  go_wp2_with fail
  refine (HL.out _ (by exact (((Below.refl _ _).alloc (Nat.le_refl _) _).alloc (by simp) _).alloc (by simp; omega) _)).mono ?_; rintro e w' ⟨rfl, rfl⟩
  go_wp2_with fail
  go_region_held3 (fun w' => w'.cell? ⟨w.heap.size, 0, none⟩ = some (.bool na) ∧ w'.cell? ⟨w.heap.size, 1, none⟩ = some (.slice a n c) ∧ w'.cell? ⟨w.heap.size + 1, 1, none⟩ = some (.slice b m d)) (go_keep)
   (first
    | (go_at_call 86; refine (HS.out _ (by exact ((((Below.refl _ _).alloc (Nat.le_refl _) _).alloc (by simp) _).alloc (by simp; omega) _).drew)).mono ?_; rintro e w1 ⟨a1, n1, c1, xs1, rfl, hr1, hl1, hd1, hv1, hb1, hf1⟩; have HV1 := Lib.hid hv1; clear hv1 hl1; simp only [World.size_drew, World.size_alloc] at hb1; obtain ⟨bc1, bf1⟩ := bcell hb1)
    | (go_at_call 61; refine (made_any na _ _ _ xs1 (x + y) _ (by rw [HV1.out]; exact HZ.out) hr1 hd1).mono ?_; rintro e w2 ⟨neg2, a2, n2, c2, rfl, hN2, hb2, hf2⟩; have hb3 := hb1.trans (hb2.mono (by have := hb1.size; simpa using this)); clear bc1 bf1; obtain ⟨bc2, bf2⟩ := bcell hb3))
  go_wp2_with fail
  exact bodyPost_ret (v := .agg #[.bool neg2, .slice a2 n2 c2]) (by simp [results, Tryz.results53, go_sem, bc2]) rfl
   (RetNum.stored hN2 (by omega) (((((Below.refl _ _).alloc (Nat.le_refl _) _).alloc (by simp) _).alloc (by simp; omega) _).drew.trans (hb3.mono (by omega))) (by simp [go_sem, bc2]) (by simp [go_sem, bc2]) ((hf1.mono (by simp; omega)).same hf2))
 ·have HS := Lib.hid (fun w1 (hb : Below w.heap.size w w1) => rest_any b a m d n c ys xs w1 (kr.below hb (Nat.le_refl _)) (hr.below hb (Nat.le_refl _)) kd hd (by omega) (by omega))
  have HZ : Hid ((if nb then -(V 1000 ys - V 1000 xs) else V 1000 ys - V 1000 xs) = x + y) := by
   have h : (if nb then -(V 1000 ys - V 1000 xs) else V 1000 ys - V 1000 xs) = x + y := by rw [hz, kz]; cases na <;> cases nb <;> simp at hne ⊢ <;> omega
   exact Lib.hid h
  have hc0 := cmpZ_lt (x := V 1000 xs) (y := V 1000 ys) (by omega)
  have hc : cmpZ (V 1000 xs) (V 1000 ys) < 0 := by omega
  clear hc0
  generalize cmpZ (V 1000 xs) (V 1000 ys) = cc at *
  clear hr hd ht hz hg kr kd kt kz kg hge
  go_enter Tryz.func53, Tryz.ntmps53
  go_wp2_with fail
  refine (HL.out _ (by exact (((Below.refl _ _).alloc (Nat.le_refl _) _).alloc (by simp) _).alloc (by simp; omega) _)).mono ?_; rintro e w' ⟨rfl, rfl⟩
  go_wp2_with fail
  go_region_held3 (fun w' => w'.cell? ⟨w.heap.size + 1, 0, none⟩ = some (.bool nb) ∧ w'.cell? ⟨w.heap.size, 1, none⟩ = some (.slice a n c) ∧ w'.cell? ⟨w.heap.size + 1, 1, none⟩ = some (.slice b m d)) (go_keep)
   (first
    | (go_at_call 86; refine (HS.out _ (by exact ((((Below.refl _ _).alloc (Nat.le_refl _) _).alloc (by simp) _).alloc (by simp; omega) _).drew)).mono ?_; rintro e w1 ⟨a1, n1, c1, xs1, rfl, hr1, hl1, hd1, hv1, hb1, hf1⟩; have HV1 := Lib.hid hv1; clear hv1 hl1; simp only [World.size_drew, World.size_alloc] at hb1; obtain ⟨bc1, bf1⟩ := bcell hb1)
    | (go_at_call 61; refine (made_any nb _ _ _ xs1 (x + y) _ (by rw [HV1.out]; exact HZ.out) hr1 hd1).mono ?_; rintro e w2 ⟨neg2, a2, n2, c2, rfl, hN2, hb2, hf2⟩; have hb3 := hb1.trans (hb2.mono (by have := hb1.size; simpa using this)); clear bc1 bf1; obtain ⟨bc2, bf2⟩ := bcell hb3))
  go_wp2_with fail
  exact bodyPost_ret (v := .agg #[.bool neg2, .slice a2 n2 c2]) (by simp [results, Tryz.results53, go_sem, bc2]) rfl
   (RetNum.stored hN2 (by omega) (((((Below.refl _ _).alloc (Nat.le_refl _) _).alloc (by simp) _).alloc (by simp; omega) _).drew.trans (hb3.mono (by omega))) (by simp [go_sem, bc2]) (by simp [go_sem, bc2]) ((hf1.mono (by simp; omega)).same hf2))

theorem add_any (na nb : Bool) (a b : Option Addr) (n c m d : Nat) (x y : Int) (w : World) (hx : NumC w na a n c x) (hy : NumC w nb b m d y) (fx : Fit x) (fy : Fit y) :
  Calls Tryz.prog 53 #[.agg #[.bool na, .slice a n c], .agg #[.bool nb, .slice b m d]] w (RetNum w (x + y)) := by
 by_cases h : na = nb
 ·subst h; exact add_same na a b n c m d x y w hx hy fx fy
 ·exact add_diff na nb a b n c m d x y w hx hy fx fy (by simpa using h)

end Go.Proofs.YtehmompbmnejkaaGreat
/- What the walks say of a block of integers that the call itself has made, and one law for make. Conditions: at most 2^43 elements. -/
namespace Go.Proofs.YtehmompbmnejkaaGreat
open Go.RowKit

/-- block g holds just the numbers xs of kind k (type number e), and nothing of it is frozen -/
def Arr (k : IntKind) (e : TypeId) (w : World) (g : Nat) (xs : List Int) : Prop := w.heap[g]? = some (.cells (xs.map (Value.int k)).toArray e (0, 0))

theorem Arr.lt {k : IntKind} {e : TypeId} {w : World} {g : Nat} {xs : List Int} (h : Arr k e w g xs) : g < w.heap.size := (Array.getElem?_eq_some_iff.1 h).1
theorem Arr.cell {k : IntKind} {e : TypeId} {w : World} {g : Nat} {xs : List Int} (h : Arr k e w g xs) {i : Nat} (hi : i < xs.length) : w.cell? ⟨g, i, none⟩ = some (.int k (xs.getD i 0)) := by
 rw [cell_of_row w g i _ e (0, 0) h]
 simp [hi]
theorem Arr.frozen {k : IntKind} {e : TypeId} {w : World} {g : Nat} {xs : List Int} (h : Arr k e w g xs) (i : Nat) : w.frozen? ⟨g, i, none⟩ = false := by
 have h' : w.heap[g]? = some (.cells (xs.map (Value.int k)).toArray e (0, 0)) := h
 simp [World.frozen?, h']
theorem Arr.set {k : IntKind} {e : TypeId} {w : World} {g : Nat} {xs : List Int} (h : Arr k e w g xs) (i : Nat) (d : Int) : Arr k e (w.setCell ⟨g, i, none⟩ (.int k d)) g (xs.set i d) := by
 have h' : w.heap[g]? = some (.cells (xs.map (Value.int k)).toArray e (0, 0)) := h
 show (w.setCell ⟨g, i, none⟩ (.int k d)).heap[g]? = _
 simp [World.setCell, Array.getElem?_modify, h', List.map_set]
theorem Arr.below {k : IntKind} {e : TypeId} {w w' : World} {g B : Nat} {xs : List Int} (h : Arr k e w g xs) (hb : Below B w w') (hB : g < B) : Arr k e w' g xs := by
 show w'.heap[g]? = _
 rw [hb.block g hB]; exact h
theorem Arr.row {k : IntKind} {e : TypeId} {w : World} {g : Nat} {xs : List Int} (h : Arr k e w g xs) {n cap : Nat} (hn : n ≤ cap) (hc : cap ≤ xs.length) (hl : xs.length ≤ 8796093022208) : RowK k w (some ⟨g, 0, none⟩) n cap (xs.take n) := by
 refine ⟨by rw [List.length_take]; omega, hn, by unfold maxLen; omega, .inr ⟨g, 0, rfl, h.lt, fun i hi => ?_⟩⟩
 rw [Nat.zero_add, h.cell (by omega), getD_take hi]
theorem Arr.full {k : IntKind} {e : TypeId} {w : World} {g : Nat} {xs : List Int} (h : Arr k e w g xs) (hl : xs.length ≤ 8796093022208) : RowK k w (some ⟨g, 0, none⟩) xs.length xs.length xs := by
 have := h.row (Nat.le_refl xs.length) (Nat.le_refl _) hl
 rwa [List.take_length] at this

/-- 'make([]T, n)' of integers -/
theorem make_arr {ops : Array Oper} {rest : List Oper} {o : Oper} {a : Act} {Q : Exit → Act → World → Prop} (k : IntKind) (t e : TypeId) (bytes : Nat) (hinfo : (Tryz.prog.info? e).map (fun i => (i.zero, i.size, i.bytes)) = some (some (.int k 0), 1, bytes))
  (hb8 : bytes ≤ 8) (ht : Tryz.prog.underlying t = some (.slice e)) (hg : o.guard = none) (l c : Operand) (hop : o.op = Op.makeSlice t l c) (kl kc : IntKind) (L C : Int) (n : Nat) (w : World)
  (hl : a.eval l = .int kl L) (hc : a.eval c = .int kc C) (hL : L = (n : Int)) (hC : C = (n : Int)) (hn : n ≤ 8796093022208)
  (hK : ∀ w', Arr k e w' w.heap.size (List.replicate n 0) → Below w.heap.size w w' → w'.heap.size = w.heap.size + 1 → wpList Tryz.prog ops Q rest (a.put o.dst (.slice (some ⟨w.heap.size, 0, none⟩) n n)) w') :
  wpList Tryz.prog ops Q (o :: rest) a w := by
 obtain ⟨i0, hi, hz0, hz1, hz2⟩ := info_parts hinfo
 refine wpList_plain hg fun K hK' => ?_
 subst hL hC
 have hbytes : (i0.bytes : Int) * (n : Int) ≤ 281474976710656 := by
  rw [hz2]
  have h1 : (bytes : Int) * (n : Int) ≤ 8 * (n : Int) := Int.mul_le_mul_of_nonneg_right (by omega) (by omega)
  omega
 have hrun := run_make (P := Tryz.prog) w t e i0 _ ht hi hz0 kl kc n n (by omega) (Int.le_refl _) hbytes (by omega)
 simp only [Int.toNat_natCast, hz1, Nat.mul_one] at hrun
 have hcells : madeCells (Value.int k 0).cells n = ((List.replicate n (0 : Int)).map (Value.int k)).toArray := by
  apply Array.ext'
  rw [show (Value.int k 0).cells = #[Value.int k 0] from rfl, toList_madeCells_one]
  simp
 rw [hcells] at hrun
 unfold Oper.wp
 simp [execOp, hop, hl, hc, hrun, Result.andThen]
 refine hK' _ _ (hK _ ?_ ((Below.refl _ _).alloc (Nat.le_refl _) _) (by simp))
 show (w.alloc _).heap[w.heap.size]? = _
 rw [heap_alloc_new]
 simp

theorem V_set {B : Int} {xs : List Int} {j : Nat} {d : Int} (hj : j < xs.length) : V B (xs.set j d) = V B xs + (d - xs.getD j 0) * B ^ j := by
 have key : ∀ n, vf B (fun i => (xs.set j d).getD i 0) n = vf B (fun i => xs.getD i 0) n + if j < n then (d - xs.getD j 0) * B ^ j else 0 := by
  intro n
  induction n with
  | zero => simp [vf]
  | succ n ih =>
   show vf B _ n + (xs.set j d).getD n 0 * B ^ n = vf B _ n + xs.getD n 0 * B ^ n + _
   rw [ih]
   by_cases h1 : j = n
   ·subst h1
    rw [if_neg (Nat.lt_irrefl _), if_pos (Nat.lt_succ_self _), List.getD_eq_getElem?_getD, List.getElem?_set_self hj, Int.sub_mul]
    simp only [Option.getD_some]; omega
   ·have h2 : (xs.set j d).getD n 0 = xs.getD n 0 := by rw [List.getD_eq_getElem?_getD, List.getElem?_set_ne h1, List.getD_eq_getElem?_getD]
    rw [h2]
    by_cases h3 : j < n
    ·rw [if_pos h3, if_pos (by omega)]; omega
    ·rw [if_neg h3, if_neg (by omega)]; omega
 have := key xs.length
 rw [if_pos hj] at this
 unfold V
 rw [List.length_set]
 exact this
theorem getD_set_self {xs : List Int} {j : Nat} {d : Int} (hj : j < xs.length) : (xs.set j d).getD j 0 = d := by
 rw [List.getD_eq_getElem?_getD, List.getElem?_set_self hj]; rfl
theorem getD_set_ne {xs : List Int} {i j : Nat} {d : Int} (h : j ≠ i) : (xs.set j d).getD i 0 = xs.getD i 0 := by
 rw [List.getD_eq_getElem?_getD, List.getElem?_set_ne h, List.getD_eq_getElem?_getD]
theorem Dig.set {B : Int} {xs : List Int} (h : Dig B xs) (j : Nat) {d : Int} (h1 : 0 ≤ d) (h2 : d < B) : Dig B (xs.set j d) := by
 intro x hx
 rcases List.mem_or_eq_of_mem_set hx with hx | hx
 ·exact h x hx
 ·rw [hx]; exact ⟨h1, h2⟩
theorem Dig.replicate {B : Int} (hB : 0 < B) (n : Nat) : Dig B (List.replicate n 0) := by
 intro x hx
 rw [(List.mem_replicate.1 hx).2]; exact ⟨Int.le_refl 0, hB⟩
theorem getD_replicate (n i : Nat) : (List.replicate n (0 : Int)).getD i 0 = 0 := by
 rw [List.getD_eq_getElem?_getD, List.getElem?_replicate]; split <;> rfl
theorem V_replicate {B : Int} (n : Nat) : V B (List.replicate n 0) = 0 := by
 unfold V
 have : ∀ m, vf B (fun i => (List.replicate n (0 : Int)).getD i 0) m = 0 := by
  intro m
  induction m with
  | zero => rfl
  | succ m ih =>
   show vf B _ m + (List.replicate n (0 : Int)).getD m 0 * B ^ m = 0
   rw [ih, getD_replicate, Int.zero_mul]; rfl
 exact this _
end Go.Proofs.YtehmompbmnejkaaGreat
/- Contract of package bushelref01's Mul. Condition: the numbers lie below 1000^1000000. -/
namespace Go.Proofs.YtehmompbmnejkaaGreat
open Go.RowKit

theorem mul_step {os xs ys : List Int} {c s : Int} {i k : Nat} (hj : i + k < os.length) (hv : V 1000 os + c * 1000 ^ (i + k) = vf 1000 (fun j => xs.getD j 0) i * V 1000 ys + xs.getD i 0 * vf 1000 (fun j => ys.getD j 0) k * 1000 ^ i)
  (hs : s = os.getD (i + k) 0 + xs.getD i 0 * ys.getD k 0 + c) :
  V 1000 (os.set (i + k) (s % 1000)) + s / 1000 * 1000 ^ (i + (k + 1)) = vf 1000 (fun j => xs.getD j 0) i * V 1000 ys + xs.getD i 0 * vf 1000 (fun j => ys.getD j 0) (k + 1) * 1000 ^ i := by
 rw [V_set hj]
 have e1 : vf 1000 (fun j => ys.getD j 0) (k + 1) = vf 1000 (fun j => ys.getD j 0) k + ys.getD k 0 * 1000 ^ k := rfl
 rw [e1, Int.mul_add, Int.add_mul]
 have e2 : xs.getD i 0 * (ys.getD k 0 * 1000 ^ k) * 1000 ^ i = xs.getD i 0 * ys.getD k 0 * 1000 ^ (i + k) := by
  rw [Int.pow_add, ← Int.mul_assoc, Int.mul_assoc, Int.mul_comm (1000 ^ k) (1000 ^ i)]
 have e3 : (1000 : Int) ^ (i + (k + 1)) = 1000 * 1000 ^ (i + k) := by rw [← Nat.add_assoc, Int.pow_succ, Int.mul_comm]
 rw [e2, e3, ← Int.mul_assoc]
 have e4 : (s % 1000 - os.getD (i + k) 0) * 1000 ^ (i + k) = s % 1000 * 1000 ^ (i + k) - os.getD (i + k) 0 * 1000 ^ (i + k) := Int.sub_mul _ _ _
 have e5 : s * 1000 ^ (i + k) = (s % 1000 + s / 1000 * 1000) * 1000 ^ (i + k) := by rw [show s % 1000 + s / 1000 * 1000 = s from by omega]
 have e6 : s * 1000 ^ (i + k) = os.getD (i + k) 0 * 1000 ^ (i + k) + xs.getD i 0 * ys.getD k 0 * 1000 ^ (i + k) + c * 1000 ^ (i + k) := by rw [hs, Int.add_mul, Int.add_mul]
 rw [Int.add_mul] at e5
 rw [e4]
 omega

theorem mul_row {os xs ys : List Int} {c : Int} {i m : Nat} (hj : i + m < os.length) (hm : ys.length = m) (hz : os.getD (i + m) 0 = 0)
  (hv : V 1000 os + c * 1000 ^ (i + m) = vf 1000 (fun j => xs.getD j 0) i * V 1000 ys + xs.getD i 0 * vf 1000 (fun j => ys.getD j 0) m * 1000 ^ i) :
  V 1000 (os.set (i + m) c) = vf 1000 (fun j => xs.getD j 0) (i + 1) * V 1000 ys := by
 rw [V_set hj, hz, Int.sub_zero, hv]
 have e1 : vf 1000 (fun j => xs.getD j 0) (i + 1) = vf 1000 (fun j => xs.getD j 0) i + xs.getD i 0 * 1000 ^ i := rfl
 rw [e1, Int.add_mul, vf_ext (xs := ys) (by omega), Int.mul_assoc, Int.mul_comm (V 1000 ys), ← Int.mul_assoc]

set_option maxHeartbeats 1000000 in
theorem mul_any (na nb : Bool) (a b : Option Addr) (n c m d : Nat) (x y : Int) (w : World) (hx : NumC w na a n c x) (hy : NumC w nb b m d y) (fx : Fit x) (fy : Fit y) :
  Calls Tryz.prog 32 #[.agg #[.bool na, .slice a n c], .agg #[.bool nb, .slice b m d]] w (RetNum w (x * y)) := by
 have hn := hx.len fx
 have hm := hy.len fy
 obtain ⟨xs, hr, hd, ht, hz, hg⟩ := hx
 obtain ⟨ys, kr, kd, kt, kz, kg⟩ := hy
 have HR := Lib.hid hr
 have KR := Lib.hid kr
 have HD := Lib.hid hd
 have KD := Lib.hid kd
 have HZ : Hid ((if na != nb then -(V 1000 xs * V 1000 ys) else V 1000 xs * V 1000 ys) = x * y) := by
  have h : (if na != nb then -(V 1000 xs * V 1000 ys) else V 1000 xs * V 1000 ys) = x * y := by
   rw [hz, kz]; cases na <;> cases nb <;> simp [Int.neg_mul, Int.mul_neg]
  exact Lib.hid h
 have HL := Lib.hid hr.1
 have KL := Lib.hid kr.1
 clear hr hd ht hz hg kr kd kt kz kg
 have q0 : w.heap.size < w.heap.size + 1 + 1 + 1 := by omega
 have q1 : ¬ (w.heap.size + 1 + 1 = w.heap.size) := by omega
 go_enter Tryz.func32, Tryz.ntmps32
 go_wp2_with (at_make; refine make_arr .i64 50 3 8 info_int (by decide) Tryz.underlying50 rfl _ _ rfl .i64 .i64 _ _ (n + m + 1) _ rfl rfl (by omega) (by omega) (by omega) ?_)
 intro w0 harr hb0 hs0
 have k1 : w0.cell? ⟨w.heap.size, 1, none⟩ = some (.slice a n c) := by rw [(bcell hb0).1 _ _ (by omega)]; simp [go_sem]
 have k2 : w0.cell? ⟨w.heap.size + 1, 1, none⟩ = some (.slice b m d) := by rw [(bcell hb0).1 _ _ (by omega)]; simp [go_sem]
 have k3 : w0.cell? ⟨w.heap.size, 0, none⟩ = some (.bool na) := by rw [(bcell hb0).1 _ _ (by omega)]; simp [go_sem]
 have k4 : w0.cell? ⟨w.heap.size + 1, 0, none⟩ = some (.bool nb) := by rw [(bcell hb0).1 _ _ (by omega)]; simp [go_sem]
 have k5 : w0.cell? ⟨w.heap.size + 1 + 1, 0, none⟩ = some (.bool false) := by rw [(bcell hb0).1 _ _ (by omega)]; simp [go_sem]
 have k6 : w0.cell? ⟨w.heap.size + 1 + 1, 1, none⟩ = some (.slice none 0 0) := by rw [(bcell hb0).1 _ _ (by omega)]; simp [go_sem]
 have k7 : ∀ o, w0.frozen? ⟨w.heap.size + 1 + 1, o, none⟩ = false := fun o => by rw [(bcell hb0).2 _ _ (by omega)]; simp [go_sem]
 have hbW : Below w.heap.size w w0 := (((Below.refl _ _).alloc (Nat.le_refl _) _).alloc (by simp) _).alloc (by simp; omega) _ |>.trans (hb0.mono (by omega))
 have HBW := Lib.hid hbW
 have HARR0 := Lib.hid harr
 clear hb0 harr hbW
 go_wp2_with fail
 go_loopg [6] n (fun k u wr => ∃ (i : Nat) (os : List Int), u = .int .i64 i ∧ i + k = n ∧ Arr .i64 3 wr (w.heap.size + 1 + 1 + 1) os ∧ os.length = n + m + 1 ∧ Dig 1000 os ∧
  V 1000 os = vf 1000 (fun j => xs.getD j 0) i * V 1000 ys ∧ (∀ j, i + m ≤ j → os.getD j 0 = 0) ∧ Below (w.heap.size + 1 + 1 + 1) w0 wr)
 case atStart => exact ⟨0, _, rfl, by omega, HARR0.out, by simp, Dig.replicate (by decide) _, by rw [V_replicate]; simp [vf], fun j _ => getD_replicate _ _, Below.refl _ _⟩
 case round =>
  obtain ⟨i, os, rfl, hk, harr, hlo, hdo, hv, hzr, hbel⟩ := hrel
  have HK := Lib.hid hk
  have HARR := Lib.hid harr
  have HLO := Lib.hid hlo
  have HDO := Lib.hid hdo
  have HV := Lib.hid hv
  have HZR := Lib.hid hzr
  have HBE := Lib.hid hbel
  obtain ⟨bc, bf⟩ := bcell hbel
  clear hk harr hlo hdo hv hzr hbel
  by_cases hi : i < n
  ·obtain ⟨-, -, -, ha4⟩ := HR.out
   rcases ha4 with hcap0 | ⟨ba, oa, rfl, hba, hca⟩
   ·have := HR.out.2.1; omega
   obtain ⟨dx, hdx⟩ : ∃ d, xs.getD i 0 = d := ⟨_, rfl⟩
   have HDX := Lib.hid hdx
   have hxr := HD.out.at (by decide) i
   rw [hdx] at hxr
   have hca1 := hca i hi
   rw [hdx] at hca1
   clear hca hdx
   go_wp2_with fail
   go_loopg [7, 8] m (fun k2 cu u wi => ∃ (k : Nat) (cy : Int) (os : List Int), u = .int .i64 k ∧ cu = .int .i64 cy ∧ k + k2 = m ∧ 0 ≤ cy ∧ cy ≤ 999 ∧ Arr .i64 3 wi (w.heap.size + 1 + 1 + 1) os ∧ os.length = n + m + 1 ∧ Dig 1000 os ∧
    V 1000 os + cy * 1000 ^ (i + k) = vf 1000 (fun j => xs.getD j 0) i * V 1000 ys + xs.getD i 0 * vf 1000 (fun j => ys.getD j 0) k * 1000 ^ i ∧ (∀ j, i + m ≤ j → os.getD j 0 = 0) ∧ Below (w.heap.size + 1 + 1 + 1) w0 wi)
   case atStart => exact ⟨0, 0, os, rfl, rfl, by omega, by omega, by omega, HARR.out, HLO.out, HDO.out, by rw [HV.out]; simp [vf], HZR.out, HBE.out⟩
   case round =>
    obtain ⟨k, cy, os2, rfl, rfl, hk2, hc0, hc1, harr2, hlo2, hdo2, hv2, hzr2, hbel2⟩ := hrel
    have HK2 := Lib.hid hk2
    have HARR2 := Lib.hid harr2
    have HLO2 := Lib.hid hlo2
    have HDO2 := Lib.hid hdo2
    have HV2 := Lib.hid hv2
    have HZR2 := Lib.hid hzr2
    have HBE2 := Lib.hid hbel2
    have hsz2 := hbel2.size
    have hbW2 := HBW.out.trans (hbel2.mono (by omega))
    have hca2 : wr.cell? ⟨ba, oa + i, none⟩ = some (.int .i64 dx) := by rw [(bcell hbW2).1 _ _ hba]; exact hca1
    clear bc bf
    obtain ⟨bc, bf⟩ := bcell hbel2
    clear hk2 harr2 hlo2 hdo2 hv2 hzr2 hbel2
    by_cases hkm : k < m
    ·obtain ⟨-, -, -, hb4⟩ := KR.out
     rcases hb4 with hcap0 | ⟨bb, ob, rfl, hbb, hcb⟩
     ·have := KR.out.2.1; omega
     have hcb2 : wr.cell? ⟨bb, ob + k, none⟩ = some (.int .i64 (ys.getD k 0)) := by rw [(bcell hbW2).1 _ _ hbb]; exact hcb k hkm
     have hco := HARR2.out.cell (i := i + k) (by rw [HLO2.out]; omega)
     have hfo := HARR2.out.frozen (i + k)
     have hor := HDO2.out.at (by decide) (i + k)
     have hyr := KD.out.at (by decide) k
     obtain ⟨e, he⟩ : ∃ d, ys.getD k 0 = d := ⟨_, rfl⟩
     obtain ⟨o, ho⟩ : ∃ d, os2.getD (i + k) 0 = d := ⟨_, rfl⟩
     rw [he] at hcb2 hyr
     rw [ho] at hco hor
     have HE := Lib.hid he
     have HO := Lib.hid ho
     obtain ⟨hp0, hp1⟩ := prod_bd (A := 999) (B := 999) hxr.1 hyr.1 (by omega) (by omega)
     have e1 : IntKind.i64.wrap ((i : Int) + (k : Int)) = (i : Int) + (k : Int) := IntWalk.i64_in _ (by omega)
     have e2 : IntKind.i64.wrap (dx * e) = dx * e := IntWalk.i64_in _ (by omega)
     have e3 : IntKind.i64.wrap (o + dx * e) = o + dx * e := IntWalk.i64_in _ (by omega)
     have e4 : IntKind.i64.wrap (o + dx * e + cy) = o + dx * e + cy := IntWalk.i64_in _ (by omega)
     have e5 : ((i : Int) + (k : Int)).toNat = i + k := by omega
     have l1 : (0 : Int) ≤ (i : Int) + (k : Int) := by omega
     have l2 : (i : Int) + (k : Int) < (n : Int) + (m : Int) + 1 := by omega
     have l3 : (i : Int) < (n : Int) := by omega
     have l4 : (k : Int) < (m : Int) := by omega
     clear hcb he ho
     go_wp2_with fail
     go_quiet (fail)
     clear e1 e2 e3 e4 e5
     have hs : Hid (o + dx * e + cy = os2.getD (i + k) 0 + xs.getD i 0 * ys.getD k 0 + cy) := by rw [HO.out, HDX.out, HE.out]; exact Lib.hid rfl
     generalize hS : o + dx * e + cy = S at *
     have hS0 : 0 ≤ S := by omega
     have hS1 : S ≤ 999999 := by omega
     clear hS hp0 hp1
     go_wp2_with fail
     go_roundg (gk - 1)
     case measure => have := HK2.out; omega
     case rel => exact ⟨k + 1, S / 1000, os2.set (i + k) (S % 1000), by go_num, rfl, by have := HK2.out; omega, by omega, by omega, HARR2.out.set _ _, by rw [List.length_set]; exact HLO2.out, HDO2.out.set _ (by omega) (by omega),
      mul_step (by rw [HLO2.out]; omega) HV2.out hs.out, fun j hj => by rw [getD_set_ne (by omega)]; exact HZR2.out j hj, (below_drewN HBE2.out nq).setCell (Nat.le_refl _) _⟩
    ·obtain rfl : k = m := by have := HK2.out; omega
     have hco := HARR2.out.cell (i := i + k) (by rw [HLO2.out]; omega)
     have hfo := HARR2.out.frozen (i + k)
     rw [HZR2.out (i + k) (by omega)] at hco
     go_wp2_with fail
     go_roundg (n - i - 1)
     case measure => have := HK.out; omega
     case rel => exact ⟨i + 1, os2.set (i + k) cy, by go_num, by have := HK.out; omega, HARR2.out.set _ _, by rw [List.length_set]; exact HLO2.out, HDO2.out.set _ (by omega) (by omega),
      mul_row (by rw [HLO2.out]; omega) KL.out (HZR2.out _ (by omega)) HV2.out, fun j hj => by rw [getD_set_ne (by omega)]; exact HZR2.out j (by omega), HBE2.out.setCell (Nat.le_refl _) _⟩
  ·obtain rfl : i = n := by have := HK.out; omega
   have hfull := HARR.out.full (by rw [HLO.out]; omega)
   rw [HLO.out] at hfull
   have hM := Lib.hid (made_any (na != nb) _ _ _ os (x * y) wr (by rw [← HZ.out, HV.out, vf_ext (by rw [HL.out]; exact Nat.le_refl _)]) hfull HDO.out)
   have hsz := HBE.out.size
   clear hfull
   go_wp2_with fail
   refine hM.out.mono ?_
   rintro e w2 ⟨neg2, a2, n2, c2, rfl, hN2, hb2, hf2⟩
   have hb3 := HBE.out.trans (hb2.mono (by omega))
   clear bc bf
   obtain ⟨bc, bf⟩ := bcell hb3
   go_wp2_with fail
   exact bodyPost_ret (v := .agg #[.bool neg2, .slice a2 n2 c2]) (by simp [results, Tryz.results32, go_sem, bc, k5, k6]) rfl
    (RetNum.stored hN2 (by omega) (HBW.out.trans (hb3.mono (by omega))) (by rw [bc _ _ (by omega)]; exact k5) (by rw [bc _ _ (by omega)]; exact k6) ((Fresh.at (by omega)).same hf2))
end Go.Proofs.YtehmompbmnejkaaGreat
/- Contracts of package bushelref01's Cmp. Conditions: the numbers lie below 1000^1000000 where that is said. -/
namespace Go.Proofs.YtehmompbmnejkaaGreat
open Go.RowKit

theorem NumC.sign {w : World} {neg : Bool} {a : Option Addr} {n c : Nat} {z : Int} (h : NumC w neg a n c z) : neg = decide (z < 0) := by
 obtain ⟨xs, _, hd, _, hz, hn⟩ := h
 have h0 := (V_bd (B := 1000) (by decide) hd).1
 cases neg
 ·simp only [Bool.false_eq_true, if_false] at hz
  rw [eq_comm, decide_eq_false_iff_not]; omega
 ·simp only [if_true] at hz
  have := hn rfl
  rw [eq_comm, decide_eq_true_eq]; omega

theorem cmp_any (na nb : Bool) (a b : Option Addr) (n c m d : Nat) (x y : Int) (w : World) (hx : NumC w na a n c x) (hy : NumC w nb b m d y) :
  Calls Tryz.prog 87 #[.agg #[.bool na, .slice a n c], .agg #[.bool nb, .slice b m d]] w fun e w' => e = .returned (.int .i64 (cmpZ x y)) ∧ Below w.heap.size w w' := by
 have sx := hx.sign
 have sy := hy.sign
 obtain ⟨xs, hr, hd, ht, hz, hg⟩ := hx
 obtain ⟨ys, kr, kd, kt, kz, kg⟩ := hy
 have HL1 := Lib.hid (fun w1 (hb : Below w.heap.size w w1) => less_any a b n c m d xs ys w1 (hr.below hb (Nat.le_refl _)) (kr.below hb (Nat.le_refl _)) hd kd)
 have HL2 := Lib.hid (fun w1 (hb : Below w.heap.size w w1) => less_any b a m d n c ys xs w1 (kr.below hb (Nat.le_refl _)) (hr.below hb (Nat.le_refl _)) kd hd)
 have HB : Hid (Below w.heap.size w ((w.alloc (.cells #[.bool na, .slice a n c] 83)).alloc (.cells #[.bool nb, .slice b m d] 83))) := Lib.hid (((Below.refl _ _).alloc (Nat.le_refl _) _).alloc (by simp) _)
 clear hr kr hd kd
 cases na <;> cases nb
 ·have HE : Hid (cmpZ (V 1000 xs) (V 1000 ys) = cmpZ x y) := by
   have h : cmpZ (V 1000 xs) (V 1000 ys) = cmpZ x y := by rw [hz, kz]; rfl
   exact Lib.hid h
  clear hz kz hg kg sx sy ht kt
  go_enter Tryz.func87, Tryz.ntmps87
  go_wp2_with fail
  refine (HL1.out _ HB.out).mono ?_; rintro e w' ⟨rfl, rfl⟩
  go_wp2_with fail
  go_ret
  exact ⟨ret_int HE.out, HB.out⟩
 ·have HE : Hid (cmpZ x y = 1) := by
   have h : cmpZ x y = 1 := cmpZ_gt (by have := of_decide_eq_true sy.symm; have := of_decide_eq_false sx.symm; omega)
   exact Lib.hid h
  clear hz kz hg kg sx sy ht kt
  go_enter Tryz.func87, Tryz.ntmps87
  go_wp2_with fail
  go_ret
  exact ⟨ret_int HE.out.symm, HB.out⟩
 ·have HE : Hid (cmpZ x y = -1) := by
   have h : cmpZ x y = -1 := cmpZ_lt (by have := of_decide_eq_true sx.symm; have := of_decide_eq_false sy.symm; omega)
   exact Lib.hid h
  clear hz kz hg kg sx sy ht kt
  go_enter Tryz.func87, Tryz.ntmps87
  go_wp2_with fail
  go_ret
  exact ⟨ret_int HE.out.symm, HB.out⟩
 ·have HE : Hid (cmpZ (V 1000 ys) (V 1000 xs) = cmpZ x y) := by
   have h : cmpZ (V 1000 ys) (V 1000 xs) = cmpZ x y := by
    simp only [if_true] at hz kz
    unfold cmpZ; rw [hz, kz]
    split <;> split <;> (try split) <;> (try split) <;> omega
   exact Lib.hid h
  clear hz kz hg kg sx sy ht kt
  go_enter Tryz.func87, Tryz.ntmps87
  go_wp2_with fail
  refine (HL2.out _ HB.out).mono ?_; rintro e w' ⟨rfl, rfl⟩
  go_wp2_with fail
  go_ret
  exact ⟨ret_int HE.out, HB.out⟩

end Go.Proofs.YtehmompbmnejkaaGreat
/- Contracts of package bushelref01's Uint, and of Cmp once more. Conditions: the number has room in 64 bits where that is said. -/
namespace Go.Proofs.YtehmompbmnejkaaGreat
open Go.RowKit

theorem uint_step {xs : List Int} {t : Int} {k : Nat} (hd : Dig 1000 xs) (h0 : 0 ≤ t) (hv : V 1000 xs = vf 1000 (fun i => xs.getD i 0) (k + 1) + t * 1000 ^ (k + 1)) (hl : V 1000 xs ≤ 18446744073709551615) :
  V 1000 xs = vf 1000 (fun i => xs.getD i 0) k + (t * 1000 + xs.getD k 0) * 1000 ^ k ∧ 0 ≤ t * 1000 ∧ t * 1000 + xs.getD k 0 ≤ 18446744073709551615 := by
 have e : vf 1000 (fun i => xs.getD i 0) (k + 1) = vf 1000 (fun i => xs.getD i 0) k + xs.getD k 0 * 1000 ^ k := rfl
 have h1 := (vf_bd (B := 1000) (by decide) (f := fun i => xs.getD i 0) k (fun i _ => hd.at (by decide) i)).1
 have h2 := (hd.at (B := 1000) (by decide) k).1
 have hp : (0 : Int) < 1000 ^ k := Int.pow_pos (by decide)
 have hv' : V 1000 xs = vf 1000 (fun i => xs.getD i 0) k + (t * 1000 + xs.getD k 0) * 1000 ^ k := by
  rw [hv, e, Int.add_mul, Int.pow_succ, Int.mul_assoc, Int.mul_comm 1000]; omega
 refine ⟨hv', by omega, ?_⟩
 have h3 : (t * 1000 + xs.getD k 0) * 1 ≤ (t * 1000 + xs.getD k 0) * 1000 ^ k := Int.mul_le_mul_of_nonneg_left (by omega) (by omega)
 omega

theorem uint_any (na : Bool) (a : Option Addr) (n c : Nat) (x : Int) (w : World) (hx : NumC w na a n c x) (hl : x.natAbs ≤ 18446744073709551615) :
  Calls Tryz.prog 103 #[.agg #[.bool na, .slice a n c]] w fun e w' => e = .returned (.int .u64 (x.natAbs : Int)) ∧ Below w.heap.size w w' := by
 have hn := hx.len (Fit.i64 (by omega) (by omega))
 obtain ⟨xs, hr, hd, ht, hz, hg⟩ := hx
 have hv : V 1000 xs = x.natAbs := by
  have := (V_bd (B := 1000) (by decide) hd).1
  rw [hz]; split <;> omega
 have hvl : V 1000 xs ≤ 18446744073709551615 := by omega
 have HR := Lib.hid hr
 have HD := Lib.hid hd
 have HV := Lib.hid hv
 have HVL := Lib.hid hvl
 have HB : Hid (Below w.heap.size w (w.alloc (.cells #[.bool na, .slice a n c] 83))) := Lib.hid ((Below.refl _ _).alloc (Nat.le_refl _) _)
 have hl' := hr.1
 have HL := Lib.hid hl'
 clear hr hd ht hz hg hv hvl hl hl'
 go_enter Tryz.func103, Tryz.ntmps103
 go_wp2_with fail
 go_loopg [3, 4] n (fun k u i wr => wr = w.alloc (.cells #[.bool na, .slice a n c] 83) ∧ i = .int .i64 ((k : Int) - 1) ∧ k ≤ n ∧ ∃ t : Int, u = .int .u64 t ∧ 0 ≤ t ∧ V 1000 xs = vf 1000 (fun i => xs.getD i 0) k + t * 1000 ^ k)
 case atStart => exact ⟨rfl, rfl, Nat.le_refl _, 0, rfl, by omega, by rw [Int.zero_mul, Int.add_zero, vf_ext (by rw [HL.out]; exact Nat.le_refl _)]⟩
 case round =>
  obtain ⟨rfl, rfl, hk, t, rfl, ht0, hv⟩ := hrel
  by_cases h0 : gk = 0
  ·subst h0
   have HT : Hid (t = x.natAbs) := by
    have h : t = x.natAbs := by rw [← HV.out, hv, Int.pow_zero]; simp [vf]
    exact Lib.hid h
   clear hv
   go_wp2_with fail
   go_ret
   exact ⟨ret_int HT.out, HB.out⟩
  ·obtain ⟨k, rfl⟩ : ∃ k, gk = k + 1 := ⟨gk - 1, by omega⟩
   obtain ⟨u1, u2, u3⟩ := uint_step HD.out ht0 hv HVL.out
   have hdr := (HD.out.at (B := 1000) (by decide) k)
   obtain ⟨-, -, -, ha4⟩ := HR.out
   rcases ha4 with hcap0 | ⟨ba, oa, rfl, hba, hca⟩
   ·have := HR.out.2.1; omega
   have hc1 := hca k (by omega)
   obtain ⟨d, hd⟩ : ∃ d, xs.getD k 0 = d := ⟨_, rfl⟩
   have HD1 := Lib.hid hd
   rw [hd] at hc1 hdr u1 u3
   have U1 := Lib.hid u1
   clear hca hd hv u1
   have e5 : (((k + 1 : Nat) : Int) - 1).toNat = k := by omega
   have e6 : ((k + 1 : Nat) : Int) - 1 = (k : Int) := by omega
   rw [e6]
   clear e5 e6
   go_wp2_with fail
   go_roundg k
   case measure => omega
   case rel => exact ⟨rfl, rfl, by omega, _, rfl, by omega, U1.out⟩

theorem cmp_at (na nb : Bool) (a b : Option Addr) (n c m d : Nat) (x y r : Int) (w : World) (hr : cmpZ x y = r) (hx : NumC w na a n c x) (hy : NumC w nb b m d y) :
  Calls Tryz.prog 87 #[.agg #[.bool na, .slice a n c], .agg #[.bool nb, .slice b m d]] w fun e w' => e = .returned (.int .i64 r) ∧ Below w.heap.size w w' := by
 subst hr; exact cmp_any na nb a b n c m d x y w hx hy

end Go.Proofs.YtehmompbmnejkaaGreat
