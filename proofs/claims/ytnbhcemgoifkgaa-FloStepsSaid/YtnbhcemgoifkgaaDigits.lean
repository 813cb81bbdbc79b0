/- Plain lemmas on numbers that are written as lists of digits of a base B, the lowest digit first. No conditions but those stated. -/
import Derived.WalkKit
namespace Go.Proofs.Ytnbhcemgoifkgaa

/-- f 0 + f 1 B + .. + f (n-1) B^(n-1) -/
def vf (B : Int) (f : Nat → Int) : Nat → Int
  | 0 => 0
  | n + 1 => vf B f n + f n * B ^ n

/-- the number of a list of digits -/
def V (B : Int) (xs : List Int) : Int := vf B (fun i => xs.getD i 0) xs.length

def Dig (B : Int) (xs : List Int) : Prop := ∀ d ∈ xs, 0 ≤ d ∧ d < B
/-- the highest digit is not 0 -/
def Trimmed (xs : List Int) : Prop := xs = [] ∨ xs.getD (xs.length - 1) 0 ≠ 0

theorem ipow_le {B : Int} (hB : 0 < B) {m n : Nat} (h : m ≤ n) : B ^ m ≤ B ^ n := by
  obtain ⟨k, rfl⟩ : ∃ k, n = m + k := ⟨n - m, by omega⟩
  rw [Int.pow_add]
  have h1 : 0 < B ^ m := Int.pow_pos hB
  have h2 : 0 < B ^ k := Int.pow_pos hB
  have := Int.mul_le_mul_of_nonneg_left (a := 1) (b := B ^ k) (c := B ^ m) (by omega) (by omega)
  omega

theorem vf_congr {B : Int} {f g : Nat → Int} : ∀ (n : Nat), (∀ i, i < n → f i = g i) → vf B f n = vf B g n
  | 0, _ => rfl
  | n + 1, h => by
    show vf B f n + f n * B ^ n = vf B g n + g n * B ^ n
    rw [vf_congr n (fun i hi => h i (by omega)), h n (by omega)]

theorem vf_add {B : Int} {f g : Nat → Int} : ∀ (n : Nat), vf B (fun i => f i + g i) n = vf B f n + vf B g n
  | 0 => rfl
  | n + 1 => by
    show vf B _ n + (f n + g n) * B ^ n = (vf B f n + f n * B ^ n) + (vf B g n + g n * B ^ n)
    rw [vf_add n, Int.add_mul]; omega

theorem vf_bd {B : Int} (hB : 0 < B) {f : Nat → Int} : ∀ (n : Nat), (∀ i, i < n → 0 ≤ f i ∧ f i < B) → 0 ≤ vf B f n ∧ vf B f n < B ^ n
  | 0, _ => ⟨Int.le_refl 0, by rw [Int.pow_zero]; exact Int.zero_lt_one⟩
  | n + 1, h => by
    have ⟨h1, h2⟩ := vf_bd hB n (fun i hi => h i (by omega))
    have ⟨h3, h4⟩ := h n (by omega)
    have hp : 0 < B ^ n := Int.pow_pos hB
    have h5 : 0 ≤ f n * B ^ n := Int.mul_nonneg h3 (by omega)
    have h6 : f n * B ^ n ≤ (B - 1) * B ^ n := Int.mul_le_mul_of_nonneg_right (by omega) (by omega)
    have h7 : (B - 1) * B ^ n = B ^ (n + 1) - B ^ n := by rw [Int.sub_mul, Int.pow_succ, Int.one_mul, Int.mul_comm B]
    refine ⟨?_, ?_⟩
    · show 0 ≤ vf B f n + f n * B ^ n; omega
    · show vf B f n + f n * B ^ n < B ^ (n + 1); omega

theorem vf_zero {B : Int} {f : Nat → Int} (n : Nat) : ∀ (m : Nat), (∀ i, n ≤ i → i < n + m → f i = 0) → vf B f (n + m) = vf B f n
  | 0, _ => rfl
  | m + 1, h => by
    show vf B f (n + m) + f (n + m) * B ^ (n + m) = _
    rw [h (n + m) (by omega) (by omega), Int.zero_mul, Int.add_zero]
    exact vf_zero n m (fun i h1 h2 => h i h1 (by omega))

theorem getD_ge {xs : List Int} {i : Nat} (h : xs.length ≤ i) : xs.getD i 0 = 0 := by
  simp [List.getElem?_eq_none h]

theorem getD_mem {xs : List Int} {i : Nat} (h : i < xs.length) : xs.getD i 0 ∈ xs := by
  rw [List.getD_eq_getElem?_getD, List.getElem?_eq_getElem h]; exact List.getElem_mem h

theorem Dig.at {B : Int} {xs : List Int} (h : Dig B xs) (hB : 0 < B) (i : Nat) : 0 ≤ xs.getD i 0 ∧ xs.getD i 0 < B := by
  by_cases hi : i < xs.length
  · exact h _ (getD_mem hi)
  · rw [getD_ge (by omega)]; exact ⟨Int.le_refl 0, hB⟩

theorem vf_ext {B : Int} {xs : List Int} {n : Nat} (h : xs.length ≤ n) : vf B (fun i => xs.getD i 0) n = V B xs := by
  obtain ⟨m, rfl⟩ : ∃ m, n = xs.length + m := ⟨n - xs.length, by omega⟩
  exact vf_zero _ m (fun i h1 _ => getD_ge h1)

theorem getD_append_lt {xs ys : List Int} {i : Nat} (h : i < xs.length) : (xs ++ ys).getD i 0 = xs.getD i 0 := by
  rw [List.getD_eq_getElem?_getD, List.getElem?_append_left h, List.getD_eq_getElem?_getD]

theorem getD_snoc {xs : List Int} {d : Int} : (xs ++ [d]).getD xs.length 0 = d := by
  rw [List.getD_eq_getElem?_getD, List.getElem?_append_right (Nat.le_refl _)]; simp

theorem V_snoc {B : Int} {xs : List Int} {d : Int} : V B (xs ++ [d]) = V B xs + d * B ^ xs.length := by
  unfold V
  rw [List.length_append]
  show vf B _ (xs.length + 1) = _
  show vf B _ xs.length + (xs ++ [d]).getD xs.length 0 * B ^ xs.length = _
  rw [getD_snoc, vf_congr (g := fun i => xs.getD i 0) xs.length (fun i hi => getD_append_lt hi)]

theorem V_nil {B : Int} : V B [] = 0 := rfl

theorem V_bd {B : Int} (hB : 0 < B) {xs : List Int} (h : Dig B xs) : 0 ≤ V B xs ∧ V B xs < B ^ xs.length :=
  vf_bd hB _ fun i _ => h.at hB i

theorem V_take {B : Int} {xs : List Int} {m : Nat} (hm : m ≤ xs.length) (h : ∀ i, m ≤ i → i < xs.length → xs.getD i 0 = 0) : V B (xs.take m) = V B xs := by
  have hl : (xs.take m).length = m := by rw [List.length_take]; omega
  unfold V
  rw [hl]
  obtain ⟨k, hk⟩ : ∃ k, xs.length = m + k := ⟨xs.length - m, by omega⟩
  rw [hk, vf_zero m k (fun i h1 h2 => h i h1 (by omega))]
  refine vf_congr m fun i hi => ?_
  rw [List.getD_eq_getElem?_getD, List.getElem?_take_of_lt hi, List.getD_eq_getElem?_getD]

theorem getD_take {xs : List Int} {i m : Nat} (hi : i < m) : (xs.take m).getD i 0 = xs.getD i 0 := by
  rw [List.getD_eq_getElem?_getD, List.getElem?_take_of_lt hi, List.getD_eq_getElem?_getD]

theorem Dig.take {B : Int} {xs : List Int} (h : Dig B xs) (m : Nat) : Dig B (xs.take m) := fun d hd => h d (List.mem_of_mem_take hd)
theorem Dig.snoc {B : Int} {xs : List Int} {d : Int} (h : Dig B xs) (h1 : 0 ≤ d) (h2 : d < B) : Dig B (xs ++ [d]) := by
  intro x hx
  rcases List.mem_append.1 hx with hx | hx
  · exact h x hx
  · rw [List.mem_singleton.1 hx]; exact ⟨h1, h2⟩
theorem Dig.nil {B : Int} : Dig B [] := fun _ h => by cases h

/-- a trimmed list that is not empty stands for at least B^(length - 1) -/
theorem V_ge {B : Int} (hB : 0 < B) {xs : List Int} (h : Dig B xs) (ht : Trimmed xs) (hne : xs ≠ []) : B ^ (xs.length - 1) ≤ V B xs := by
  have hl : 0 < xs.length := List.length_pos_iff.2 hne
  obtain ⟨n, hn⟩ : ∃ n, xs.length = n + 1 := ⟨xs.length - 1, by omega⟩
  have h1 := vf_bd hB (f := fun i => xs.getD i 0) n (fun i _ => h.at hB i)
  have h2 : xs.getD n 0 ≠ 0 := by
    rcases ht with rfl | ht
    · exact absurd rfl hne
    · rw [hn] at ht; exact ht
  have h3 : 1 ≤ xs.getD n 0 := by have := (h.at hB n).1; omega
  have h4 : 1 * B ^ n ≤ xs.getD n 0 * B ^ n := Int.mul_le_mul_of_nonneg_right h3 (Int.le_of_lt (Int.pow_pos hB))
  have h5 : V B xs = vf B (fun i => xs.getD i 0) n + xs.getD n 0 * B ^ n := by
    unfold V; rw [hn]; rfl
  rw [h5, hn, Nat.add_sub_cancel]
  omega

theorem V_pos {B : Int} (hB : 0 < B) {xs : List Int} (h : Dig B xs) (ht : Trimmed xs) : (0 < V B xs) ↔ xs ≠ [] := by
  constructor
  · rintro h1 rfl; rw [V_nil] at h1; omega
  · intro hne
    have := V_ge hB h ht hne
    have : 0 < B ^ (xs.length - 1) := Int.pow_pos hB
    omega

/-- the comparison is decided by the highest digits that differ -/
theorem vf_cmp {B : Int} (hB : 0 < B) {f g : Nat → Int} (n : Nat) (hf : ∀ i, i < n → 0 ≤ f i ∧ f i < B) (hg : ∀ i, i < n → 0 ≤ g i ∧ g i < B) (hlt : f n < g n) :
    vf B f (n + 1) < vf B g (n + 1) := by
  have h1 := vf_bd hB n hf
  have h2 := vf_bd hB n hg
  have h3 : (f n + 1) * B ^ n ≤ g n * B ^ n := Int.mul_le_mul_of_nonneg_right (by omega) (Int.le_of_lt (Int.pow_pos hB))
  rw [Int.add_mul, Int.one_mul] at h3
  show vf B f n + f n * B ^ n < vf B g n + g n * B ^ n
  omega

/-- above n they are alike: then they stand to one another as up to n -/
theorem vf_same_above {B : Int} {f g : Nat → Int} (n : Nat) : ∀ (m : Nat), (∀ i, n ≤ i → i < n + m → f i = g i) → vf B f (n + m) - vf B g (n + m) = vf B f n - vf B g n
  | 0, _ => rfl
  | m + 1, h => by
    show (vf B f (n + m) + f (n + m) * B ^ (n + m)) - (vf B g (n + m) + g (n + m) * B ^ (n + m)) = _
    rw [h (n + m) (by omega) (by omega)]
    have := vf_same_above (B := B) n m (fun i h1 h2 => h i h1 (by omega))
    omega

theorem trimmed_take {xs : List Int} {m : Nat} (hm : m ≤ xs.length) (h : m = 0 ∨ xs.getD (m - 1) 0 ≠ 0) : Trimmed (xs.take m) := by
  have hl : (xs.take m).length = m := by rw [List.length_take]; omega
  by_cases h0 : m = 0
  · left; rw [h0]; rfl
  · right
    rw [hl, getD_take (by omega)]
    rcases h with h | h
    · exact absurd h h0
    · exact h

/-- two trimmed lists of digits that stand for one number are one list -/
theorem V_inj {B : Int} (hB : 0 < B) : ∀ {xs ys : List Int}, Dig B xs → Dig B ys → Trimmed xs → Trimmed ys → V B xs = V B ys → xs = ys := by
  intro xs ys hx hy tx ty he
  have hlen : xs.length = ys.length := by
    rcases Nat.lt_trichotomy xs.length ys.length with h | h | h
    · have h1 := (V_bd hB hx).2
      have h2 := V_ge hB hy ty (by intro e; rw [e] at h; simp at h)
      have h3 : B ^ xs.length ≤ B ^ (ys.length - 1) := ipow_le hB (by omega)
      omega
    · exact h
    · have h1 := (V_bd hB hy).2
      have h2 := V_ge hB hx tx (by intro e; rw [e] at h; simp at h)
      have h3 : B ^ ys.length ≤ B ^ (xs.length - 1) := ipow_le hB (by omega)
      omega
  have key : ∀ n, vf B (fun i => xs.getD i 0) n = vf B (fun i => ys.getD i 0) n → ∀ i, i < n → xs.getD i 0 = ys.getD i 0 := by
    intro n
    induction n with
    | zero => intro _ i hi; omega
    | succ n ih =>
      intro h i hi
      have hn : xs.getD n 0 = ys.getD n 0 := by
        rcases Int.lt_trichotomy (xs.getD n 0) (ys.getD n 0) with h1 | h1 | h1
        · have := vf_cmp hB (f := fun i => xs.getD i 0) (g := fun i => ys.getD i 0) n (fun i _ => hx.at hB i) (fun i _ => hy.at hB i) h1
          omega
        · exact h1
        · have := vf_cmp hB (f := fun i => ys.getD i 0) (g := fun i => xs.getD i 0) n (fun i _ => hy.at hB i) (fun i _ => hx.at hB i) h1
          omega
      by_cases hi' : i = n
      · rw [hi']; exact hn
      · refine ih ?_ i (by omega)
        have h2 : vf B (fun i => xs.getD i 0) n + xs.getD n 0 * B ^ n = vf B (fun i => ys.getD i 0) n + ys.getD n 0 * B ^ n := h
        rw [hn] at h2; omega
  refine List.ext_getElem hlen fun i h1 h2 => ?_
  have := key xs.length (by have := he; unfold V at this; rw [← hlen] at this; exact this) i h1
  rw [List.getD_eq_getElem?_getD, List.getD_eq_getElem?_getD, List.getElem?_eq_getElem h1, List.getElem?_eq_getElem h2] at this
  exact this
theorem prod_bd {x y A B : Int} (hx : 0 ≤ x) (hy : 0 ≤ y) (h1 : x ≤ A) (h2 : y ≤ B) : 0 ≤ x * y ∧ x * y ≤ A * B :=
  ⟨Int.mul_nonneg hx hy, Int.mul_le_mul h1 h2 hy (by omega)⟩
end Go.Proofs.Ytnbhcemgoifkgaa
