/- What the walks say of a block of integers that the call itself has made, and one law for make. Conditions: at most 2^43 elements. -/
import Derived.Test.YtnbhcemgoifkgaaApp64
namespace Go.Proofs.Ytnbhcemgoifkgaa
open Go.RowKit

/-- block g holds just the numbers xs of kind k (type number e), and nothing of it is frozen -/
def Arr (k : IntKind) (e : TypeId) (w : World) (g : Nat) (xs : List Int) : Prop := w.heap[g]? = some (.cells (xs.map (Value.int k)).toArray e (0, 0))

theorem Arr.lt {k : IntKind} {e : TypeId} {w : World} {g : Nat} {xs : List Int} (h : Arr k e w g xs) : g < w.heap.size := (Array.getElem?_eq_some_iff.1 h).1
theorem Arr.cell {k : IntKind} {e : TypeId} {w : World} {g : Nat} {xs : List Int} (h : Arr k e w g xs) {i : Nat} (hi : i < xs.length) : w.cell? ⟨g, i, none⟩ = some (.int k (xs.getD i 0)) := by
  rw [cell_of_row w g i _ e (0, 0) h]
  simp [hi]
theorem Arr.frozen {k : IntKind} {e : TypeId} {w : World} {g : Nat} {xs : List Int} (h : Arr k e w g xs) (i : Nat) : w.frozen? ⟨g, i, none⟩ = false := by
  have h' : w.heap[g]? = some (.cells (xs.map (Value.int k)).toArray e (0, 0)) := h
  simp [World.frozen?, h']
theorem Arr.set {k : IntKind} {e : TypeId} {w : World} {g : Nat} {xs : List Int} (h : Arr k e w g xs) (i : Nat) (d : Int) : Arr k e (w.setCell ⟨g, i, none⟩ (.int k d)) g (xs.set i d) := by
  have h' : w.heap[g]? = some (.cells (xs.map (Value.int k)).toArray e (0, 0)) := h
  show (w.setCell ⟨g, i, none⟩ (.int k d)).heap[g]? = _
  simp [World.setCell, Array.getElem?_modify, h', List.map_set]
theorem Arr.far {k : IntKind} {e : TypeId} {w : World} {g : Nat} {xs : List Int} (h : Arr k e w g xs) {p : Addr} (hp : p.block ≠ g) (v : Value) : Arr k e (w.setCell p v) g xs := by
  show (w.setCell p v).heap[g]? = _
  rw [Below.heap_setCell _ _ _ _ (fun e => hp e.symm)]; exact h
theorem Arr.below {k : IntKind} {e : TypeId} {w w' : World} {g B : Nat} {xs : List Int} (h : Arr k e w g xs) (hb : Below B w w') (hB : g < B) : Arr k e w' g xs := by
  show w'.heap[g]? = _
  rw [hb.block g hB]; exact h
theorem Arr.row {k : IntKind} {e : TypeId} {w : World} {g : Nat} {xs : List Int} (h : Arr k e w g xs) {n cap : Nat} (hn : n ≤ cap) (hc : cap ≤ xs.length) (hl : xs.length ≤ 8796093022208) : RowK k w (some ⟨g, 0, none⟩) n cap (xs.take n) := by
  refine ⟨by rw [List.length_take]; omega, hn, by unfold maxLen; omega, .inr ⟨g, 0, rfl, h.lt, fun i hi => ?_⟩⟩
  rw [Nat.zero_add, h.cell (by omega), getD_take hi]
theorem Arr.full {k : IntKind} {e : TypeId} {w : World} {g : Nat} {xs : List Int} (h : Arr k e w g xs) (hl : xs.length ≤ 8796093022208) : RowK k w (some ⟨g, 0, none⟩) xs.length xs.length xs := by
  have := h.row (Nat.le_refl xs.length) (Nat.le_refl _) hl
  rwa [List.take_length] at this

/-- 'make([]T, n)' of integers -/
theorem make_arr {ops : Array Oper} {rest : List Oper} {o : Oper} {a : Act} {Q : Exit → Act → World → Prop} (k : IntKind) (t e : TypeId) (bytes : Nat) (hinfo : (Try.prog.info? e).map (fun i => (i.zero, i.size, i.bytes)) = some (some (.int k 0), 1, bytes))
    (hb8 : bytes ≤ 8) (ht : Try.prog.underlying t = some (.slice e)) (hg : o.guard = none) (l c : Operand) (hop : o.op = Op.makeSlice t l c) (kl kc : IntKind) (L C : Int) (n : Nat) (w : World)
    (hl : a.eval l = .int kl L) (hc : a.eval c = .int kc C) (hL : L = (n : Int)) (hC : C = (n : Int)) (hn : n ≤ 8796093022208)
    (hK : ∀ w', Arr k e w' w.heap.size (List.replicate n 0) → Below w.heap.size w w' → w'.heap.size = w.heap.size + 1 → wpList Try.prog ops Q rest (a.put o.dst (.slice (some ⟨w.heap.size, 0, none⟩) n n)) w') :
    wpList Try.prog ops Q (o :: rest) a w := by
  obtain ⟨i0, hi, hz0, hz1, hz2⟩ := info_parts hinfo
  refine wpList_plain hg fun K hK' => ?_
  subst hL hC
  have hbytes : (i0.bytes : Int) * (n : Int) ≤ 281474976710656 := by
    rw [hz2]
    have h1 : (bytes : Int) * (n : Int) ≤ 8 * (n : Int) := Int.mul_le_mul_of_nonneg_right (by omega) (by omega)
    omega
  have hrun := run_make (P := Try.prog) w t e i0 _ ht hi hz0 kl kc n n (by omega) (Int.le_refl _) hbytes (by omega)
  simp only [Int.toNat_natCast, hz1, Nat.mul_one] at hrun
  have hcells : madeCells (Value.int k 0).cells n = ((List.replicate n (0 : Int)).map (Value.int k)).toArray := by
    apply Array.ext'
    rw [show (Value.int k 0).cells = #[Value.int k 0] from rfl, toList_madeCells_one]
    simp
  rw [hcells] at hrun
  unfold Oper.wp
  simp [execOp, hop, hl, hc, hrun, Result.andThen]
  refine hK' _ _ (hK _ ?_ ((Below.refl _ _).alloc (Nat.le_refl _) _) (by simp))
  show (w.alloc _).heap[w.heap.size]? = _
  rw [heap_alloc_new]
  simp

theorem V_set {B : Int} {xs : List Int} {j : Nat} {d : Int} (hj : j < xs.length) : V B (xs.set j d) = V B xs + (d - xs.getD j 0) * B ^ j := by
  have key : ∀ n, vf B (fun i => (xs.set j d).getD i 0) n = vf B (fun i => xs.getD i 0) n + if j < n then (d - xs.getD j 0) * B ^ j else 0 := by
    intro n
    induction n with
    | zero => simp [vf]
    | succ n ih =>
      show vf B _ n + (xs.set j d).getD n 0 * B ^ n = vf B _ n + xs.getD n 0 * B ^ n + _
      rw [ih]
      by_cases h1 : j = n
      · subst h1
        rw [if_neg (Nat.lt_irrefl _), if_pos (Nat.lt_succ_self _), List.getD_eq_getElem?_getD, List.getElem?_set_self hj, Int.sub_mul]
        simp only [Option.getD_some]; omega
      · have h2 : (xs.set j d).getD n 0 = xs.getD n 0 := by rw [List.getD_eq_getElem?_getD, List.getElem?_set_ne h1, List.getD_eq_getElem?_getD]
        rw [h2]
        by_cases h3 : j < n
        · rw [if_pos h3, if_pos (by omega)]; omega
        · rw [if_neg h3, if_neg (by omega)]; omega
  have := key xs.length
  rw [if_pos hj] at this
  unfold V
  rw [List.length_set]
  exact this
theorem getD_set_self {xs : List Int} {j : Nat} {d : Int} (hj : j < xs.length) : (xs.set j d).getD j 0 = d := by
  rw [List.getD_eq_getElem?_getD, List.getElem?_set_self hj]; rfl
theorem getD_set_ne {xs : List Int} {i j : Nat} {d : Int} (h : j ≠ i) : (xs.set j d).getD i 0 = xs.getD i 0 := by
  rw [List.getD_eq_getElem?_getD, List.getElem?_set_ne h, List.getD_eq_getElem?_getD]
theorem Dig.set {B : Int} {xs : List Int} (h : Dig B xs) (j : Nat) {d : Int} (h1 : 0 ≤ d) (h2 : d < B) : Dig B (xs.set j d) := by
  intro x hx
  rcases List.mem_or_eq_of_mem_set hx with hx | hx
  · exact h x hx
  · rw [hx]; exact ⟨h1, h2⟩
theorem Dig.replicate {B : Int} (hB : 0 < B) (n : Nat) : Dig B (List.replicate n 0) := by
  intro x hx
  rw [(List.mem_replicate.1 hx).2]; exact ⟨Int.le_refl 0, hB⟩
theorem getD_replicate (n i : Nat) : (List.replicate n (0 : Int)).getD i 0 = 0 := by
  rw [List.getD_eq_getElem?_getD, List.getElem?_replicate]; split <;> rfl
theorem V_replicate {B : Int} (n : Nat) : V B (List.replicate n 0) = 0 := by
  unfold V
  have : ∀ m, vf B (fun i => (List.replicate n (0 : Int)).getD i 0) m = 0 := by
    intro m
    induction m with
    | zero => rfl
    | succ m ih =>
      show vf B _ m + (List.replicate n (0 : Int)).getD m 0 * B ^ m = 0
      rw [ih, getD_replicate, Int.zero_mul]; rfl
  exact this _
end Go.Proofs.Ytnbhcemgoifkgaa
