/- One law for an append of whatever row to a row of the call's own. Condition: at most 2^43 elements. -/
import Derived.Test.YtdbkgpakpadloaaMNum
import Derived.Test.YtdbkgpakpadloaaMReg
namespace Go.Proofs.Ytdbkgpakpadloaa
open Go.RowKit

theorem ownBlock_none {v : Value} : v.ownBlock = none ∨ ∃ g, v.ownBlock = some g := by cases v.ownBlock <;> simp

theorem run_append_row (k : IntKind) (t e : TypeId) (bytes : Nat) (hinfo : (Try.prog.info? e).map (fun i => (i.zero, i.size, i.bytes)) = some (some (.int k 0), 1, bytes)) (hb8 : bytes ≤ 8) (ht : Try.prog.underlying t = some (.slice e)) (ty : TypeId)
    (w : World) (B : Nat) (v : Value) (n : Nat) (xs : List Int) (hown : OwnK k w B e v n xs) (a : Option Addr) (m c : Nat) (ys : List Int) (hr : RowK k w a m c ys) (ha : a = none → m = 0 ∧ c = 0) (hlen : n + m ≤ 8796093022208) (hB : B ≤ w.heap.size) :
    ∃ v' w', (Builtin.append_ #[t, t] ty #[v, .slice a m c]).run Try.prog w = .ok v' w' ∧ OwnK k w' B e v' (n + m) (xs ++ ys) ∧ w.grownBy w' v.ownBlock := by
  obtain ⟨i0, hi, hz0, hz1, hz2⟩ := info_parts hinfo
  cases a with
  | none =>
    obtain ⟨rfl, rfl⟩ := ha rfl
    have : ys = [] := by have := hr.1; exact List.length_eq_zero_iff.1 this
    subst this
    have hrun := run_append_owned_none (P := Try.prog) (w := w) B t ty e i0 1 ht hi v n _ hown
    exact ⟨v, w, hrun, by simpa using hown, ⟨rfl, rfl, rfl, Nat.le_refl _, fun _ _ _ => rfl⟩⟩
  | some ad =>
    have hnews : ∀ j u, (ys.map (Value.int k))[j]? = some u → w.cell? (ad.add j) = some u := by
      intro j u hu
      rw [List.getElem?_map] at hu
      have hj : j < ys.length := by
        rcases Nat.lt_or_ge j ys.length with h | h
        · exact h
        · rw [List.getElem?_eq_none h] at hu; simp at hu
      rw [List.getElem?_eq_getElem hj] at hu
      simp only [Option.map_some, Option.some.injEq] at hu
      have hm := hr.1
      rcases hr.2.2.2 with h0 | ⟨b, off, hab, _, hc⟩
      · have := hr.2.1; omega
      · cases hab
        have := hc j (by omega)
        rw [List.getD_eq_getElem?_getD, List.getElem?_eq_getElem hj] at this
        rw [← hu]
        by_cases hj0 : j = 0
        · subst hj0; simpa [Addr.add] using this
        · simpa [Addr.add, hj0] using this
    have h1 : ∀ u ∈ ys.map (Value.int k), u.oneCell' = true := by
      intro u hu
      obtain ⟨z, _, rfl⟩ := List.mem_map.1 hu
      rfl
    have hbytes : (n + m) * bytes ≤ 140737488355328 := by
      have : (n + m) * bytes ≤ (n + m) * 8 := Nat.mul_le_mul_left _ hb8
      omega
    obtain ⟨v', w', hrun, h2, h3, _⟩ := run_append_own (P := Try.prog) w B t ty e i0 (.int k 0) 1 bytes ht hi hz0 hz1 hz2 rfl (by decide) v n _ hown ad m c (ys.map (Value.int k)) (by rw [List.length_map, hr.1, Nat.mul_one]) hnews h1 (by unfold maxLen; omega) hbytes hB
    exact ⟨v', w', hrun, by unfold OwnK; rw [List.map_append]; exact h2, h3⟩

/-- at a step of a region that draws -/
theorem step_append_row (k : IntKind) (t e : TypeId) (bytes : Nat) (hinfo : (Try.prog.info? e).map (fun i => (i.zero, i.size, i.bytes)) = some (some (.int k 0), 1, bytes)) (hb8 : bytes ≤ 8) (ht : Try.prog.underlying t = some (.slice e))
    {ops : Array Oper} {o : Oper} {a : Act} {K : Act → World → Prop} {Q : Exit → Act → World → Prop} {E : Prop} (hgd : o.guard = none) (s x : Operand)
    (ho : o.op = .call { callee := .builtin .append, args := #[s, x], argTypes := #[t, t] })
    (w : World) (B : Nat) (v : Value) (n : Nat) (xs : List Int) (na : Option Addr) (m c : Nat) (ys : List Int) (hs : a.eval s = v) (hx : a.eval x = .slice na m c) (hown : OwnK k w B e v n xs) (hr : RowK k w na m c ys) (ha : na = none → m = 0 ∧ c = 0) (hlen : n + m ≤ 8796093022208) (hB : B ≤ w.heap.size)
    (h : ∀ v' w', OwnK k w' B e v' (n + m) (xs ++ ys) → w.grownBy w' v.ownBlock → (∀ w0, Below B w0 w → Below B w0 w') → K (a.put o.dst v') w') :
    if Region.wanted o (yielded ops a.tmps) = true then Oper.wp Try.prog o a w K Q else E := by
  have hw : Region.wanted o (yielded ops a.tmps) = true := by simp [Region.wanted, hgd]
  rw [if_pos hw]
  obtain ⟨v', w', hrun, h2, h3⟩ := run_append_row k t e bytes hinfo hb8 ht o.type w B v n xs hown na m c ys hr ha hlen hB
  unfold Oper.wp execOp
  simp only [ho, resolve, invoke, builtin, Sem.run_bind, Sem.run_pure, Result.andThen_ok, List.map_toArray, List.map_cons, List.map_nil, hs, hx, hrun]
  exact h v' w' h2 h3 fun w0 hb => hb.grown h3 hB fun k' hk => (World.ownsRow.lt hown k' hk).1

/-- at the list of a plain region's operations -/
theorem wpList_append_row (k : IntKind) (t e : TypeId) (bytes : Nat) (hinfo : (Try.prog.info? e).map (fun i => (i.zero, i.size, i.bytes)) = some (some (.int k 0), 1, bytes)) (hb8 : bytes ≤ 8) (ht : Try.prog.underlying t = some (.slice e))
    {ops : Array Oper} {rest : List Oper} {o : Oper} {a : Act} {Q : Exit → Act → World → Prop} (hgd : o.guard = none) (s x : Operand)
    (ho : o.op = .call { callee := .builtin .append, args := #[s, x], argTypes := #[t, t] })
    (w : World) (B : Nat) (v : Value) (n : Nat) (xs : List Int) (na : Option Addr) (m c : Nat) (ys : List Int) (hs : a.eval s = v) (hx : a.eval x = .slice na m c) (hown : OwnK k w B e v n xs) (hr : RowK k w na m c ys) (ha : na = none → m = 0 ∧ c = 0) (hlen : n + m ≤ 8796093022208) (hB : B ≤ w.heap.size)
    (h : ∀ v' w', OwnK k w' B e v' (n + m) (xs ++ ys) → w.grownBy w' v.ownBlock → (∀ w0, Below B w0 w → Below B w0 w') → wpList Try.prog ops Q rest (a.put o.dst v') w') : wpList Try.prog ops Q (o :: rest) a w := by
  refine wpList_plain hgd fun K hK => ?_
  obtain ⟨v', w', hrun, h2, h3⟩ := run_append_row k t e bytes hinfo hb8 ht o.type w B v n xs hown na m c ys hr ha hlen hB
  unfold Oper.wp execOp
  simp only [ho, resolve, invoke, builtin, Sem.run_bind, Sem.run_pure, Result.andThen_ok, List.map_toArray, List.map_cons, List.map_nil, hs, hx, hrun]
  exact hK _ _ (h v' w' h2 h3 fun w0 hb => hb.grown h3 hB fun k' hk => (World.ownsRow.lt hown k' hk).1)
end Go.Proofs.Ytdbkgpakpadloaa
/- Contract of package bushelref01's Div. Conditions: the divisor is not 0; the numbers together lie below 1000^1000000. -/
namespace Go.Proofs.Ytdbkgpakpadloaa
open Go.RowKit

theorem div_fin (x y Q R A D : Int) (hA : A = x.natAbs) (hD : D = y.natAbs) (hD0 : 0 < D) (hQ : A = Q * D + R) (hR0 : 0 ≤ R) (hR1 : R < D) :
    (if (decide (x < 0) != decide (y < 0)) then (if 0 < R then -Q - 1 else -Q) else Q) = x.fdiv y := by
  have key : ∀ (z w : Int), z * y + w = x → (0 < y → 0 ≤ w ∧ w < y) → (y < 0 → y < w ∧ w ≤ 0) → z = x.fdiv y := by
    intro z w h h1 h2
    have e2 := Int.mul_fdiv_add_fmod x y
    have r1 : (0 < y → 0 ≤ x.fmod y ∧ x.fmod y < y) ∧ (y < 0 → y < x.fmod y ∧ x.fmod y ≤ 0) := by
      refine ⟨fun h => ⟨Int.fmod_nonneg_of_pos x h, Int.fmod_lt_of_pos x h⟩, fun h => ?_⟩
      have h1 := Int.fmod_nonneg_of_pos (-x) (b := -y) (by omega)
      have h2 := Int.fmod_lt_of_pos (-x) (b := -y) (by omega)
      rw [Int.neg_fmod_neg] at h1 h2
      omega
    have hd : y * (z - x.fdiv y) = x.fmod y - w := by
      rw [Int.mul_sub, Int.mul_comm y z]; omega
    have h0 : z - x.fdiv y = 0 := by
      rcases Int.lt_trichotomy (z - x.fdiv y) 0 with hx | hx | hx
      · exfalso
        rcases Int.lt_or_gt_of_ne (show y ≠ 0 by omega) with hy | hy
        · have := Int.mul_le_mul_of_nonneg_left (a := z - x.fdiv y) (b := -1) (c := -y) (by omega) (by omega)
          rw [Int.neg_mul y (z - x.fdiv y), hd] at this
          have := h2 hy; have := r1.2 hy; omega
        · have := Int.mul_le_mul_of_nonneg_left (a := z - x.fdiv y) (b := -1) (c := y) (by omega) (by omega)
          rw [hd] at this
          have := h1 hy; have := r1.1 hy; omega
      · exact hx
      · exfalso
        rcases Int.lt_or_gt_of_ne (show y ≠ 0 by omega) with hy | hy
        · have := Int.mul_le_mul_of_nonneg_left (a := 1) (b := z - x.fdiv y) (c := -y) (by omega) (by omega)
          rw [Int.neg_mul y (z - x.fdiv y), hd] at this
          have := h2 hy; have := r1.2 hy; omega
        · have := Int.mul_le_mul_of_nonneg_left (a := 1) (b := z - x.fdiv y) (c := y) (by omega) (by omega)
          rw [hd] at this
          have := h1 hy; have := r1.1 hy; omega
    omega
  by_cases hx : x < 0 <;> by_cases hy : y < 0
  · simp only [hx, hy, decide_true, bne_self_eq_false, Bool.false_eq_true, if_false]
    refine key Q (-R) ?_ (by omega) (by omega)
    have : y = -D := by omega
    rw [this, Int.mul_neg]; omega
  · simp only [hx, hy, decide_true, decide_false, Bool.bne_false, if_true]
    have e : y = D := by omega
    split
    · refine key _ (D - R) ?_ (by omega) (by omega)
      rw [e, Int.sub_mul, Int.neg_mul]; omega
    · refine key _ 0 ?_ (by omega) (by omega)
      rw [e, Int.neg_mul]; omega
  · simp only [hx, hy, decide_true, decide_false, Bool.bne_true, Bool.not_false, if_true]
    have e : y = -D := by omega
    split
    · refine key _ (R - D) ?_ (by omega) (by omega)
      rw [e, Int.sub_mul, Int.mul_neg, Int.neg_mul]; omega
    · refine key _ 0 ?_ (by omega) (by omega)
      rw [e, Int.mul_neg, Int.neg_mul]; omega
  · simp only [hx, hy, decide_false, bne_self_eq_false, Bool.false_eq_true, if_false]
    refine key Q R ?_ (by omega) (by omega)
    have e : y = D := by omega
    rw [e]; omega

theorem rest_fmod (x y : Int) : x - (x.fdiv y) * y = x.fmod y := by
  have := Int.mul_fdiv_add_fmod x y
  rw [Int.mul_comm]; omega

theorem fmod_natAbs_le (x y : Int) (h : y ≠ 0) : (x.fmod y).natAbs ≤ y.natAbs := by
  rcases Int.lt_or_gt_of_ne h with h | h
  · have h1 := Int.fmod_nonneg_of_pos (-x) (b := -y) (by omega)
    have h2 := Int.fmod_lt_of_pos (-x) (b := -y) (by omega)
    rw [Int.neg_fmod_neg] at h1 h2
    omega
  · have h1 := Int.fmod_nonneg_of_pos x h
    have h2 := Int.fmod_lt_of_pos x h
    omega

theorem NumC.far {w : World} {neg : Bool} {a : Option Addr} {n cap : Nat} {z : Int} {N : Nat} (h : NumC w neg a n cap z) (hf : Fresh N a) {p : Addr} (hp : p.block < N) (v : Value) : NumC (w.setCell p v) neg a n cap z := by
  obtain ⟨xs, ⟨h1, h2, h3, h4⟩, h5⟩ := h
  refine ⟨xs, ⟨h1, h2, h3, ?_⟩, h5⟩
  rcases h4 with h4 | ⟨b, off, e, hlt, hc⟩
  · exact .inl h4
  · refine .inr ⟨b, off, e, by simpa [World.setCell] using hlt, fun i hi => ?_⟩
    rw [World.cell?_setCell_other]
    · exact hc i hi
    · intro e2
      have h6 := hf _ e
      have : p.block = b := by rw [e2]
      simp at h6; omega

/-- the number of a list with one more digit ahead -/
theorem V_cons {B : Int} {d : Int} : ∀ (ys : List Int), V B (d :: ys) = d + B * V B ys := by
  intro ys
  have key : ∀ n, vf B (fun i => (d :: ys).getD i 0) (n + 1) = d + B * vf B (fun i => ys.getD i 0) n := by
    intro n
    induction n with
    | zero => simp [vf]
    | succ n ih =>
      show vf B _ (n + 1) + (d :: ys).getD (n + 1) 0 * B ^ (n + 1) = d + B * (vf B _ n + ys.getD n 0 * B ^ n)
      rw [ih, Int.mul_add, List.getD_cons_succ, Int.pow_succ, Int.mul_comm B (ys.getD n 0 * B ^ n), Int.mul_assoc]; omega
  show vf B _ (ys.length + 1) = _
  rw [key]; rfl
theorem Dig.cons {B : Int} {xs : List Int} {d : Int} (h : Dig B xs) (h1 : 0 ≤ d) (h2 : d < B) : Dig B (d :: xs) := by
  intro x hx
  rcases List.mem_cons.1 hx with hx | hx
  · rw [hx]; exact ⟨h1, h2⟩
  · exact h x hx

def RetDiv (w : World) (x y : Int) (e : Ending) (w' : World) : Prop :=
  ∃ n1 a1 l1 c1 n2 a2 l2 c2, e = .returned (.tuple #[.agg #[.bool n1, .slice a1 l1 c1], .agg #[.bool n2, .slice a2 l2 c2]]) ∧ NumC w' n1 a1 l1 c1 x ∧ NumC w' n2 a2 l2 c2 y ∧ Below w.heap.size w w'

/-- what Div's boxes hold between two rounds -/
structure DivAt (w0 wr : World) (s : Nat) (b : Option Addr) (m d : Nat) (rn : Bool) (ra : Option Addr) (rl rc : Nat) (qs : List Int) (R : Int) : Prop where
  r0 : wr.cell? ⟨s + 1 + 1 + 1 + 1 + 1, 0, none⟩ = some (.bool rn)
  r1 : wr.cell? ⟨s + 1 + 1 + 1 + 1 + 1, 1, none⟩ = some (.slice ra rl rc)
  rf : ∀ o, wr.frozen? ⟨s + 1 + 1 + 1 + 1 + 1, o, none⟩ = false
  d0 : wr.cell? ⟨s + 1 + 1 + 1 + 1 + 1 + 1, 0, none⟩ = some (.bool false)
  d1 : wr.cell? ⟨s + 1 + 1 + 1 + 1 + 1 + 1, 1, none⟩ = some (.slice b m d)
  q : Arr .i64 3 wr (s + 1 + 1 + 1 + 1) qs
  n : NumC wr rn ra rl rc R
  fr : Fresh (s + 1 + 1 + 1 + 1 + 1) ra
  bel : Below (s + 1 + 1 + 1 + 1) w0 wr
  sz : s + 1 + 1 + 1 + 1 + 1 + 1 + 1 ≤ wr.heap.size

theorem DivAt.below {w0 wr w' : World} {s : Nat} {b : Option Addr} {m d : Nat} {rn : Bool} {ra : Option Addr} {rl rc : Nat} {qs : List Int} {R : Int} (h : DivAt w0 wr s b m d rn ra rl rc qs R) (hb : Below wr.heap.size wr w') : DivAt w0 w' s b m d rn ra rl rc qs R := by
  have hs := h.sz
  exact ⟨by rw [hb.cell (p := ⟨_, 0, none⟩) (by simp; omega)]; exact h.r0, by rw [hb.cell (p := ⟨_, 1, none⟩) (by simp; omega)]; exact h.r1, fun o => by rw [hb.frozen (p := ⟨_, o, none⟩) (by simp; omega)]; exact h.rf o,
    by rw [hb.cell (p := ⟨_, 0, none⟩) (by simp; omega)]; exact h.d0, by rw [hb.cell (p := ⟨_, 1, none⟩) (by simp; omega)]; exact h.d1, h.q.below hb (by omega), h.n.below hb (Nat.le_refl _), h.fr, h.bel.trans (hb.mono (by omega)), by have := hb.size; omega⟩
theorem DivAt.drew {w0 wr : World} {s : Nat} {b : Option Addr} {m d : Nat} {rn : Bool} {ra : Option Addr} {rl rc : Nat} {qs : List Int} {R : Int} (h : DivAt w0 wr s b m d rn ra rl rc qs R) : DivAt w0 wr.drew s b m d rn ra rl rc qs R :=
  h.below (Below.refl _ _).drew
/-- a new number is laid into r -/
theorem DivAt.setR {w0 wr : World} {s : Nat} {b : Option Addr} {m d : Nat} {rn : Bool} {ra : Option Addr} {rl rc : Nat} {qs : List Int} {R R' : Int} {n' : Bool} {a' : Option Addr} {l' c' : Nat} (h : DivAt w0 wr s b m d rn ra rl rc qs R) (hn : NumC wr n' a' l' c' R') (hf : Fresh (s + 1 + 1 + 1 + 1 + 1) a') :
    DivAt w0 ((wr.setCell ⟨s + 1 + 1 + 1 + 1 + 1, 0, none⟩ (.bool n')).setCell ⟨s + 1 + 1 + 1 + 1 + 1, 1, none⟩ (.slice a' l' c')) s b m d n' a' l' c' qs R' := by
  have h0 := h.r0
  have h1 := h.r1
  refine ⟨by simp [go_sem, h0], by simp [go_sem, h1], fun o => by simp [go_sem, h.rf], by simp [go_sem, h.d0], by simp [go_sem, h.d1], (h.q.far (by simp) _).far (by simp) _, ?_, hf, (h.bel.setCell (by simp) _).setCell (by simp) _, by have := h.sz; simpa using this⟩
  refine (hn.set h0 (fun _ e => by cases e) _).set (u := .slice ra rl rc) ?_ (fun _ e => by cases e) _
  rw [World.cell?_setCell_other _ _ _ _ (by simp)]
  exact h1
/-- a digit of the quotient is laid down -/
theorem DivAt.setQ {w0 wr : World} {s : Nat} {b : Option Addr} {m d : Nat} {rn : Bool} {ra : Option Addr} {rl rc : Nat} {qs : List Int} {R : Int} (h : DivAt w0 wr s b m d rn ra rl rc qs R) (i : Nat) (z : Int) :
    DivAt w0 (wr.setCell ⟨s + 1 + 1 + 1 + 1, i, none⟩ (.int .i64 z)) s b m d rn ra rl rc (qs.set i z) R := by
  refine ⟨by rw [World.cell?_setCell_other _ _ _ _ (by simp)]; exact h.r0, by rw [World.cell?_setCell_other _ _ _ _ (by simp)]; exact h.r1, fun o => ?_, by rw [World.cell?_setCell_other _ _ _ _ (by simp)]; exact h.d0, by rw [World.cell?_setCell_other _ _ _ _ (by simp)]; exact h.d1,
    h.q.set i z, h.n.far h.fr (by simp) _, h.fr, h.bel.setCell (by simp) _, by have := h.sz; simpa using this⟩
  have := h.rf o
  rw [← this]
  exact World.frozen?_of_block (w := wr) (Below.heap_setCell _ _ _ _ (by simp))


theorem OwnK.one (k : IntKind) (w : World) (e : TypeId) (d : Int) : OwnK k (w.alloc (.cells #[.int k d] e)) w.heap.size e (.slice (some ⟨w.heap.size, 0, none⟩) 1 1) 1 [d] := by
  refine ⟨rfl, .inr ⟨w.heap.size, 1, #[.int k d], rfl, Nat.le_refl _, heap_alloc_new w _, Nat.le_refl _, by unfold maxLen; omega, rfl, rfl⟩⟩
theorem RowK.none {k : IntKind} {w : World} {n c : Nat} {xs : List Int} (h : RowK k w none n c xs) : n = 0 ∧ c = 0 := by
  rcases h.2.2.2 with h0 | ⟨b, off, e, _⟩
  · exact ⟨by have := h.2.1; omega, h0⟩
  · cases e
theorem RowK.none' {k : IntKind} {w : World} {a : Option Addr} {n c : Nat} {xs : List Int} (h : RowK k w a n c xs) : a = Option.none → n = 0 ∧ c = 0 := fun e => by subst e; exact h.none

theorem Frz {w : World} {q o : Nat} {ob : Obj} (h : q < w.heap.size) : (w.alloc ob).frozen? ⟨q, o, none⟩ = w.frozen? ⟨q, o, none⟩ :=
  World.frozen?_of_block (w := w) (Below.heap_alloc _ _ _ h)
theorem NumC.set2 {w : World} {neg : Bool} {a : Option Addr} {n cap : Nat} {z : Int} {B : Nat} {u : Bool} {p : Option Addr} {q r : Nat} (h : NumC w neg a n cap z) (h0 : w.cell? ⟨B, 0, none⟩ = some (.bool u)) (h1 : w.cell? ⟨B, 1, none⟩ = some (.slice p q r)) (u' : Bool) (p' : Option Addr) (q' r' : Nat) :
    NumC ((w.setCell ⟨B, 0, none⟩ (.bool u')).setCell ⟨B, 1, none⟩ (.slice p' q' r')) neg a n cap z :=
  (h.set h0 (fun _ e => by cases e) _).set (u := .slice p q r) (by rw [World.cell?_setCell_other _ _ _ _ (by simp)]; exact h1) (fun _ e => by cases e) _

theorem divstep {xs qs : List Int} {D R : Int} {i : Nat} (h : V 1000 xs = vf 1000 (fun j => xs.getD j 0) (i + 1) + V 1000 qs * D + R * 1000 ^ (i + 1)) :
    V 1000 xs = vf 1000 (fun j => xs.getD j 0) i + V 1000 qs * D + (xs.getD i 0 + 1000 * R) * 1000 ^ i := by
  have e : vf 1000 (fun j => xs.getD j 0) (i + 1) = vf 1000 (fun j => xs.getD j 0) i + xs.getD i 0 * 1000 ^ i := rfl
  rw [h, e, Int.pow_succ, Int.add_mul, Int.mul_comm (1000 ^ i) 1000, ← Int.mul_assoc, Int.mul_comm R 1000]
  omega
theorem divset {xs qs : List Int} {D R lo : Int} {i : Nat} (hi : i < qs.length) (h0 : qs.getD i 0 = 0) (h : V 1000 xs = vf 1000 (fun j => xs.getD j 0) i + V 1000 qs * D + R * 1000 ^ i) :
    V 1000 xs = vf 1000 (fun j => xs.getD j 0) i + V 1000 (qs.set i lo) * D + (R - lo * D) * 1000 ^ i := by
  rw [V_set hi, h0, Int.sub_zero, Int.add_mul, Int.sub_mul, h, Int.mul_assoc lo, Int.mul_comm (1000 ^ i) D, ← Int.mul_assoc]
  omega

end Go.Proofs.Ytdbkgpakpadloaa
/- Contract of package bushelref01's Power. Conditions: the count is not below 0; all powers up to it lie below 1000^1000000. -/
namespace Go.Proofs.Ytdbkgpakpadloaa
open Go.RowKit

theorem pow_half (x : Int) (n : Nat) (h : n % 2 = 0) : x ^ (n / 2) * x ^ (n / 2) = x ^ n := by
  rw [← Int.pow_add]; congr 1; omega
theorem pow_half1' (x : Int) (n : Nat) (h : n % 2 = 1) : x ^ (n / 2) * x ^ (n / 2) = x ^ (n - 1) := by
  rw [← Int.pow_add]; congr 1; omega
theorem pow_half1 (x : Int) (n : Nat) (h : n % 2 = 1) : x ^ (n / 2) * x ^ (n / 2) * x = x ^ n := by
  rw [← Int.pow_add, ← Int.pow_succ]; congr 1; omega

end Go.Proofs.Ytdbkgpakpadloaa
