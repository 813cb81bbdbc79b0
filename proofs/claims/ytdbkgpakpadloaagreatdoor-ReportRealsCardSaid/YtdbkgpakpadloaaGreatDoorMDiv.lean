/- One law for an append of whatever row to a row of the call's own. Condition: at most 2^43 elements. -/
import Derived.Test.YtdbkgpakpadloaaGreatDoorMNum
import Derived.Test.YtdbkgpakpadloaaGreatDoorMReg
namespace Go.Proofs.YtdbkgpakpadloaaGreatDoor
open Go.RowKit

theorem ownBlock_none {v : Value} : v.ownBlock = none ∨ ∃ g, v.ownBlock = some g := by cases v.ownBlock <;> simp

theorem run_append_row (k : IntKind) (t e : TypeId) (bytes : Nat) (hinfo : (Tryz.prog.info? e).map (fun i => (i.zero, i.size, i.bytes)) = some (some (.int k 0), 1, bytes)) (hb8 : bytes ≤ 8) (ht : Tryz.prog.underlying t = some (.slice e)) (ty : TypeId)
    (w : World) (B : Nat) (v : Value) (n : Nat) (xs : List Int) (hown : OwnK k w B e v n xs) (a : Option Addr) (m c : Nat) (ys : List Int) (hr : RowK k w a m c ys) (ha : a = none → m = 0 ∧ c = 0) (hlen : n + m ≤ 8796093022208) (hB : B ≤ w.heap.size) :
    ∃ v' w', (Builtin.append_ #[t, t] ty #[v, .slice a m c]).run Tryz.prog w = .ok v' w' ∧ OwnK k w' B e v' (n + m) (xs ++ ys) ∧ w.grownBy w' v.ownBlock := by
  obtain ⟨i0, hi, hz0, hz1, hz2⟩ := info_parts hinfo
  cases a with
  | none =>
    obtain ⟨rfl, rfl⟩ := ha rfl
    have : ys = [] := by have := hr.1; exact List.length_eq_zero_iff.1 this
    subst this
    have hrun := run_append_owned_none (P := Tryz.prog) (w := w) B t ty e i0 1 ht hi v n _ hown
    exact ⟨v, w, hrun, by simpa using hown, ⟨rfl, rfl, rfl, Nat.le_refl _, fun _ _ _ => rfl⟩⟩
  | some ad =>
    have hnews : ∀ j u, (ys.map (Value.int k))[j]? = some u → w.cell? (ad.add j) = some u := by
      intro j u hu
      rw [List.getElem?_map] at hu
      have hj : j < ys.length := by
        rcases Nat.lt_or_ge j ys.length with h | h
        · exact h
        · rw [List.getElem?_eq_none h] at hu; simp at hu
      rw [List.getElem?_eq_getElem hj] at hu
      simp only [Option.map_some, Option.some.injEq] at hu
      have hm := hr.1
      rcases hr.2.2.2 with h0 | ⟨b, off, hab, _, hc⟩
      · have := hr.2.1; omega
      · cases hab
        have := hc j (by omega)
        rw [List.getD_eq_getElem?_getD, List.getElem?_eq_getElem hj] at this
        rw [← hu]
        by_cases hj0 : j = 0
        · subst hj0; simpa [Addr.add] using this
        · simpa [Addr.add, hj0] using this
    have h1 : ∀ u ∈ ys.map (Value.int k), u.oneCell' = true := by
      intro u hu
      obtain ⟨z, _, rfl⟩ := List.mem_map.1 hu
      rfl
    have hbytes : (n + m) * bytes ≤ 140737488355328 := by
      have : (n + m) * bytes ≤ (n + m) * 8 := Nat.mul_le_mul_left _ hb8
      omega
    obtain ⟨v', w', hrun, h2, h3, _⟩ := run_append_own (P := Tryz.prog) w B t ty e i0 (.int k 0) 1 bytes ht hi hz0 hz1 hz2 rfl (by decide) v n _ hown ad m c (ys.map (Value.int k)) (by rw [List.length_map, hr.1, Nat.mul_one]) hnews h1 (by unfold maxLen; omega) hbytes hB
    exact ⟨v', w', hrun, by unfold OwnK; rw [List.map_append]; exact h2, h3⟩

/-- at a step of a region that draws -/
theorem step_append_row (k : IntKind) (t e : TypeId) (bytes : Nat) (hinfo : (Tryz.prog.info? e).map (fun i => (i.zero, i.size, i.bytes)) = some (some (.int k 0), 1, bytes)) (hb8 : bytes ≤ 8) (ht : Tryz.prog.underlying t = some (.slice e))
    {ops : Array Oper} {o : Oper} {a : Act} {K : Act → World → Prop} {Q : Exit → Act → World → Prop} {E : Prop} (hgd : o.guard = none) (s x : Operand)
    (ho : o.op = .call { callee := .builtin .append, args := #[s, x], argTypes := #[t, t] })
    (w : World) (B : Nat) (v : Value) (n : Nat) (xs : List Int) (na : Option Addr) (m c : Nat) (ys : List Int) (hs : a.eval s = v) (hx : a.eval x = .slice na m c) (hown : OwnK k w B e v n xs) (hr : RowK k w na m c ys) (ha : na = none → m = 0 ∧ c = 0) (hlen : n + m ≤ 8796093022208) (hB : B ≤ w.heap.size)
    (h : ∀ v' w', OwnK k w' B e v' (n + m) (xs ++ ys) → w.grownBy w' v.ownBlock → (∀ w0, Below B w0 w → Below B w0 w') → K (a.put o.dst v') w') :
    if Region.wanted o (yielded ops a.tmps) = true then Oper.wp Tryz.prog o a w K Q else E := by
  have hw : Region.wanted o (yielded ops a.tmps) = true := by simp [Region.wanted, hgd]
  rw [if_pos hw]
  obtain ⟨v', w', hrun, h2, h3⟩ := run_append_row k t e bytes hinfo hb8 ht o.type w B v n xs hown na m c ys hr ha hlen hB
  unfold Oper.wp execOp
  simp only [ho, resolve, invoke, builtin, Sem.run_bind, Sem.run_pure, Result.andThen_ok, List.map_toArray, List.map_cons, List.map_nil, hs, hx, hrun]
  exact h v' w' h2 h3 fun w0 hb => hb.grown h3 hB fun k' hk => (World.ownsRow.lt hown k' hk).1

/-- at the list of a plain region's operations -/
theorem wpList_append_row (k : IntKind) (t e : TypeId) (bytes : Nat) (hinfo : (Tryz.prog.info? e).map (fun i => (i.zero, i.size, i.bytes)) = some (some (.int k 0), 1, bytes)) (hb8 : bytes ≤ 8) (ht : Tryz.prog.underlying t = some (.slice e))
    {ops : Array Oper} {rest : List Oper} {o : Oper} {a : Act} {Q : Exit → Act → World → Prop} (hgd : o.guard = none) (s x : Operand)
    (ho : o.op = .call { callee := .builtin .append, args := #[s, x], argTypes := #[t, t] })
    (w : World) (B : Nat) (v : Value) (n : Nat) (xs : List Int) (na : Option Addr) (m c : Nat) (ys : List Int) (hs : a.eval s = v) (hx : a.eval x = .slice na m c) (hown : OwnK k w B e v n xs) (hr : RowK k w na m c ys) (ha : na = none → m = 0 ∧ c = 0) (hlen : n + m ≤ 8796093022208) (hB : B ≤ w.heap.size)
    (h : ∀ v' w', OwnK k w' B e v' (n + m) (xs ++ ys) → w.grownBy w' v.ownBlock → (∀ w0, Below B w0 w → Below B w0 w') → wpList Tryz.prog ops Q rest (a.put o.dst v') w') : wpList Tryz.prog ops Q (o :: rest) a w := by
  refine wpList_plain hgd fun K hK => ?_
  obtain ⟨v', w', hrun, h2, h3⟩ := run_append_row k t e bytes hinfo hb8 ht o.type w B v n xs hown na m c ys hr ha hlen hB
  unfold Oper.wp execOp
  simp only [ho, resolve, invoke, builtin, Sem.run_bind, Sem.run_pure, Result.andThen_ok, List.map_toArray, List.map_cons, List.map_nil, hs, hx, hrun]
  exact hK _ _ (h v' w' h2 h3 fun w0 hb => hb.grown h3 hB fun k' hk => (World.ownsRow.lt hown k' hk).1)
end Go.Proofs.YtdbkgpakpadloaaGreatDoor
/- Contract of package bushelref01's Div. Conditions: the divisor is not 0; the numbers together lie below 1000^1000000. -/
namespace Go.Proofs.YtdbkgpakpadloaaGreatDoor
open Go.RowKit

theorem div_fin (x y Q R A D : Int) (hA : A = x.natAbs) (hD : D = y.natAbs) (hD0 : 0 < D) (hQ : A = Q * D + R) (hR0 : 0 ≤ R) (hR1 : R < D) :
    (if (decide (x < 0) != decide (y < 0)) then (if 0 < R then -Q - 1 else -Q) else Q) = x.fdiv y := by
  have key : ∀ (z w : Int), z * y + w = x → (0 < y → 0 ≤ w ∧ w < y) → (y < 0 → y < w ∧ w ≤ 0) → z = x.fdiv y := by
    intro z w h h1 h2
    have e2 := Int.mul_fdiv_add_fmod x y
    have r1 : (0 < y → 0 ≤ x.fmod y ∧ x.fmod y < y) ∧ (y < 0 → y < x.fmod y ∧ x.fmod y ≤ 0) := by
      refine ⟨fun h => ⟨Int.fmod_nonneg_of_pos x h, Int.fmod_lt_of_pos x h⟩, fun h => ?_⟩
      have h1 := Int.fmod_nonneg_of_pos (-x) (b := -y) (by omega)
      have h2 := Int.fmod_lt_of_pos (-x) (b := -y) (by omega)
      rw [Int.neg_fmod_neg] at h1 h2
      omega
    have hd : y * (z - x.fdiv y) = x.fmod y - w := by
      rw [Int.mul_sub, Int.mul_comm y z]; omega
    have h0 : z - x.fdiv y = 0 := by
      rcases Int.lt_trichotomy (z - x.fdiv y) 0 with hx | hx | hx
      · exfalso
        rcases Int.lt_or_gt_of_ne (show y ≠ 0 by omega) with hy | hy
        · have := Int.mul_le_mul_of_nonneg_left (a := z - x.fdiv y) (b := -1) (c := -y) (by omega) (by omega)
          rw [Int.neg_mul y (z - x.fdiv y), hd] at this
          have := h2 hy; have := r1.2 hy; omega
        · have := Int.mul_le_mul_of_nonneg_left (a := z - x.fdiv y) (b := -1) (c := y) (by omega) (by omega)
          rw [hd] at this
          have := h1 hy; have := r1.1 hy; omega
      · exact hx
      · exfalso
        rcases Int.lt_or_gt_of_ne (show y ≠ 0 by omega) with hy | hy
        · have := Int.mul_le_mul_of_nonneg_left (a := 1) (b := z - x.fdiv y) (c := -y) (by omega) (by omega)
          rw [Int.neg_mul y (z - x.fdiv y), hd] at this
          have := h2 hy; have := r1.2 hy; omega
        · have := Int.mul_le_mul_of_nonneg_left (a := 1) (b := z - x.fdiv y) (c := y) (by omega) (by omega)
          rw [hd] at this
          have := h1 hy; have := r1.1 hy; omega
    omega
  by_cases hx : x < 0 <;> by_cases hy : y < 0
  · simp only [hx, hy, decide_true, bne_self_eq_false, Bool.false_eq_true, if_false]
    refine key Q (-R) ?_ (by omega) (by omega)
    have : y = -D := by omega
    rw [this, Int.mul_neg]; omega
  · simp only [hx, hy, decide_true, decide_false, Bool.bne_false, if_true]
    have e : y = D := by omega
    split
    · refine key _ (D - R) ?_ (by omega) (by omega)
      rw [e, Int.sub_mul, Int.neg_mul]; omega
    · refine key _ 0 ?_ (by omega) (by omega)
      rw [e, Int.neg_mul]; omega
  · simp only [hx, hy, decide_true, decide_false, Bool.bne_true, Bool.not_false, if_true]
    have e : y = -D := by omega
    split
    · refine key _ (R - D) ?_ (by omega) (by omega)
      rw [e, Int.sub_mul, Int.mul_neg, Int.neg_mul]; omega
    · refine key _ 0 ?_ (by omega) (by omega)
      rw [e, Int.mul_neg, Int.neg_mul]; omega
  · simp only [hx, hy, decide_false, bne_self_eq_false, Bool.false_eq_true, if_false]
    refine key Q R ?_ (by omega) (by omega)
    have e : y = D := by omega
    rw [e]; omega

theorem rest_fmod (x y : Int) : x - (x.fdiv y) * y = x.fmod y := by
  have := Int.mul_fdiv_add_fmod x y
  rw [Int.mul_comm]; omega

theorem fmod_natAbs_le (x y : Int) (h : y ≠ 0) : (x.fmod y).natAbs ≤ y.natAbs := by
  rcases Int.lt_or_gt_of_ne h with h | h
  · have h1 := Int.fmod_nonneg_of_pos (-x) (b := -y) (by omega)
    have h2 := Int.fmod_lt_of_pos (-x) (b := -y) (by omega)
    rw [Int.neg_fmod_neg] at h1 h2
    omega
  · have h1 := Int.fmod_nonneg_of_pos x h
    have h2 := Int.fmod_lt_of_pos x h
    omega

theorem NumC.far {w : World} {neg : Bool} {a : Option Addr} {n cap : Nat} {z : Int} {N : Nat} (h : NumC w neg a n cap z) (hf : Fresh N a) {p : Addr} (hp : p.block < N) (v : Value) : NumC (w.setCell p v) neg a n cap z := by
  obtain ⟨xs, ⟨h1, h2, h3, h4⟩, h5⟩ := h
  refine ⟨xs, ⟨h1, h2, h3, ?_⟩, h5⟩
  rcases h4 with h4 | ⟨b, off, e, hlt, hc⟩
  · exact .inl h4
  · refine .inr ⟨b, off, e, by simpa [World.setCell] using hlt, fun i hi => ?_⟩
    rw [World.cell?_setCell_other]
    · exact hc i hi
    · intro e2
      have h6 := hf _ e
      have : p.block = b := by rw [e2]
      simp at h6; omega

/-- the number of a list with one more digit ahead -/
theorem V_cons {B : Int} {d : Int} : ∀ (ys : List Int), V B (d :: ys) = d + B * V B ys := by
  intro ys
  have key : ∀ n, vf B (fun i => (d :: ys).getD i 0) (n + 1) = d + B * vf B (fun i => ys.getD i 0) n := by
    intro n
    induction n with
    | zero => simp [vf]
    | succ n ih =>
      show vf B _ (n + 1) + (d :: ys).getD (n + 1) 0 * B ^ (n + 1) = d + B * (vf B _ n + ys.getD n 0 * B ^ n)
      rw [ih, Int.mul_add, List.getD_cons_succ, Int.pow_succ, Int.mul_comm B (ys.getD n 0 * B ^ n), Int.mul_assoc]; omega
  show vf B _ (ys.length + 1) = _
  rw [key]; rfl
theorem Dig.cons {B : Int} {xs : List Int} {d : Int} (h : Dig B xs) (h1 : 0 ≤ d) (h2 : d < B) : Dig B (d :: xs) := by
  intro x hx
  rcases List.mem_cons.1 hx with hx | hx
  · rw [hx]; exact ⟨h1, h2⟩
  · exact h x hx

def RetDiv (w : World) (x y : Int) (e : Ending) (w' : World) : Prop :=
  ∃ n1 a1 l1 c1 n2 a2 l2 c2, e = .returned (.tuple #[.agg #[.bool n1, .slice a1 l1 c1], .agg #[.bool n2, .slice a2 l2 c2]]) ∧ NumC w' n1 a1 l1 c1 x ∧ NumC w' n2 a2 l2 c2 y ∧ Below w.heap.size w w'

/-- what Div's boxes hold between two rounds -/
structure DivAt (w0 wr : World) (s : Nat) (b : Option Addr) (m d : Nat) (rn : Bool) (ra : Option Addr) (rl rc : Nat) (qs : List Int) (R : Int) : Prop where
  r0 : wr.cell? ⟨s + 1 + 1 + 1 + 1 + 1, 0, none⟩ = some (.bool rn)
  r1 : wr.cell? ⟨s + 1 + 1 + 1 + 1 + 1, 1, none⟩ = some (.slice ra rl rc)
  rf : ∀ o, wr.frozen? ⟨s + 1 + 1 + 1 + 1 + 1, o, none⟩ = false
  d0 : wr.cell? ⟨s + 1 + 1 + 1 + 1 + 1 + 1, 0, none⟩ = some (.bool false)
  d1 : wr.cell? ⟨s + 1 + 1 + 1 + 1 + 1 + 1, 1, none⟩ = some (.slice b m d)
  q : Arr .i64 3 wr (s + 1 + 1 + 1 + 1) qs
  n : NumC wr rn ra rl rc R
  fr : Fresh (s + 1 + 1 + 1 + 1 + 1) ra
  bel : Below (s + 1 + 1 + 1 + 1) w0 wr
  sz : s + 1 + 1 + 1 + 1 + 1 + 1 + 1 ≤ wr.heap.size

theorem DivAt.below {w0 wr w' : World} {s : Nat} {b : Option Addr} {m d : Nat} {rn : Bool} {ra : Option Addr} {rl rc : Nat} {qs : List Int} {R : Int} (h : DivAt w0 wr s b m d rn ra rl rc qs R) (hb : Below wr.heap.size wr w') : DivAt w0 w' s b m d rn ra rl rc qs R := by
  have hs := h.sz
  exact ⟨by rw [hb.cell (p := ⟨_, 0, none⟩) (by simp; omega)]; exact h.r0, by rw [hb.cell (p := ⟨_, 1, none⟩) (by simp; omega)]; exact h.r1, fun o => by rw [hb.frozen (p := ⟨_, o, none⟩) (by simp; omega)]; exact h.rf o,
    by rw [hb.cell (p := ⟨_, 0, none⟩) (by simp; omega)]; exact h.d0, by rw [hb.cell (p := ⟨_, 1, none⟩) (by simp; omega)]; exact h.d1, h.q.below hb (by omega), h.n.below hb (Nat.le_refl _), h.fr, h.bel.trans (hb.mono (by omega)), by have := hb.size; omega⟩
theorem DivAt.drew {w0 wr : World} {s : Nat} {b : Option Addr} {m d : Nat} {rn : Bool} {ra : Option Addr} {rl rc : Nat} {qs : List Int} {R : Int} (h : DivAt w0 wr s b m d rn ra rl rc qs R) : DivAt w0 wr.drew s b m d rn ra rl rc qs R :=
  h.below (Below.refl _ _).drew
/-- a new number is laid into r -/
theorem DivAt.setR {w0 wr : World} {s : Nat} {b : Option Addr} {m d : Nat} {rn : Bool} {ra : Option Addr} {rl rc : Nat} {qs : List Int} {R R' : Int} {n' : Bool} {a' : Option Addr} {l' c' : Nat} (h : DivAt w0 wr s b m d rn ra rl rc qs R) (hn : NumC wr n' a' l' c' R') (hf : Fresh (s + 1 + 1 + 1 + 1 + 1) a') :
    DivAt w0 ((wr.setCell ⟨s + 1 + 1 + 1 + 1 + 1, 0, none⟩ (.bool n')).setCell ⟨s + 1 + 1 + 1 + 1 + 1, 1, none⟩ (.slice a' l' c')) s b m d n' a' l' c' qs R' := by
  have h0 := h.r0
  have h1 := h.r1
  refine ⟨by simp [go_sem, h0], by simp [go_sem, h1], fun o => by simp [go_sem, h.rf], by simp [go_sem, h.d0], by simp [go_sem, h.d1], (h.q.far (by simp) _).far (by simp) _, ?_, hf, (h.bel.setCell (by simp) _).setCell (by simp) _, by have := h.sz; simpa using this⟩
  refine (hn.set h0 (fun _ e => by cases e) _).set (u := .slice ra rl rc) ?_ (fun _ e => by cases e) _
  rw [World.cell?_setCell_other _ _ _ _ (by simp)]
  exact h1
/-- a digit of the quotient is laid down -/
theorem DivAt.setQ {w0 wr : World} {s : Nat} {b : Option Addr} {m d : Nat} {rn : Bool} {ra : Option Addr} {rl rc : Nat} {qs : List Int} {R : Int} (h : DivAt w0 wr s b m d rn ra rl rc qs R) (i : Nat) (z : Int) :
    DivAt w0 (wr.setCell ⟨s + 1 + 1 + 1 + 1, i, none⟩ (.int .i64 z)) s b m d rn ra rl rc (qs.set i z) R := by
  refine ⟨by rw [World.cell?_setCell_other _ _ _ _ (by simp)]; exact h.r0, by rw [World.cell?_setCell_other _ _ _ _ (by simp)]; exact h.r1, fun o => ?_, by rw [World.cell?_setCell_other _ _ _ _ (by simp)]; exact h.d0, by rw [World.cell?_setCell_other _ _ _ _ (by simp)]; exact h.d1,
    h.q.set i z, h.n.far h.fr (by simp) _, h.fr, h.bel.setCell (by simp) _, by have := h.sz; simpa using this⟩
  have := h.rf o
  rw [← this]
  exact World.frozen?_of_block (w := wr) (Below.heap_setCell _ _ _ _ (by simp))


theorem OwnK.one (k : IntKind) (w : World) (e : TypeId) (d : Int) : OwnK k (w.alloc (.cells #[.int k d] e)) w.heap.size e (.slice (some ⟨w.heap.size, 0, none⟩) 1 1) 1 [d] := by
  refine ⟨rfl, .inr ⟨w.heap.size, 1, #[.int k d], rfl, Nat.le_refl _, heap_alloc_new w _, Nat.le_refl _, by unfold maxLen; omega, rfl, rfl⟩⟩
theorem RowK.none {k : IntKind} {w : World} {n c : Nat} {xs : List Int} (h : RowK k w none n c xs) : n = 0 ∧ c = 0 := by
  rcases h.2.2.2 with h0 | ⟨b, off, e, _⟩
  · exact ⟨by have := h.2.1; omega, h0⟩
  · cases e
theorem RowK.none' {k : IntKind} {w : World} {a : Option Addr} {n c : Nat} {xs : List Int} (h : RowK k w a n c xs) : a = Option.none → n = 0 ∧ c = 0 := fun e => by subst e; exact h.none

theorem Frz {w : World} {q o : Nat} {ob : Obj} (h : q < w.heap.size) : (w.alloc ob).frozen? ⟨q, o, none⟩ = w.frozen? ⟨q, o, none⟩ :=
  World.frozen?_of_block (w := w) (Below.heap_alloc _ _ _ h)
theorem NumC.set2 {w : World} {neg : Bool} {a : Option Addr} {n cap : Nat} {z : Int} {B : Nat} {u : Bool} {p : Option Addr} {q r : Nat} (h : NumC w neg a n cap z) (h0 : w.cell? ⟨B, 0, none⟩ = some (.bool u)) (h1 : w.cell? ⟨B, 1, none⟩ = some (.slice p q r)) (u' : Bool) (p' : Option Addr) (q' r' : Nat) :
    NumC ((w.setCell ⟨B, 0, none⟩ (.bool u')).setCell ⟨B, 1, none⟩ (.slice p' q' r')) neg a n cap z :=
  (h.set h0 (fun _ e => by cases e) _).set (u := .slice p q r) (by rw [World.cell?_setCell_other _ _ _ _ (by simp)]; exact h1) (fun _ e => by cases e) _

theorem divstep {xs qs : List Int} {D R : Int} {i : Nat} (h : V 1000 xs = vf 1000 (fun j => xs.getD j 0) (i + 1) + V 1000 qs * D + R * 1000 ^ (i + 1)) :
    V 1000 xs = vf 1000 (fun j => xs.getD j 0) i + V 1000 qs * D + (xs.getD i 0 + 1000 * R) * 1000 ^ i := by
  have e : vf 1000 (fun j => xs.getD j 0) (i + 1) = vf 1000 (fun j => xs.getD j 0) i + xs.getD i 0 * 1000 ^ i := rfl
  rw [h, e, Int.pow_succ, Int.add_mul, Int.mul_comm (1000 ^ i) 1000, ← Int.mul_assoc, Int.mul_comm R 1000]
  omega
theorem divset {xs qs : List Int} {D R lo : Int} {i : Nat} (hi : i < qs.length) (h0 : qs.getD i 0 = 0) (h : V 1000 xs = vf 1000 (fun j => xs.getD j 0) i + V 1000 qs * D + R * 1000 ^ i) :
    V 1000 xs = vf 1000 (fun j => xs.getD j 0) i + V 1000 (qs.set i lo) * D + (R - lo * D) * 1000 ^ i := by
  rw [V_set hi, h0, Int.sub_zero, Int.add_mul, Int.sub_mul, h, Int.mul_assoc lo, Int.mul_comm (1000 ^ i) D, ← Int.mul_assoc]
  omega

set_option maxHeartbeats 4000000 in
set_option maxRecDepth 100000 in
theorem div_any (na nb : Bool) (a b : Option Addr) (n c m d : Nat) (x y : Int) (w : World) (hx : NumC w na a n c x) (hy : NumC w nb b m d y) (hy0 : y ≠ 0) (fs : Fit ((x.natAbs : Int) + 1000 * (y.natAbs : Int) + 1000)) :
    Calls Tryz.prog 82 #[.agg #[.bool na, .slice a n c], .agg #[.bool nb, .slice b m d]] w (RetDiv w (x.fdiv y) (x.fmod y)) := by
  have fx : Fit x := fs.mono (by omega)
  have fy : Fit y := fs.mono (by omega)
  have hn := hx.len fx
  have hm := hy.len fy
  have SX := Lib.hid hx.sign
  have SY := Lib.hid hy.sign
  have HX := Lib.hid hx
  have HY := Lib.hid hy
  obtain ⟨xs, hr, hd, ht, hz, hg⟩ := hx
  obtain ⟨ys, kr, kd, kt, kz, kg⟩ := hy
  have hA : V 1000 xs = x.natAbs := by
    have := (V_bd (B := 1000) (by decide) hd).1
    rw [hz]; split <;> omega
  have hD : V 1000 ys = y.natAbs := by
    have := (V_bd (B := 1000) (by decide) kd).1
    rw [kz]; split <;> omega
  obtain ⟨D, hDD⟩ : ∃ D, V 1000 ys = D := ⟨_, rfl⟩
  have hD0 : 0 < D := by omega
  have hYD : NumC w false b m d D := ⟨ys, kr, kd, kt, by simp [hDD], fun h => by cases h⟩
  have HYD := Lib.hid hYD
  have HR := Lib.hid hr
  have HD := Lib.hid hd
  have HA := Lib.hid hA
  have hDy : D = y.natAbs := by rw [← hDD]; exact hD
  have HDy := Lib.hid hDy
  have FS := Lib.hid fs
  have HL := Lib.hid hr.1
  have hn1 : (n : Int) ≤ 1000000 := by omega
  clear hr hd ht hz hg kr kd kt kz kg hA hD hDD hYD hDy fs fx fy
  go_enter Tryz.func82, Tryz.ntmps82
  go_wp2_with (at_make; refine make_arr .i64 30 3 8 info_int (by decide) Tryz.underlying30 rfl _ _ rfl .i64 .i64 _ _ n _ rfl rfl (by omega) (by omega) (by omega) ?_)
  intro w0 harr hb0 hs0
  have a0 : w0.cell? ⟨w.heap.size, 0, none⟩ = some (.bool na) := by rw [(bcell hb0).1 _ _ (by omega)]; simp [go_sem]
  have a1 : w0.cell? ⟨w.heap.size, 1, none⟩ = some (.slice a n c) := by rw [(bcell hb0).1 _ _ (by omega)]; simp [go_sem]
  have b0 : w0.cell? ⟨w.heap.size + 1, 0, none⟩ = some (.bool nb) := by rw [(bcell hb0).1 _ _ (by omega)]; simp [go_sem]
  have b1 : w0.cell? ⟨w.heap.size + 1, 1, none⟩ = some (.slice b m d) := by rw [(bcell hb0).1 _ _ (by omega)]; simp [go_sem]
  have p0 : w0.cell? ⟨w.heap.size + 1 + 1, 0, none⟩ = some (.bool false) := by rw [(bcell hb0).1 _ _ (by omega)]; simp [go_sem]
  have p1 : w0.cell? ⟨w.heap.size + 1 + 1, 1, none⟩ = some (.slice none 0 0) := by rw [(bcell hb0).1 _ _ (by omega)]; simp [go_sem]
  have t0 : w0.cell? ⟨w.heap.size + 1 + 1 + 1, 0, none⟩ = some (.bool false) := by rw [(bcell hb0).1 _ _ (by omega)]; simp [go_sem]
  have t1 : w0.cell? ⟨w.heap.size + 1 + 1 + 1, 1, none⟩ = some (.slice none 0 0) := by rw [(bcell hb0).1 _ _ (by omega)]; simp [go_sem]
  have pf : ∀ o, w0.frozen? ⟨w.heap.size + 1 + 1, o, none⟩ = false := fun o => by rw [(bcell hb0).2 _ _ (by omega)]; simp [go_sem]
  have tf : ∀ o, w0.frozen? ⟨w.heap.size + 1 + 1 + 1, o, none⟩ = false := fun o => by rw [(bcell hb0).2 _ _ (by omega)]; simp [go_sem]
  have hbW : Below w.heap.size w w0 := ((((Below.refl _ _).alloc (Nat.le_refl _) _).alloc (by simp) _).alloc (by simp; omega) _).alloc (by simp; omega) _ |>.trans (hb0.mono (by omega))
  have HBW := Lib.hid hbW
  have HARR := Lib.hid harr
  clear hb0 harr hbW
  go_wp2_with fail
  go_loopg [9] n (fun k u wr => ∃ (rn : Bool) (ra : Option Addr) (rl rc : Nat) (qs : List Int) (R : Int), u = .int .i64 ((k : Int) - 1) ∧ k ≤ n ∧ DivAt w0 wr w.heap.size b m d rn ra rl rc qs R ∧ qs.length = n ∧ Dig 1000 qs ∧ (∀ j, j < k → qs.getD j 0 = 0) ∧
    0 ≤ R ∧ R < D ∧ V 1000 xs = vf 1000 (fun j => xs.getD j 0) k + V 1000 qs * D + R * 1000 ^ k)
  case atStart =>
    refine ⟨false, none, 0, 0, List.replicate n 0, 0, rfl, Nat.le_refl _, ⟨by simp [go_sem, hs0], by simp [go_sem, hs0], fun o => by simp [go_sem, hs0], by simp [go_sem, hs0], by simp [go_sem, hs0], ?_, ⟨[], RowK.nil, Dig.nil, .inl rfl, rfl, fun h => by cases h⟩, Fresh.nil, ?_, by simp [hs0]⟩, by simp, Dig.replicate (by decide) _, fun j _ => getD_replicate _ _, Int.le_refl _, hD0, ?_⟩
    · exact (HARR.out.below ((Below.refl _ _).alloc (Nat.le_refl _) _) (by omega)).below ((Below.refl _ _).alloc (Nat.le_refl _) _) (by simp; omega)
    · exact ((Below.refl _ _).alloc (by omega) _).alloc (by simp; omega) _
    · rw [V_replicate, vf_ext (by rw [HL.out]; exact Nat.le_refl _)]; simp
  case round =>
    obtain ⟨rn, ra, rl, rc, qs, R, rfl, hk, hdv, hql, hqd, hq0, hR0, hR1, hv⟩ := hrel
    have HK := Lib.hid hk
    have HDV := Lib.hid hdv
    have HQL := Lib.hid hql
    have HQD := Lib.hid hqd
    have HQ0 := Lib.hid hq0
    have HV := Lib.hid hv
    have hsz := hdv.sz
    have hbel := hdv.bel
    have q0 : w.heap.size < w.heap.size + 1 + 1 + 1 + 1 := by omega
    have f5 := hdv.rf
    have c5 := hdv.r1
    have c50 := hdv.r0
    have c60 := hdv.d0
    have c61 := hdv.d1
    have e1 : wr.cell? ⟨w.heap.size, 1, none⟩ = some (.slice a n c) := by rw [hbel.cell (p := ⟨_, 1, none⟩) (by dsimp only; omega)]; exact a1
    clear hdv hql hqd hq0 hv hk
    by_cases h0 : gk = 0
    · subst h0
      have hfull := HDV.out.q.full (by rw [HQL.out]; omega)
      rw [HQL.out] at hfull
      obtain ⟨z1, hz1⟩ : ∃ z1, (if (na != nb) then -V 1000 qs else V 1000 qs) = z1 := ⟨_, rfl⟩
      have hM := Lib.hid (made_any (na != nb) _ _ _ qs z1 wr hz1 hfull HQD.out)
      have e0 : wr.cell? ⟨w.heap.size, 0, none⟩ = some (.bool na) := by rw [hbel.cell (p := ⟨_, 0, none⟩) (by dsimp only; omega)]; exact a0
      have g0 : wr.cell? ⟨w.heap.size + 1, 0, none⟩ = some (.bool nb) := by rw [hbel.cell (p := ⟨_, 0, none⟩) (by dsimp only; omega)]; exact b0
      have g1 : wr.cell? ⟨w.heap.size + 1, 1, none⟩ = some (.slice b m d) := by rw [hbel.cell (p := ⟨_, 1, none⟩) (by dsimp only; omega)]; exact b1
      have hQ : (x.natAbs : Int) = V 1000 qs * D + R := by rw [← HA.out, HV.out, Int.pow_zero]; simp [vf]
      have hqn : 0 ≤ V 1000 qs := (V_bd (B := 1000) (by decide) HQD.out).1
      have hfin := div_fin x y (V 1000 qs) R _ D rfl HDy.out hD0 hQ hR0 hR1
      rw [← SX.out, ← SY.out] at hfin
      have hql : V 1000 qs ≤ x.natAbs := by
        have h1 := Int.mul_le_mul_of_nonneg_left (a := 1) (b := D) (c := V 1000 qs) (by omega) hqn
        omega
      obtain ⟨rds, hrr, hrd, hrt, hrz, hrg⟩ := HDV.out.n
      have hrv : V 1000 rds = R := by
        have := (V_bd (B := 1000) (by decide) hrd).1
        cases rn
        · simpa using hrz.symm
        · have := hrg rfl; simp at hrz; omega
      have hrl : (0 < rl) ↔ 0 < R := by
        rw [← hrv, V_pos (by decide) hrd hrt, ← hrr.1]
        exact List.length_pos_iff
      have hrl2 : rl ≤ 1000000 := HDV.out.n.len (FS.out.mono (by have := HDy.out; omega))
      have HFIN := Lib.hid hfin
      have HZ1 := Lib.hid hz1
      have HRL := Lib.hid hrl
      have FZ1 := Lib.hid (FS.out.mono (y := (x.natAbs : Int) + 1000 * (y.natAbs : Int) + 1000) (z := z1) (by rw [← hz1]; split <;> omega))
      have hq2 : x - x.fdiv y * y = x.fmod y := rest_fmod x y
      have hfm := fmod_natAbs_le x y hy0
      have hfd : (x.fdiv y).natAbs ≤ x.natAbs + 1 := by
        rw [← hfin]; split
        · split <;> omega
        · omega
      have FX := Lib.hid (FS.out.mono (y := (x.natAbs : Int) + 1000 * (y.natAbs : Int) + 1000) (z := x) (by omega))
      have FY := Lib.hid (FS.out.mono (y := (x.natAbs : Int) + 1000 * (y.natAbs : Int) + 1000) (z := y) (by omega))
      have FD := Lib.hid (FS.out.mono (y := (x.natAbs : Int) + 1000 * (y.natAbs : Int) + 1000) (z := x.fdiv y) (by omega))
      have FP := Lib.hid (FS.out.mono (y := (x.natAbs : Int) + 1000 * (y.natAbs : Int) + 1000) (z := x.fdiv y * y) (by have : x.fdiv y * y = x - x.fmod y := (by omega); rw [this]; omega))
      have HQ2 := Lib.hid hq2
      have HNE : Hid (¬ y = 0) := Lib.hid hy0
      clear hfull hz1 hQ hqn hfin hql hrr hrd hrt hrz hrg hrv hrl hq2 hfm hfd hy0
      go_wp2_with fail
      refine hM.out.mono ?_; rintro e w4 ⟨n4, a4, l4, c4, rfl, hN4, hb4, hf4⟩
      have HN4 := Lib.hid hN4
      have HDW := Lib.hid (HDV.out.below hb4)
      have k5 : w4.cell? ⟨w.heap.size + 1 + 1 + 1 + 1 + 1, 1, none⟩ = some (.slice ra rl rc) := HDW.out.r1
      have bel4 := HDW.out.bel
      have m0 : w4.cell? ⟨w.heap.size, 0, none⟩ = some (.bool na) := by rw [bel4.cell (p := ⟨_, 0, none⟩) (by dsimp only; omega)]; exact a0
      have m1 : w4.cell? ⟨w.heap.size, 1, none⟩ = some (.slice a n c) := by rw [bel4.cell (p := ⟨_, 1, none⟩) (by dsimp only; omega)]; exact a1
      have j0 : w4.cell? ⟨w.heap.size + 1, 0, none⟩ = some (.bool nb) := by rw [bel4.cell (p := ⟨_, 0, none⟩) (by dsimp only; omega)]; exact b0
      have j1 : w4.cell? ⟨w.heap.size + 1, 1, none⟩ = some (.slice b m d) := by rw [bel4.cell (p := ⟨_, 1, none⟩) (by dsimp only; omega)]; exact b1
      have o0 : w4.cell? ⟨w.heap.size + 1 + 1, 0, none⟩ = some (.bool false) := by rw [bel4.cell (p := ⟨_, 0, none⟩) (by dsimp only; omega)]; exact p0
      have o1 : w4.cell? ⟨w.heap.size + 1 + 1, 1, none⟩ = some (.slice none 0 0) := by rw [bel4.cell (p := ⟨_, 1, none⟩) (by dsimp only; omega)]; exact p1
      have u0 : w4.cell? ⟨w.heap.size + 1 + 1 + 1, 0, none⟩ = some (.bool false) := by rw [bel4.cell (p := ⟨_, 0, none⟩) (by dsimp only; omega)]; exact t0
      have u1 : w4.cell? ⟨w.heap.size + 1 + 1 + 1, 1, none⟩ = some (.slice none 0 0) := by rw [bel4.cell (p := ⟨_, 1, none⟩) (by dsimp only; omega)]; exact t1
      have of : ∀ o, w4.frozen? ⟨w.heap.size + 1 + 1, o, none⟩ = false := fun o => by rw [bel4.frozen (p := ⟨_, o, none⟩) (by dsimp only; omega)]; exact pf o
      have uf : ∀ o, w4.frozen? ⟨w.heap.size + 1 + 1 + 1, o, none⟩ = false := fun o => by rw [bel4.frozen (p := ⟨_, o, none⟩) (by dsimp only; omega)]; exact tf o
      have hsz4 := HDW.out.sz
      have HBV := Lib.hid (HBW.out.trans (bel4.mono (by omega)))
      clear hN4 hb4 hf4 bel4 e0 e1 g0 g1 a0 a1 b0 b1 p0 p1 t0 t1 pf tf f5 c5 c50 c60 c61 hbel hsz HDV HARR
      have al : ∀ p u o, w4.cell? p = some u → (w4.alloc o).cell? p = some u := fun p u o h => by rw [World.cell?_alloc_some _ _ _ (by rw [h]; rfl)]; exact h
      obtain ⟨wv, hwv⟩ : ∃ wv, wv = w4.alloc (.cells #[.bool n4, .slice a4 l4 c4] 61) := ⟨_, rfl⟩
      have k5' : (w4.alloc (.cells #[.bool n4, .slice a4 l4 c4] 61)).cell? ⟨w.heap.size + 1 + 1 + 1 + 1 + 1, 1, none⟩ = some (.slice ra rl rc) := al _ _ _ k5
      have m0' : (w4.alloc (.cells #[.bool n4, .slice a4 l4 c4] 61)).cell? ⟨w.heap.size, 0, none⟩ = some (.bool na) := al _ _ _ m0
      have j0' : (w4.alloc (.cells #[.bool n4, .slice a4 l4 c4] 61)).cell? ⟨w.heap.size + 1, 0, none⟩ = some (.bool nb) := al _ _ _ j0
      have AL := Lib.hid al
      have M0 := Lib.hid m0
      have M1 := Lib.hid m1
      have J0 := Lib.hid j0
      have J1 := Lib.hid j1
      have O0 := Lib.hid o0
      have O1 := Lib.hid o1
      have U0 := Lib.hid u0
      have U1 := Lib.hid u1
      have OF := Lib.hid of
      have UF := Lib.hid uf
      clear al m0 m1 j0 j1 o0 o1 u0 u1 of uf k5
      by_cases hneq : (na != nb) = true
      · have hneq2 : (!na == nb) = true := by simpa using hneq
        by_cases hrp : 0 < rl
        · have hrp2 : (0 : Int) < (rl : Int) := by omega
          go_wp2_with fail
          rw [← hwv]
          have fx0 : wv.cell? ⟨w4.heap.size, 0, none⟩ = some (.bool n4) := by rw [hwv]; simp [go_sem]
          have fx1 : wv.cell? ⟨w4.heap.size, 1, none⟩ = some (.slice a4 l4 c4) := by rw [hwv]; simp [go_sem]
          have fa0 : wv.cell? ⟨w.heap.size, 0, none⟩ = some (.bool na) := by rw [hwv]; exact AL.out _ _ _ M0.out
          have fa1 : wv.cell? ⟨w.heap.size, 1, none⟩ = some (.slice a n c) := by rw [hwv]; exact AL.out _ _ _ M1.out
          have fb0 : wv.cell? ⟨w.heap.size + 1, 0, none⟩ = some (.bool nb) := by rw [hwv]; exact AL.out _ _ _ J0.out
          have fb1 : wv.cell? ⟨w.heap.size + 1, 1, none⟩ = some (.slice b m d) := by rw [hwv]; exact AL.out _ _ _ J1.out
          have fp0 : wv.cell? ⟨w.heap.size + 1 + 1, 0, none⟩ = some (.bool false) := by rw [hwv]; exact AL.out _ _ _ O0.out
          have fp1 : wv.cell? ⟨w.heap.size + 1 + 1, 1, none⟩ = some (.slice none 0 0) := by rw [hwv]; exact AL.out _ _ _ O1.out
          have ft0 : wv.cell? ⟨w.heap.size + 1 + 1 + 1, 0, none⟩ = some (.bool false) := by rw [hwv]; exact AL.out _ _ _ U0.out
          have ft1 : wv.cell? ⟨w.heap.size + 1 + 1 + 1, 1, none⟩ = some (.slice none 0 0) := by rw [hwv]; exact AL.out _ _ _ U1.out
          have fpf : ∀ o, wv.frozen? ⟨w.heap.size + 1 + 1, o, none⟩ = false := fun o => by rw [hwv]; rw [Frz (by omega)]; exact OF.out o
          have ftf : ∀ o, wv.frozen? ⟨w.heap.size + 1 + 1 + 1, o, none⟩ = false := fun o => by rw [hwv]; rw [Frz (by omega)]; exact UF.out o
          have HBVV : Hid (Below w.heap.size w wv) := by rw [hwv]; exact HBV.out.alloc (by omega) _
          have HNV : NumC wv n4 a4 l4 c4 z1 := by rw [hwv]; exact HN4.out.below ((Below.refl _ _).alloc (Nat.le_refl _) _) (Nat.le_refl _)
          have hXV : w4.heap.size < wv.heap.size := by rw [hwv]; simp
          have fxf : ∀ o, wv.frozen? ⟨w4.heap.size, o, none⟩ = false := fun o => by rw [hwv]; simp [go_sem]
          clear hwv k5' m0' j0'
          have hbA : Below wv.heap.size wv wv.drew := (Below.refl _ _).drew
          refine wp_regionL (fun w' => w'.cell? ⟨w4.heap.size, 0, none⟩ = some (.bool n4) ∧ w'.cell? ⟨w4.heap.size, 1, none⟩ = some (.slice a4 l4 c4)) 3 (by kernel_rfl) (by go_keep) (fun hHeld => ?_)
          refine wpAnyL_take (i := 0) (oi := ⟨some 92, _, _, _, _, _⟩) (v := ?_) rfl (by kernel_rfl) (by kernel_rfl) (by kernel_rfl) (by kernel_rfl) (by kernel_rfl) (fun _ _ _ h => h) (Or.inl ⟨by rfl, ?_⟩) (by assumption) ?_
          rotate_left 1
          · (intro w hSw; (try dsimp only at hSw); go_simp; try with_reducible rfl)
          try simp only [Act.put, List.setIfInBounds_toArray, List.set_cons_zero, List.set_cons_succ]
          refine wpAnyL_one (i := 1) (o := ⟨some 93, _, _, _, _, _⟩) (by kernel_rfl) rfl (fun K hK => ?_)
          go_simp
          refine (nat_any 1 _ (by omega) (by omega)).mono ?_; rintro e w5 ⟨n5, a5, l5, c5, rfl, hN5, hb5, hf5⟩; replace hbA := hbA.trans (hb5.mono (Nat.le_trans (by simp) hbA.size)); have qX : w4.heap.size < wv.heap.size := (by omega); obtain ⟨bc5, bf5⟩ := bcell hbA
          refine hK.out _ _ (by go_keep) ?_
          clear hK K hHeld
          intro hHeld
          try simp only [Act.put, List.setIfInBounds_toArray, List.set_cons_zero, List.set_cons_succ]
          refine wpAnyL_one (i := 2) (o := ⟨some 94, _, _, _, _, _⟩) (by kernel_rfl) rfl (fun K hK => ?_)
          go_simp
          refine (sub_any _ _ _ _ _ _ _ _ z1 1 _ (by exact HNV.below hbA (Nat.le_refl _)) hN5 FZ1.out (by exact Fit.i64 (by omega) (by omega))).mono ?_; rintro e w6 ⟨n6, a6, l6, c6, rfl, hN6, hb6, hf6⟩; clear bc5 bf5; replace hbA := hbA.trans (hb6.mono (Nat.le_trans (by simp) hbA.size)); obtain ⟨bc6, bf6⟩ := bcell hbA
          refine hK.out _ _ (by go_keep) ?_
          clear hK K hHeld
          intro hHeld
          try simp only [Act.put, List.setIfInBounds_toArray, List.set_cons_zero, List.set_cons_succ]
          refine wpAnyL_last (o := ⟨none, _, _, _, _, _⟩) (by kernel_rfl) (by kernel_rfl) rfl (fun K hK => ?_)
          go_simp
          refine hK _ _ ?_
          clear hK K hHeld
          try simp only [Act.put, List.setIfInBounds_toArray, List.set_cons_zero, List.set_cons_succ]
          have hz6 : wv.heap.size ≤ w6.heap.size := hbA.size
          have hN7 := NumC.set2 hN6 (B := w4.heap.size) (by rw [hbA.cell (p := ⟨_, 0, none⟩) (by dsimp only; omega)]; exact fx0) (by rw [hbA.cell (p := ⟨_, 1, none⟩) (by dsimp only; omega)]; exact fx1) n6 a6 l6 c6
          have hzz : z1 - 1 = x.fdiv y := by have h1 := HFIN.out; have h2 := HZ1.out; have h3 := HRL.out; rw [if_pos hneq] at h1 h2; rw [if_pos (by omega)] at h1; omega
          rw [hzz] at hN7
          have far : ∀ (q o : Nat) (u : Value), q < w4.heap.size → wv.cell? ⟨q, o, none⟩ = some u → ((w6.setCell ⟨w4.heap.size, 0, none⟩ (.bool n6)).setCell ⟨w4.heap.size, 1, none⟩ (.slice a6 l6 c6)).cell? ⟨q, o, none⟩ = some u := fun q o u hq h => by
            rw [World.cell?_setCell_far _ _ _ _ (by dsimp only; omega), World.cell?_setCell_far _ _ _ _ (by dsimp only; omega), hbA.cell (p := ⟨q, o, none⟩) (by dsimp only; omega)]; exact h
          have farf : ∀ (q o : Nat), q < w4.heap.size → wv.frozen? ⟨q, o, none⟩ = false → ((w6.setCell ⟨w4.heap.size, 0, none⟩ (.bool n6)).setCell ⟨w4.heap.size, 1, none⟩ (.slice a6 l6 c6)).frozen? ⟨q, o, none⟩ = false := fun q o hq h => by
            rw [← h, ← hbA.frozen (p := ⟨q, o, none⟩) (by dsimp only; omega)]
            refine World.frozen?_of_block (w := w6) ?_
            rw [Below.heap_setCell _ _ _ _ (by dsimp only; omega), Below.heap_setCell _ _ _ _ (by dsimp only; omega)]
          have gx0 : ((w6.setCell ⟨w4.heap.size, 0, none⟩ (.bool n6)).setCell ⟨w4.heap.size, 1, none⟩ (.slice a6 l6 c6)).cell? ⟨w4.heap.size, 0, none⟩ = some (.bool n6) := by simp [go_sem, hbA.cell (p := ⟨w4.heap.size, 0, none⟩) (show w4.heap.size < wv.heap.size by omega), fx0]
          have gx1 : ((w6.setCell ⟨w4.heap.size, 0, none⟩ (.bool n6)).setCell ⟨w4.heap.size, 1, none⟩ (.slice a6 l6 c6)).cell? ⟨w4.heap.size, 1, none⟩ = some (.slice a6 l6 c6) := by simp [go_sem, hbA.cell (p := ⟨w4.heap.size, 1, none⟩) (show w4.heap.size < wv.heap.size by omega), fx1]
          have ga0 := far _ _ _ (by omega) fa0
          have ga1 := far _ _ _ (by omega) fa1
          have gb0 := far _ _ _ (by omega) fb0
          have gb1 := far _ _ _ (by omega) fb1
          have gp0 := far _ _ _ (by omega) fp0
          have gp1 := far _ _ _ (by omega) fp1
          have gt0 := far _ _ _ (by omega) ft0
          have gt1 := far _ _ _ (by omega) ft1
          have gpf : ∀ o, ((w6.setCell ⟨w4.heap.size, 0, none⟩ (.bool n6)).setCell ⟨w4.heap.size, 1, none⟩ (.slice a6 l6 c6)).frozen? ⟨w.heap.size + 1 + 1, o, none⟩ = false := fun o => farf _ o (by omega) (fpf o)
          have gtf : ∀ o, ((w6.setCell ⟨w4.heap.size, 0, none⟩ (.bool n6)).setCell ⟨w4.heap.size, 1, none⟩ (.slice a6 l6 c6)).frozen? ⟨w.heap.size + 1 + 1 + 1, o, none⟩ = false := fun o => farf _ o (by omega) (ftf o)
          have hBU := ((HBVV.out.trans (hbA.mono (by omega))).setCell (p := ⟨w4.heap.size, 0, none⟩) (by dsimp only; omega) (.bool n6)).setCell (p := ⟨w4.heap.size, 1, none⟩) (by dsimp only; omega) (.slice a6 l6 c6)
          have hzU : ((w6.setCell ⟨w4.heap.size, 0, none⟩ (.bool n6)).setCell ⟨w4.heap.size, 1, none⟩ (.slice a6 l6 c6)).heap.size = w6.heap.size := by simp
          clear far farf fx0 fx1 fa0 fa1 fb0 fb1 fp0 fp1 ft0 ft1 fpf ftf fxf
          generalize ((w6.setCell ⟨w4.heap.size, 0, none⟩ (.bool n6)).setCell ⟨w4.heap.size, 1, none⟩ (.slice a6 l6 c6)) = wu at *
          have hXU : w4.heap.size < wu.heap.size := by omega
          have HNX := Lib.hid hN7
          have HBU := Lib.hid hBU
          clear hN7 hBU hN6 hN5 hb5 hb6 hf5 hf6 hbA hzU hXV
          go_wp2_with fail
          have qX : w4.heap.size < wu.heap.size := by omega
          have q0' : w.heap.size < wu.heap.size := by omega
          have q1' : w.heap.size + 1 < wu.heap.size := by omega
          have q2' : w.heap.size + 1 + 1 < wu.heap.size := by omega
          have q3' : w.heap.size + 1 + 1 + 1 < wu.heap.size := by omega
          have r1 : ¬ (w.heap.size + 1 + 1 = w.heap.size) := by omega
          have r2 : ¬ (w.heap.size + 1 + 1 = w.heap.size + 1) := by omega
          have r3 : ¬ (w.heap.size + 1 + 1 = w4.heap.size) := by omega
          have hbA : Below wu.heap.size wu wu.drew := (Below.refl _ _).drew
          have HBX := HBU
          refine wp_regionL (fun w' => w'.cell? ⟨w4.heap.size, 0, none⟩ = some (.bool n6) ∧ w'.cell? ⟨w4.heap.size, 1, none⟩ = some (.slice a6 l6 c6) ∧ w'.cell? ⟨w.heap.size, 0, none⟩ = some (.bool na) ∧ w'.cell? ⟨w.heap.size, 1, none⟩ = some (.slice a n c) ∧ w'.cell? ⟨w.heap.size + 1, 0, none⟩ = some (.bool nb) ∧ w'.cell? ⟨w.heap.size + 1, 1, none⟩ = some (.slice b m d)) 7 (by kernel_rfl) (by go_keep) (fun hHeld => ?_)
          refine wpAnyL_take (i := 0) (oi := ⟨some 95, _, _, _, _, _⟩) (v := ?_) rfl (by kernel_rfl) (by kernel_rfl) (by kernel_rfl) (by kernel_rfl) (by kernel_rfl) (fun _ _ _ h => h) (Or.inl ⟨by rfl, ?_⟩) (by assumption) ?_
          rotate_left 1
          · (intro w hSw; (try dsimp only at hSw); go_simp; try with_reducible rfl)
          try simp only [Act.put, List.setIfInBounds_toArray, List.set_cons_zero, List.set_cons_succ]
          refine wpAnyL_take (i := 1) (oi := ⟨some 96, _, _, _, _, _⟩) (v := ?_) rfl (by kernel_rfl) (by kernel_rfl) (by kernel_rfl) (by kernel_rfl) (by kernel_rfl) (fun _ _ _ h => h) (Or.inl ⟨by rfl, ?_⟩) (by assumption) ?_
          rotate_left 1
          · (intro w hSw; (try dsimp only at hSw); go_simp; try with_reducible rfl)
          try simp only [Act.put, List.setIfInBounds_toArray, List.set_cons_zero, List.set_cons_succ]
          refine wpAnyL_take (i := 2) (oi := ⟨some 97, _, _, _, _, _⟩) (v := ?_) rfl (by kernel_rfl) (by kernel_rfl) (by kernel_rfl) (by kernel_rfl) (by kernel_rfl) (fun _ _ _ h => h) (Or.inl ⟨by rfl, ?_⟩) (by assumption) ?_
          rotate_left 1
          · (intro w hSw; (try dsimp only at hSw); go_simp; try with_reducible rfl)
          try simp only [Act.put, List.setIfInBounds_toArray, List.set_cons_zero, List.set_cons_succ]
          refine wpAnyL_take (i := 3) (oi := ⟨some 98, _, _, _, _, _⟩) (v := ?_) rfl (by kernel_rfl) (by kernel_rfl) (by kernel_rfl) (by kernel_rfl) (by kernel_rfl) (fun _ _ _ h => h) (Or.inl ⟨by rfl, ?_⟩) (by assumption) ?_
          rotate_left 1
          · (intro w hSw; (try dsimp only at hSw); go_simp; try with_reducible rfl)
          try simp only [Act.put, List.setIfInBounds_toArray, List.set_cons_zero, List.set_cons_succ]
          refine wpAnyL_one (i := 4) (o := ⟨some 99, _, _, _, _, _⟩) (by kernel_rfl) rfl (fun K hK => ?_)
          go_simp
          refine (mul_any _ _ _ _ _ _ _ _ (x.fdiv y) y _ (by exact HNX.out.below hbA (Nat.le_refl _)) (by exact HY.out.below (HBX.out.trans (hbA.mono (by omega))) (Nat.le_refl _)) FD.out FY.out).mono ?_; rintro e w8 ⟨n8, a8, l8, c8, rfl, hN8, hb8, hf8⟩; replace hbA := hbA.trans (hb8.mono (Nat.le_trans (by simp) hbA.size)); obtain ⟨bc8, bf8⟩ := bcell hbA
          refine hK.out _ _ (by go_keep) ?_
          clear hK K hHeld
          intro hHeld
          try simp only [Act.put, List.setIfInBounds_toArray, List.set_cons_zero, List.set_cons_succ]
          refine wpAnyL_one (i := 5) (o := ⟨some 100, _, _, _, _, _⟩) (by kernel_rfl) rfl (fun K hK => ?_)
          go_simp
          refine (sub_any _ _ _ _ _ _ _ _ x _ _ (by exact HX.out.below (HBX.out.trans (hbA.mono (by omega))) (Nat.le_refl _)) hN8 FX.out FP.out).mono ?_; rintro e w9 ⟨n9, a9, l9, c9, rfl, hN9, hb9, hf9⟩; clear bc8 bf8; replace hbA := hbA.trans (hb9.mono (Nat.le_trans (by simp) hbA.size)); obtain ⟨bc9, bf9⟩ := bcell hbA
          refine hK.out _ _ (by go_keep) ?_
          clear hK K hHeld
          intro hHeld
          try simp only [Act.put, List.setIfInBounds_toArray, List.set_cons_zero, List.set_cons_succ]
          refine wpAnyL_one (i := 6) (o := ⟨none, _, _, _, _, _⟩) (by kernel_rfl) rfl (fun K hK => ?_)
          go_simp
          refine hK.out _ _ (by go_keep) ?_
          clear hK K hHeld
          intro hHeld
          try simp only [Act.put, List.setIfInBounds_toArray, List.set_cons_zero, List.set_cons_succ]
          refine wpAnyL_last (o := ⟨none, _, _, _, _, _⟩) (by kernel_rfl) (by kernel_rfl) rfl (fun K hK => ?_)
          go_simp
          refine hK _ _ ?_
          clear hK K hHeld
          try simp only [Act.put, List.setIfInBounds_toArray, List.set_cons_zero, List.set_cons_succ]
          have y0 : w9.cell? ⟨w.heap.size + 1 + 1, 0, none⟩ = some (.bool false) := by rw [bc9 _ _ q2']; exact gp0
          have y1 : w9.cell? ⟨w.heap.size + 1 + 1, 1, none⟩ = some (.slice none 0 0) := by rw [bc9 _ _ q2']; exact gp1
          have y2 : w9.cell? ⟨w.heap.size + 1 + 1 + 1, 0, none⟩ = some (.bool false) := by rw [bc9 _ _ q3']; exact gt0
          have y3 : w9.cell? ⟨w.heap.size + 1 + 1 + 1, 1, none⟩ = some (.slice none 0 0) := by rw [bc9 _ _ q3']; exact gt1
          rw [HQ2.out] at hN9
          have hP := NumC.set2 (NumC.set2 (HNX.out.below hbA (Nat.le_refl _)) y0 y1 n6 a6 l6 c6) (B := w.heap.size + 1 + 1 + 1) (by rw [World.cell?_setCell_far _ _ _ _ (by simp), World.cell?_setCell_far _ _ _ _ (by simp)]; exact y2) (by rw [World.cell?_setCell_far _ _ _ _ (by simp), World.cell?_setCell_far _ _ _ _ (by simp)]; exact y3) n9 a9 l9 c9
          have hT := NumC.set2 (NumC.set2 hN9 y0 y1 n6 a6 l6 c6) (B := w.heap.size + 1 + 1 + 1) (by rw [World.cell?_setCell_far _ _ _ _ (by simp), World.cell?_setCell_far _ _ _ _ (by simp)]; exact y2) (by rw [World.cell?_setCell_far _ _ _ _ (by simp), World.cell?_setCell_far _ _ _ _ (by simp)]; exact y3) n9 a9 l9 c9
          have hBZ := HBX.out.trans (hbA.mono (by omega))
          go_wp2_with fail
          exact bodyPost_ret (v := .tuple #[.agg #[.bool n6, .slice a6 l6 c6], .agg #[.bool n9, .slice a9 l9 c9]]) (by simp [results, Tryz.results82, go_sem, y0, y1, y2, y3]) rfl
            ⟨_, _, _, _, _, _, _, _, rfl, hP, hT, (((hBZ.setCell (by simp; omega) _).setCell (by simp; omega) _).setCell (by simp; omega) _).setCell (by simp; omega) _⟩
        · have hrp2 : ¬ (0 : Int) < (rl : Int) := by omega
          go_wp2_with fail
          rw [← hwv]
          have fx0 : wv.cell? ⟨w4.heap.size, 0, none⟩ = some (.bool n4) := by rw [hwv]; simp [go_sem]
          have fx1 : wv.cell? ⟨w4.heap.size, 1, none⟩ = some (.slice a4 l4 c4) := by rw [hwv]; simp [go_sem]
          have fa0 : wv.cell? ⟨w.heap.size, 0, none⟩ = some (.bool na) := by rw [hwv]; exact AL.out _ _ _ M0.out
          have fa1 : wv.cell? ⟨w.heap.size, 1, none⟩ = some (.slice a n c) := by rw [hwv]; exact AL.out _ _ _ M1.out
          have fb0 : wv.cell? ⟨w.heap.size + 1, 0, none⟩ = some (.bool nb) := by rw [hwv]; exact AL.out _ _ _ J0.out
          have fb1 : wv.cell? ⟨w.heap.size + 1, 1, none⟩ = some (.slice b m d) := by rw [hwv]; exact AL.out _ _ _ J1.out
          have fp0 : wv.cell? ⟨w.heap.size + 1 + 1, 0, none⟩ = some (.bool false) := by rw [hwv]; exact AL.out _ _ _ O0.out
          have fp1 : wv.cell? ⟨w.heap.size + 1 + 1, 1, none⟩ = some (.slice none 0 0) := by rw [hwv]; exact AL.out _ _ _ O1.out
          have ft0 : wv.cell? ⟨w.heap.size + 1 + 1 + 1, 0, none⟩ = some (.bool false) := by rw [hwv]; exact AL.out _ _ _ U0.out
          have ft1 : wv.cell? ⟨w.heap.size + 1 + 1 + 1, 1, none⟩ = some (.slice none 0 0) := by rw [hwv]; exact AL.out _ _ _ U1.out
          have fpf : ∀ o, wv.frozen? ⟨w.heap.size + 1 + 1, o, none⟩ = false := fun o => by rw [hwv]; rw [Frz (by omega)]; exact OF.out o
          have ftf : ∀ o, wv.frozen? ⟨w.heap.size + 1 + 1 + 1, o, none⟩ = false := fun o => by rw [hwv]; rw [Frz (by omega)]; exact UF.out o
          have HBVV : Hid (Below w.heap.size w wv) := by rw [hwv]; exact HBV.out.alloc (by omega) _
          have HNV : NumC wv n4 a4 l4 c4 z1 := by rw [hwv]; exact HN4.out.below ((Below.refl _ _).alloc (Nat.le_refl _) _) (Nat.le_refl _)
          have hXV : w4.heap.size < wv.heap.size := by rw [hwv]; simp
          have fxf : ∀ o, wv.frozen? ⟨w4.heap.size, o, none⟩ = false := fun o => by rw [hwv]; simp [go_sem]
          clear hwv k5' m0' j0'
          have HNX : Hid (NumC wv n4 a4 l4 c4 (x.fdiv y)) := by
            have hzz : z1 = x.fdiv y := by have h1 := HFIN.out; have h2 := HZ1.out; have h3 := HRL.out; rw [if_pos hneq] at h1 h2; rw [if_neg (by omega)] at h1; omega
            rw [← hzz]; exact HNV
          have qX : w4.heap.size < wv.heap.size := by omega
          have q0' : w.heap.size < wv.heap.size := by omega
          have q1' : w.heap.size + 1 < wv.heap.size := by omega
          have q2' : w.heap.size + 1 + 1 < wv.heap.size := by omega
          have q3' : w.heap.size + 1 + 1 + 1 < wv.heap.size := by omega
          have r1 : ¬ (w.heap.size + 1 + 1 = w.heap.size) := by omega
          have r2 : ¬ (w.heap.size + 1 + 1 = w.heap.size + 1) := by omega
          have r3 : ¬ (w.heap.size + 1 + 1 = w4.heap.size) := by omega
          have hbA : Below wv.heap.size wv wv.drew := (Below.refl _ _).drew
          have HBX := HBVV
          refine wp_regionL (fun w' => w'.cell? ⟨w4.heap.size, 0, none⟩ = some (.bool n4) ∧ w'.cell? ⟨w4.heap.size, 1, none⟩ = some (.slice a4 l4 c4) ∧ w'.cell? ⟨w.heap.size, 0, none⟩ = some (.bool na) ∧ w'.cell? ⟨w.heap.size, 1, none⟩ = some (.slice a n c) ∧ w'.cell? ⟨w.heap.size + 1, 0, none⟩ = some (.bool nb) ∧ w'.cell? ⟨w.heap.size + 1, 1, none⟩ = some (.slice b m d)) 7 (by kernel_rfl) (by go_keep) (fun hHeld => ?_)
          refine wpAnyL_take (i := 0) (oi := ⟨some 95, _, _, _, _, _⟩) (v := ?_) rfl (by kernel_rfl) (by kernel_rfl) (by kernel_rfl) (by kernel_rfl) (by kernel_rfl) (fun _ _ _ h => h) (Or.inl ⟨by rfl, ?_⟩) (by assumption) ?_
          rotate_left 1
          · (intro w hSw; (try dsimp only at hSw); go_simp; try with_reducible rfl)
          try simp only [Act.put, List.setIfInBounds_toArray, List.set_cons_zero, List.set_cons_succ]
          refine wpAnyL_take (i := 1) (oi := ⟨some 96, _, _, _, _, _⟩) (v := ?_) rfl (by kernel_rfl) (by kernel_rfl) (by kernel_rfl) (by kernel_rfl) (by kernel_rfl) (fun _ _ _ h => h) (Or.inl ⟨by rfl, ?_⟩) (by assumption) ?_
          rotate_left 1
          · (intro w hSw; (try dsimp only at hSw); go_simp; try with_reducible rfl)
          try simp only [Act.put, List.setIfInBounds_toArray, List.set_cons_zero, List.set_cons_succ]
          refine wpAnyL_take (i := 2) (oi := ⟨some 97, _, _, _, _, _⟩) (v := ?_) rfl (by kernel_rfl) (by kernel_rfl) (by kernel_rfl) (by kernel_rfl) (by kernel_rfl) (fun _ _ _ h => h) (Or.inl ⟨by rfl, ?_⟩) (by assumption) ?_
          rotate_left 1
          · (intro w hSw; (try dsimp only at hSw); go_simp; try with_reducible rfl)
          try simp only [Act.put, List.setIfInBounds_toArray, List.set_cons_zero, List.set_cons_succ]
          refine wpAnyL_take (i := 3) (oi := ⟨some 98, _, _, _, _, _⟩) (v := ?_) rfl (by kernel_rfl) (by kernel_rfl) (by kernel_rfl) (by kernel_rfl) (by kernel_rfl) (fun _ _ _ h => h) (Or.inl ⟨by rfl, ?_⟩) (by assumption) ?_
          rotate_left 1
          · (intro w hSw; (try dsimp only at hSw); go_simp; try with_reducible rfl)
          try simp only [Act.put, List.setIfInBounds_toArray, List.set_cons_zero, List.set_cons_succ]
          refine wpAnyL_one (i := 4) (o := ⟨some 99, _, _, _, _, _⟩) (by kernel_rfl) rfl (fun K hK => ?_)
          go_simp
          refine (mul_any _ _ _ _ _ _ _ _ (x.fdiv y) y _ (by exact HNX.out.below hbA (Nat.le_refl _)) (by exact HY.out.below (HBX.out.trans (hbA.mono (by omega))) (Nat.le_refl _)) FD.out FY.out).mono ?_; rintro e w8 ⟨n8, a8, l8, c8, rfl, hN8, hb8, hf8⟩; replace hbA := hbA.trans (hb8.mono (Nat.le_trans (by simp) hbA.size)); obtain ⟨bc8, bf8⟩ := bcell hbA
          refine hK.out _ _ (by go_keep) ?_
          clear hK K hHeld
          intro hHeld
          try simp only [Act.put, List.setIfInBounds_toArray, List.set_cons_zero, List.set_cons_succ]
          refine wpAnyL_one (i := 5) (o := ⟨some 100, _, _, _, _, _⟩) (by kernel_rfl) rfl (fun K hK => ?_)
          go_simp
          refine (sub_any _ _ _ _ _ _ _ _ x _ _ (by exact HX.out.below (HBX.out.trans (hbA.mono (by omega))) (Nat.le_refl _)) hN8 FX.out FP.out).mono ?_; rintro e w9 ⟨n9, a9, l9, c9, rfl, hN9, hb9, hf9⟩; clear bc8 bf8; replace hbA := hbA.trans (hb9.mono (Nat.le_trans (by simp) hbA.size)); obtain ⟨bc9, bf9⟩ := bcell hbA
          refine hK.out _ _ (by go_keep) ?_
          clear hK K hHeld
          intro hHeld
          try simp only [Act.put, List.setIfInBounds_toArray, List.set_cons_zero, List.set_cons_succ]
          refine wpAnyL_one (i := 6) (o := ⟨none, _, _, _, _, _⟩) (by kernel_rfl) rfl (fun K hK => ?_)
          go_simp
          refine hK.out _ _ (by go_keep) ?_
          clear hK K hHeld
          intro hHeld
          try simp only [Act.put, List.setIfInBounds_toArray, List.set_cons_zero, List.set_cons_succ]
          refine wpAnyL_last (o := ⟨none, _, _, _, _, _⟩) (by kernel_rfl) (by kernel_rfl) rfl (fun K hK => ?_)
          go_simp
          refine hK _ _ ?_
          clear hK K hHeld
          try simp only [Act.put, List.setIfInBounds_toArray, List.set_cons_zero, List.set_cons_succ]
          have y0 : w9.cell? ⟨w.heap.size + 1 + 1, 0, none⟩ = some (.bool false) := by rw [bc9 _ _ q2']; exact fp0
          have y1 : w9.cell? ⟨w.heap.size + 1 + 1, 1, none⟩ = some (.slice none 0 0) := by rw [bc9 _ _ q2']; exact fp1
          have y2 : w9.cell? ⟨w.heap.size + 1 + 1 + 1, 0, none⟩ = some (.bool false) := by rw [bc9 _ _ q3']; exact ft0
          have y3 : w9.cell? ⟨w.heap.size + 1 + 1 + 1, 1, none⟩ = some (.slice none 0 0) := by rw [bc9 _ _ q3']; exact ft1
          rw [HQ2.out] at hN9
          have hP := NumC.set2 (NumC.set2 (HNX.out.below hbA (Nat.le_refl _)) y0 y1 n4 a4 l4 c4) (B := w.heap.size + 1 + 1 + 1) (by rw [World.cell?_setCell_far _ _ _ _ (by simp), World.cell?_setCell_far _ _ _ _ (by simp)]; exact y2) (by rw [World.cell?_setCell_far _ _ _ _ (by simp), World.cell?_setCell_far _ _ _ _ (by simp)]; exact y3) n9 a9 l9 c9
          have hT := NumC.set2 (NumC.set2 hN9 y0 y1 n4 a4 l4 c4) (B := w.heap.size + 1 + 1 + 1) (by rw [World.cell?_setCell_far _ _ _ _ (by simp), World.cell?_setCell_far _ _ _ _ (by simp)]; exact y2) (by rw [World.cell?_setCell_far _ _ _ _ (by simp), World.cell?_setCell_far _ _ _ _ (by simp)]; exact y3) n9 a9 l9 c9
          have hBZ := HBX.out.trans (hbA.mono (by omega))
          go_wp2_with fail
          exact bodyPost_ret (v := .tuple #[.agg #[.bool n4, .slice a4 l4 c4], .agg #[.bool n9, .slice a9 l9 c9]]) (by simp [results, Tryz.results82, go_sem, y0, y1, y2, y3]) rfl
            ⟨_, _, _, _, _, _, _, _, rfl, hP, hT, (((hBZ.setCell (by simp; omega) _).setCell (by simp; omega) _).setCell (by simp; omega) _).setCell (by simp; omega) _⟩
      · have hneq2 : (!na == nb) = false := by simpa using hneq
        go_wp2_with fail
        rw [← hwv]
        have fx0 : wv.cell? ⟨w4.heap.size, 0, none⟩ = some (.bool n4) := by rw [hwv]; simp [go_sem]
        have fx1 : wv.cell? ⟨w4.heap.size, 1, none⟩ = some (.slice a4 l4 c4) := by rw [hwv]; simp [go_sem]
        have fa0 : wv.cell? ⟨w.heap.size, 0, none⟩ = some (.bool na) := by rw [hwv]; exact AL.out _ _ _ M0.out
        have fa1 : wv.cell? ⟨w.heap.size, 1, none⟩ = some (.slice a n c) := by rw [hwv]; exact AL.out _ _ _ M1.out
        have fb0 : wv.cell? ⟨w.heap.size + 1, 0, none⟩ = some (.bool nb) := by rw [hwv]; exact AL.out _ _ _ J0.out
        have fb1 : wv.cell? ⟨w.heap.size + 1, 1, none⟩ = some (.slice b m d) := by rw [hwv]; exact AL.out _ _ _ J1.out
        have fp0 : wv.cell? ⟨w.heap.size + 1 + 1, 0, none⟩ = some (.bool false) := by rw [hwv]; exact AL.out _ _ _ O0.out
        have fp1 : wv.cell? ⟨w.heap.size + 1 + 1, 1, none⟩ = some (.slice none 0 0) := by rw [hwv]; exact AL.out _ _ _ O1.out
        have ft0 : wv.cell? ⟨w.heap.size + 1 + 1 + 1, 0, none⟩ = some (.bool false) := by rw [hwv]; exact AL.out _ _ _ U0.out
        have ft1 : wv.cell? ⟨w.heap.size + 1 + 1 + 1, 1, none⟩ = some (.slice none 0 0) := by rw [hwv]; exact AL.out _ _ _ U1.out
        have fpf : ∀ o, wv.frozen? ⟨w.heap.size + 1 + 1, o, none⟩ = false := fun o => by rw [hwv]; rw [Frz (by omega)]; exact OF.out o
        have ftf : ∀ o, wv.frozen? ⟨w.heap.size + 1 + 1 + 1, o, none⟩ = false := fun o => by rw [hwv]; rw [Frz (by omega)]; exact UF.out o
        have HBVV : Hid (Below w.heap.size w wv) := by rw [hwv]; exact HBV.out.alloc (by omega) _
        have HNV : NumC wv n4 a4 l4 c4 z1 := by rw [hwv]; exact HN4.out.below ((Below.refl _ _).alloc (Nat.le_refl _) _) (Nat.le_refl _)
        have hXV : w4.heap.size < wv.heap.size := by rw [hwv]; simp
        have fxf : ∀ o, wv.frozen? ⟨w4.heap.size, o, none⟩ = false := fun o => by rw [hwv]; simp [go_sem]
        clear hwv k5' m0' j0'
        have HNX : Hid (NumC wv n4 a4 l4 c4 (x.fdiv y)) := by
          have hzz : z1 = x.fdiv y := by have h1 := HFIN.out; have h2 := HZ1.out; rw [if_neg hneq] at h1 h2; omega
          rw [← hzz]; exact HNV
        have qX : w4.heap.size < wv.heap.size := by omega
        have q0' : w.heap.size < wv.heap.size := by omega
        have q1' : w.heap.size + 1 < wv.heap.size := by omega
        have q2' : w.heap.size + 1 + 1 < wv.heap.size := by omega
        have q3' : w.heap.size + 1 + 1 + 1 < wv.heap.size := by omega
        have r1 : ¬ (w.heap.size + 1 + 1 = w.heap.size) := by omega
        have r2 : ¬ (w.heap.size + 1 + 1 = w.heap.size + 1) := by omega
        have r3 : ¬ (w.heap.size + 1 + 1 = w4.heap.size) := by omega
        have hbA : Below wv.heap.size wv wv.drew := (Below.refl _ _).drew
        have HBX := HBVV
        refine wp_regionL (fun w' => w'.cell? ⟨w4.heap.size, 0, none⟩ = some (.bool n4) ∧ w'.cell? ⟨w4.heap.size, 1, none⟩ = some (.slice a4 l4 c4) ∧ w'.cell? ⟨w.heap.size, 0, none⟩ = some (.bool na) ∧ w'.cell? ⟨w.heap.size, 1, none⟩ = some (.slice a n c) ∧ w'.cell? ⟨w.heap.size + 1, 0, none⟩ = some (.bool nb) ∧ w'.cell? ⟨w.heap.size + 1, 1, none⟩ = some (.slice b m d)) 7 (by kernel_rfl) (by go_keep) (fun hHeld => ?_)
        refine wpAnyL_take (i := 0) (oi := ⟨some 95, _, _, _, _, _⟩) (v := ?_) rfl (by kernel_rfl) (by kernel_rfl) (by kernel_rfl) (by kernel_rfl) (by kernel_rfl) (fun _ _ _ h => h) (Or.inl ⟨by rfl, ?_⟩) (by assumption) ?_
        rotate_left 1
        · (intro w hSw; (try dsimp only at hSw); go_simp; try with_reducible rfl)
        try simp only [Act.put, List.setIfInBounds_toArray, List.set_cons_zero, List.set_cons_succ]
        refine wpAnyL_take (i := 1) (oi := ⟨some 96, _, _, _, _, _⟩) (v := ?_) rfl (by kernel_rfl) (by kernel_rfl) (by kernel_rfl) (by kernel_rfl) (by kernel_rfl) (fun _ _ _ h => h) (Or.inl ⟨by rfl, ?_⟩) (by assumption) ?_
        rotate_left 1
        · (intro w hSw; (try dsimp only at hSw); go_simp; try with_reducible rfl)
        try simp only [Act.put, List.setIfInBounds_toArray, List.set_cons_zero, List.set_cons_succ]
        refine wpAnyL_take (i := 2) (oi := ⟨some 97, _, _, _, _, _⟩) (v := ?_) rfl (by kernel_rfl) (by kernel_rfl) (by kernel_rfl) (by kernel_rfl) (by kernel_rfl) (fun _ _ _ h => h) (Or.inl ⟨by rfl, ?_⟩) (by assumption) ?_
        rotate_left 1
        · (intro w hSw; (try dsimp only at hSw); go_simp; try with_reducible rfl)
        try simp only [Act.put, List.setIfInBounds_toArray, List.set_cons_zero, List.set_cons_succ]
        refine wpAnyL_take (i := 3) (oi := ⟨some 98, _, _, _, _, _⟩) (v := ?_) rfl (by kernel_rfl) (by kernel_rfl) (by kernel_rfl) (by kernel_rfl) (by kernel_rfl) (fun _ _ _ h => h) (Or.inl ⟨by rfl, ?_⟩) (by assumption) ?_
        rotate_left 1
        · (intro w hSw; (try dsimp only at hSw); go_simp; try with_reducible rfl)
        try simp only [Act.put, List.setIfInBounds_toArray, List.set_cons_zero, List.set_cons_succ]
        refine wpAnyL_one (i := 4) (o := ⟨some 99, _, _, _, _, _⟩) (by kernel_rfl) rfl (fun K hK => ?_)
        go_simp
        refine (mul_any _ _ _ _ _ _ _ _ (x.fdiv y) y _ (by exact HNX.out.below hbA (Nat.le_refl _)) (by exact HY.out.below (HBX.out.trans (hbA.mono (by omega))) (Nat.le_refl _)) FD.out FY.out).mono ?_; rintro e w8 ⟨n8, a8, l8, c8, rfl, hN8, hb8, hf8⟩; replace hbA := hbA.trans (hb8.mono (Nat.le_trans (by simp) hbA.size)); obtain ⟨bc8, bf8⟩ := bcell hbA
        refine hK.out _ _ (by go_keep) ?_
        clear hK K hHeld
        intro hHeld
        try simp only [Act.put, List.setIfInBounds_toArray, List.set_cons_zero, List.set_cons_succ]
        refine wpAnyL_one (i := 5) (o := ⟨some 100, _, _, _, _, _⟩) (by kernel_rfl) rfl (fun K hK => ?_)
        go_simp
        refine (sub_any _ _ _ _ _ _ _ _ x _ _ (by exact HX.out.below (HBX.out.trans (hbA.mono (by omega))) (Nat.le_refl _)) hN8 FX.out FP.out).mono ?_; rintro e w9 ⟨n9, a9, l9, c9, rfl, hN9, hb9, hf9⟩; clear bc8 bf8; replace hbA := hbA.trans (hb9.mono (Nat.le_trans (by simp) hbA.size)); obtain ⟨bc9, bf9⟩ := bcell hbA
        refine hK.out _ _ (by go_keep) ?_
        clear hK K hHeld
        intro hHeld
        try simp only [Act.put, List.setIfInBounds_toArray, List.set_cons_zero, List.set_cons_succ]
        refine wpAnyL_one (i := 6) (o := ⟨none, _, _, _, _, _⟩) (by kernel_rfl) rfl (fun K hK => ?_)
        go_simp
        refine hK.out _ _ (by go_keep) ?_
        clear hK K hHeld
        intro hHeld
        try simp only [Act.put, List.setIfInBounds_toArray, List.set_cons_zero, List.set_cons_succ]
        refine wpAnyL_last (o := ⟨none, _, _, _, _, _⟩) (by kernel_rfl) (by kernel_rfl) rfl (fun K hK => ?_)
        go_simp
        refine hK _ _ ?_
        clear hK K hHeld
        try simp only [Act.put, List.setIfInBounds_toArray, List.set_cons_zero, List.set_cons_succ]
        have y0 : w9.cell? ⟨w.heap.size + 1 + 1, 0, none⟩ = some (.bool false) := by rw [bc9 _ _ q2']; exact fp0
        have y1 : w9.cell? ⟨w.heap.size + 1 + 1, 1, none⟩ = some (.slice none 0 0) := by rw [bc9 _ _ q2']; exact fp1
        have y2 : w9.cell? ⟨w.heap.size + 1 + 1 + 1, 0, none⟩ = some (.bool false) := by rw [bc9 _ _ q3']; exact ft0
        have y3 : w9.cell? ⟨w.heap.size + 1 + 1 + 1, 1, none⟩ = some (.slice none 0 0) := by rw [bc9 _ _ q3']; exact ft1
        rw [HQ2.out] at hN9
        have hP := NumC.set2 (NumC.set2 (HNX.out.below hbA (Nat.le_refl _)) y0 y1 n4 a4 l4 c4) (B := w.heap.size + 1 + 1 + 1) (by rw [World.cell?_setCell_far _ _ _ _ (by simp), World.cell?_setCell_far _ _ _ _ (by simp)]; exact y2) (by rw [World.cell?_setCell_far _ _ _ _ (by simp), World.cell?_setCell_far _ _ _ _ (by simp)]; exact y3) n9 a9 l9 c9
        have hT := NumC.set2 (NumC.set2 hN9 y0 y1 n4 a4 l4 c4) (B := w.heap.size + 1 + 1 + 1) (by rw [World.cell?_setCell_far _ _ _ _ (by simp), World.cell?_setCell_far _ _ _ _ (by simp)]; exact y2) (by rw [World.cell?_setCell_far _ _ _ _ (by simp), World.cell?_setCell_far _ _ _ _ (by simp)]; exact y3) n9 a9 l9 c9
        have hBZ := HBX.out.trans (hbA.mono (by omega))
        go_wp2_with fail
        exact bodyPost_ret (v := .tuple #[.agg #[.bool n4, .slice a4 l4 c4], .agg #[.bool n9, .slice a9 l9 c9]]) (by simp [results, Tryz.results82, go_sem, y0, y1, y2, y3]) rfl
          ⟨_, _, _, _, _, _, _, _, rfl, hP, hT, (((hBZ.setCell (by simp; omega) _).setCell (by simp; omega) _).setCell (by simp; omega) _).setCell (by simp; omega) _⟩
    · obtain ⟨i, rfl⟩ : ∃ i, gk = i + 1 := ⟨gk - 1, by omega⟩
      have hi : i < n := by have := HK.out; omega
      obtain ⟨-, -, -, ha4⟩ := HR.out
      rcases ha4 with hcap0 | ⟨ba, oa, rfl, hba, hca⟩
      · have := HR.out.2.1; omega
      obtain ⟨dx, hdx⟩ : ∃ d, xs.getD i 0 = d := ⟨_, rfl⟩
      have HDX := Lib.hid hdx
      have hxr := HD.out.at (by decide) i
      rw [hdx] at hxr
      have hca1 := hca i hi
      rw [hdx] at hca1
      have hbW2 := HBW.out.trans (hbel.mono (by omega))
      have e2 : wr.cell? ⟨ba, oa + i, none⟩ = some (.int .i64 dx) := by rw [hbW2.cell (p := ⟨ba, oa + i, none⟩) hba]; exact hca1
      have e6 : ((i + 1 : Nat) : Int) - 1 = (i : Int) := by omega
      rw [e6]
      obtain ⟨rds, hrr, hrd, hrt, hrz, hrg⟩ := HDV.out.n
      have hrv : V 1000 rds = R := by
        have := (V_bd (B := 1000) (by decide) hrd).1
        cases rn
        · simpa using hrz.symm
        · have := hrg rfl; simp at hrz; omega
      have hrl : rl ≤ 1000000 := by
        have := HDV.out.n.len (FS.out.mono (by have := HDy.out; omega)); exact this
      have HRV := Lib.hid hrv
      have HRR := Lib.hid hrr
      have HRD := Lib.hid hrd
      have l3 : (i : Int) < (n : Int) := by omega
      clear hca hdx hca1 e6 hrr hrd hrt hrz hrg hrv hbW2
      go_wp2_with fail
      refine wp_regionL (fun w' => w'.cell? ⟨w.heap.size, 1, none⟩ = some (.slice (some ⟨ba, oa, none⟩) n c) ∧ w'.cell? ⟨ba, oa + i, none⟩ = some (.int .i64 dx) ∧ w'.cell? ⟨w.heap.size + 1 + 1 + 1 + 1 + 1, 1, none⟩ = some (.slice ra rl rc)) 10 (by kernel_rfl) (by go_keep) (fun hHeld => ?_)
      refine wpAnyL_take (i := 0) (oi := ⟨some 30, _, _, _, _, _⟩) (v := ?_) rfl (by kernel_rfl) (by kernel_rfl) (by kernel_rfl) (by kernel_rfl) (by kernel_rfl) (fun _ _ _ h => h) (Or.inl ⟨by rfl, ?_⟩) (by assumption) ?_
      rotate_left 1
      · (intro w hSw; (try dsimp only at hSw); go_simp; try with_reducible rfl)
      try simp only [Act.put, List.setIfInBounds_toArray, List.set_cons_zero, List.set_cons_succ]
      refine wpAnyL_take (i := 1) (oi := ⟨some 31, _, _, _, _, _⟩) (v := ?_) rfl (by kernel_rfl) (by kernel_rfl) (by kernel_rfl) (by kernel_rfl) (by kernel_rfl) (fun _ _ _ h => h) (Or.inl ⟨by rfl, ?_⟩) (by assumption) ?_
      rotate_left 1
      · (intro w hSw; (try dsimp only at hSw); go_simp; try with_reducible rfl)
      try simp only [Act.put, List.setIfInBounds_toArray, List.set_cons_zero, List.set_cons_succ]
      refine wpAnyL_take (i := 2) (oi := ⟨some 32, _, _, _, _, _⟩) (v := ?_) rfl (by kernel_rfl) (by kernel_rfl) (by kernel_rfl) (by kernel_rfl) (by kernel_rfl) (fun _ _ _ h => h) (Or.inl ⟨by rfl, ?_⟩) (by assumption) ?_
      rotate_left 1
      · (intro w hSw; (try dsimp only at hSw); go_simp; try with_reducible rfl)
      try simp only [Act.put, List.setIfInBounds_toArray, List.set_cons_zero, List.set_cons_succ]
      refine wpAnyL_take (i := 3) (oi := ⟨some 33, _, _, _, _, _⟩) (v := ?_) rfl (by kernel_rfl) (by kernel_rfl) (by kernel_rfl) (by kernel_rfl) (by kernel_rfl) (fun _ _ _ h => h) (Or.inl ⟨by rfl, ?_⟩) (by assumption) ?_
      rotate_left 1
      · (intro w hSw; (try dsimp only at hSw); go_simp; try with_reducible rfl)
      try simp only [Act.put, List.setIfInBounds_toArray, List.set_cons_zero, List.set_cons_succ]
      refine wpAnyL_take (i := 4) (oi := ⟨some 34, _, _, _, _, _⟩) (v := ?_) rfl (by kernel_rfl) (by kernel_rfl) (by kernel_rfl) (by kernel_rfl) (by kernel_rfl) (fun _ _ _ h => h) (Or.inl ⟨by rfl, ?_⟩) (by assumption) ?_
      rotate_left 1
      · (intro w hSw; (try dsimp only at hSw); go_simp; try with_reducible rfl)
      try simp only [Act.put, List.setIfInBounds_toArray, List.set_cons_zero, List.set_cons_succ]
      refine wpAnyL_take (i := 6) (oi := ⟨some 36, _, _, _, _, _⟩) (v := ?_) rfl (by kernel_rfl) (by kernel_rfl) (by kernel_rfl) (by kernel_rfl) (by kernel_rfl) (fun _ _ _ h => h) (Or.inl ⟨by rfl, ?_⟩) (by assumption) ?_
      rotate_left 1
      · (intro w hSw; (try dsimp only at hSw); go_simp; try with_reducible rfl)
      try simp only [Act.put, List.setIfInBounds_toArray, List.set_cons_zero, List.set_cons_succ]
      refine wpAnyL_take (i := 7) (oi := ⟨some 37, _, _, _, _, _⟩) (v := ?_) rfl (by kernel_rfl) (by kernel_rfl) (by kernel_rfl) (by kernel_rfl) (by kernel_rfl) (fun _ _ _ h => h) (Or.inl ⟨by rfl, ?_⟩) (by assumption) ?_
      rotate_left 1
      · (intro w hSw; (try dsimp only at hSw); go_simp; try with_reducible rfl)
      try simp only [Act.put, List.setIfInBounds_toArray, List.set_cons_zero, List.set_cons_succ]
      refine wpAnyL_one (i := 5) (o := ⟨some 35, _, _, _, _, _⟩) (by kernel_rfl) rfl (fun K hK => ?_)
      go_simp
      refine hK.out _ _ (by go_keep) ?_
      clear hK K hHeld
      intro hHeld
      try simp only [Act.put, List.setIfInBounds_toArray, List.set_cons_zero, List.set_cons_succ]
      refine wpAnyL_one (i := 8) (o := ⟨some 38, _, _, _, _, _⟩) (by kernel_rfl) rfl (fun K hK => ?_)
      refine step_append_row .i64 30 3 8 info_int (by decide) Tryz.underlying30 rfl _ _ rfl _ wr.heap.size (.slice (some ⟨wr.heap.size, 0, none⟩) 1 1) 1 [dx] ra rl rc rds rfl rfl (OwnK.one .i64 wr.drew 3 dx) (HRR.out.below ((Below.refl _ _).drew.alloc (Nat.le_refl _) _) (Nat.le_refl _)) HRR.out.none' (by omega) (by simp) ?_
      intro v1 w1 hO1 hg1 hbl1
      obtain ⟨ad1, cp1, hv1⟩ := hO1.form
      subst hv1
      have hB1 := hbl1 wr ((Below.refl _ _).drew.alloc (Nat.le_refl _) _)
      have g1 : w1.cell? ⟨w.heap.size, 1, none⟩ = some (.slice (some ⟨ba, oa, none⟩) n c) := by rw [hB1.cell (p := ⟨_, 1, none⟩) (by simp; omega)]; exact e1
      have g2 : w1.cell? ⟨ba, oa + i, none⟩ = some (.int .i64 dx) := by rw [hB1.cell (p := ⟨_, _, none⟩) (by simp; omega)]; exact e2
      have g3 : w1.cell? ⟨w.heap.size + 1 + 1 + 1 + 1 + 1, 1, none⟩ = some (.slice ra rl rc) := by rw [hB1.cell (p := ⟨_, 1, none⟩) (by simp; omega)]; exact c5
      refine hK.out _ _ (by exact ⟨g1, g2, g3⟩) ?_
      clear hK K hHeld
      intro hHeld
      try simp only [Act.put, List.setIfInBounds_toArray, List.set_cons_zero, List.set_cons_succ]
      refine wpAnyL_one (i := 9) (o := ⟨some 39, _, _, _, _, _⟩) (by kernel_rfl) rfl (fun K hK => ?_)
      go_simp
      refine (made_any false _ _ _ ([dx] ++ rds) (dx + 1000 * R) _ (by rw [List.singleton_append, V_cons, HRV.out]; simp) hO1.row (HRD.out.cons hxr.1 hxr.2)).mono ?_
      rintro e w2 ⟨n2, a2, l2, c2, rfl, hN2, hb2, hf2⟩
      have hB2 := hB1.trans (hb2.mono hB1.size)
      have g4 : w2.cell? ⟨w.heap.size, 1, none⟩ = some (.slice (some ⟨ba, oa, none⟩) n c) := by rw [hB2.cell (p := ⟨_, 1, none⟩) (by simp; omega)]; exact e1
      have g5 : w2.cell? ⟨ba, oa + i, none⟩ = some (.int .i64 dx) := by rw [hB2.cell (p := ⟨_, _, none⟩) (by simp; omega)]; exact e2
      have g6 : w2.cell? ⟨w.heap.size + 1 + 1 + 1 + 1 + 1, 1, none⟩ = some (.slice ra rl rc) := by rw [hB2.cell (p := ⟨_, 1, none⟩) (by simp; omega)]; exact c5
      have d50 : w2.cell? ⟨w.heap.size + 1 + 1 + 1 + 1 + 1, 0, none⟩ = some (.bool rn) := by rw [hB2.cell (p := ⟨_, 0, none⟩) (by simp; omega)]; exact c50
      have df5 : ∀ o, w2.frozen? ⟨w.heap.size + 1 + 1 + 1 + 1 + 1, o, none⟩ = false := fun o => by rw [hB2.frozen (p := ⟨_, o, none⟩) (by simp; omega)]; exact f5 o
      clear hbl1 hg1
      refine hK.out _ _ (by exact ⟨g4, g5, g6⟩) ?_
      clear hK K hHeld
      intro hHeld
      try simp only [Act.put, List.setIfInBounds_toArray, List.set_cons_zero, List.set_cons_succ]
      refine wpAnyL_last (o := ⟨none, _, _, _, _, _⟩) (by kernel_rfl) (by kernel_rfl) rfl (fun K hK => ?_)
      go_simp
      refine hK _ _ ?_
      clear hK K hHeld
      try simp only [Act.put, List.setIfInBounds_toArray, List.set_cons_zero, List.set_cons_succ]
      have hdv2 := (HDV.out.below hB2).setR hN2 ((hO1.fresh.same hf2).mono (by omega))
      have hv2 := divstep HV.out
      rw [HDX.out] at hv2
      clear hN2 hb2 hf2 hB1 hB2 hO1 g1 g2 g3 g4 g5 g6 d50 df5 e1 e2 c5 c50 f5 c60 c61 hbel hsz HRV HRR HRD HDV HV
      generalize ((w2.setCell ⟨w.heap.size + 1 + 1 + 1 + 1 + 1, 0, none⟩ (.bool n2)).setCell ⟨w.heap.size + 1 + 1 + 1 + 1 + 1, 1, none⟩ (.slice a2 l2 c2)) = wz at *
      have hR'0 : 0 ≤ dx + 1000 * R := by omega
      have hR'1 : dx + 1000 * R < 1000 * D := by omega
      generalize dx + 1000 * R = R' at *
      have HDV2 := Lib.hid hdv2
      have HV2 := Lib.hid hv2
      have z0 := hdv2.r0
      have z1 := hdv2.r1
      have z2 := hdv2.d0
      have z3 := hdv2.d1
      have hsz := hdv2.sz
      clear hdv2 hv2
      have HYZ := Lib.hid (HYD.out.below (HBW.out.trans (HDV2.out.bel.mono (by omega))) (Nat.le_refl _))
      by_cases hlt : R' < D
      · have HC := Lib.hid (cmp_at _ _ _ _ _ _ _ _ R' D (-1) _ (cmpZ_lt hlt) HDV2.out.n HYZ.out)
        go_wp2_with fail
        refine HC.out.mono ?_; rintro e w3 ⟨rfl, hb3⟩
        have HDV3 := Lib.hid (HDV2.out.below hb3)
        clear hb3
        go_wp2_with fail
        go_roundg i
        case measure => omega
        case rel => exact ⟨n2, a2, l2, c2, qs, R', rfl, by omega, HDV3.out, HQL.out, HQD.out, fun j hj => HQ0.out j (by omega), hR'0, hlt, HV2.out⟩
      · obtain ⟨cc, hcc⟩ : ∃ cc, cmpZ R' D = cc := ⟨_, rfl⟩
        have hcc0 : 0 ≤ cc := by rw [← hcc]; exact cmpZ_ge (by omega)
        have HC := Lib.hid (cmp_at _ _ _ _ _ _ _ _ R' D cc _ hcc HDV2.out.n HYZ.out)
        clear hcc
        go_wp2_with fail
        refine HC.out.mono ?_; rintro e w3 ⟨rfl, hb3⟩
        have HDV3 := Lib.hid (HDV2.out.below hb3)
        clear hb3 HDV2 HC HYZ z0 z1 z2 z3 hsz
        go_wp2_with fail
        go_loopg [10, 11] 998 (fun k2 u v wi => ∃ lo hi : Int, u = .int .i64 lo ∧ v = .int .i64 hi ∧ (k2 : Int) = hi - lo ∧ 1 ≤ lo ∧ lo ≤ hi ∧ hi ≤ 999 ∧ lo * D ≤ R' ∧ R' < (hi + 1) * D ∧ DivAt w0 wi w.heap.size b m d n2 a2 l2 c2 qs R')
        case atStart => exact ⟨1, 999, rfl, rfl, by omega, by omega, by omega, by omega, by omega, by omega, HDV3.out⟩
        case round =>
          obtain ⟨lo, hi', rfl, rfl, hk2, hl1, hlh, hh1, hlD, hhD, hdi⟩ := hrel
          have HK2 := Lib.hid hk2
          have HLD := Lib.hid hlD
          have HHD := Lib.hid hhD
          have HDI := Lib.hid hdi
          have z0 := hdi.r0
          have z1 := hdi.r1
          have z2 := hdi.d0
          have z3 := hdi.d1
          have zf := hdi.rf
          have hsz := hdi.sz
          have q5 : w.heap.size + 1 + 1 + 1 + 1 + 1 < wr.heap.size := by omega
          have q6 : w.heap.size + 1 + 1 + 1 + 1 + 1 + 1 < wr.heap.size := by omega
          have HYZ := Lib.hid (HYD.out.below (HBW.out.trans (hdi.bel.mono (by omega))) (Nat.le_refl _))
          clear hk2 hlD hhD hdi
          by_cases hlh2 : lo < hi'
          · have hm1 : lo < (lo + hi' + 1) / 2 := by omega
            have hm2 : (lo + hi' + 1) / 2 ≤ hi' := by omega
            obtain ⟨cm, hcm⟩ : ∃ cm, cmpZ (D * ((lo + hi' + 1) / 2)) R' = cm := ⟨_, rfl⟩
            have HCM := Lib.hid hcm
            have hbA : Below wr.heap.size wr wr.drew := (Below.refl _ _).drew
            have FM := Lib.hid (FS.out.mono (y := (x.natAbs : Int) + 1000 * (y.natAbs : Int) + 1000) (z := D) (by have := HDy.out; omega))
            have hmb := prod_bd (x := (lo + hi' + 1) / 2) (y := D) (A := 999) (B := D) (by omega) (by omega) (by omega) (Int.le_refl _)
            have FM2 := Lib.hid (FS.out.mono (y := (x.natAbs : Int) + 1000 * (y.natAbs : Int) + 1000) (z := D * ((lo + hi' + 1) / 2)) (by have := HDy.out; rw [Int.mul_comm D]; omega))
            clear hcm hmb
            have cases3 : cm ≤ 0 ∧ D * ((lo + hi' + 1) / 2) ≤ R' ∨ 0 < cm ∧ R' < D * ((lo + hi' + 1) / 2) := by
              by_cases h : D * ((lo + hi' + 1) / 2) ≤ R'
              · left
                refine ⟨?_, h⟩
                rw [← HCM.out]; unfold cmpZ; split <;> (try split) <;> omega
              · right
                exact ⟨by rw [← HCM.out, cmpZ_gt (by omega)]; omega, by omega⟩
            have C3 := Lib.hid cases3
            clear cases3
            have eW : IntKind.u64.wrap ((lo + hi' + 1) / 2) = (lo + hi' + 1) / 2 := IntWalk.u64_in _ (by omega)
            by_cases hcmz : cm ≤ 0
            all_goals
              go_wp2_with fail
              go_region_held3 (fun w' => w'.cell? ⟨w.heap.size + 1 + 1 + 1 + 1 + 1, 0, none⟩ = some (.bool n2) ∧ w'.cell? ⟨w.heap.size + 1 + 1 + 1 + 1 + 1, 1, none⟩ = some (.slice a2 l2 c2) ∧ w'.cell? ⟨w.heap.size + 1 + 1 + 1 + 1 + 1 + 1, 0, none⟩ = some (.bool false) ∧ w'.cell? ⟨w.heap.size + 1 + 1 + 1 + 1 + 1 + 1, 1, none⟩ = some (.slice b m d)) (go_keep)
                (first
                  | (go_at_call 29; refine (nat_any _ _ (by omega) (by omega)).mono ?_; rintro e w5 ⟨neg5, a5, n5, c5, rfl, hN5, hb5, hf5⟩; replace hbA := hbA.trans (hb5.mono (Nat.le_trans (by simp) hbA.size)); obtain ⟨bc5, bf5⟩ := bcell hbA)
                  | (go_at_call 55; refine (mul_any _ _ _ _ _ _ _ _ D _ _ (by exact HYZ.out.below hbA (Nat.le_refl _)) hN5 FM.out (by exact Fit.i64 (by omega) (by omega))).mono ?_; rintro e w6 ⟨neg6, a6, n6, c6, rfl, hN6, hb6, hf6⟩; clear bc5 bf5; replace hbA := hbA.trans (hb6.mono (Nat.le_trans (by simp) hbA.size)); obtain ⟨bc6, bf6⟩ := bcell hbA)
                  | (go_at_call 83; refine (cmp_at _ _ _ _ _ _ _ _ _ R' cm _ HCM.out hN6 (by exact HDI.out.n.below hbA (Nat.le_refl _))).mono ?_; rintro e w7 ⟨rfl, hb7⟩; clear bc6 bf6; replace hbA := hbA.trans (hb7.mono (Nat.le_trans (by simp) hbA.size)); obtain ⟨bc7, bf7⟩ := bcell hbA))
              clear eW hN5 hN6 hb5 hb6 hb7 hf5 hf6 bc7 bf7
              have HDJ := Lib.hid (HDI.out.below hbA)
              clear hbA
              go_wp2_with fail
              first
                | (go_roundg (hi' - (lo + hi' + 1) / 2).toNat
                   case measure => have := HK2.out; omega
                   case rel => exact ⟨(lo + hi' + 1) / 2, hi', rfl, rfl, by omega, by omega, by omega, by omega, by have := C3.out; rw [Int.mul_comm]; omega, HHD.out, HDJ.out⟩)
                | (go_roundg ((lo + hi' + 1) / 2 - 1 - lo).toNat
                   case measure => have := HK2.out; omega
                   case rel => exact ⟨lo, (lo + hi' + 1) / 2 - 1, rfl, rfl, by omega, by omega, by omega, by omega, HLD.out, by have := C3.out; rw [Int.sub_add_cancel, Int.mul_comm]; omega, HDJ.out⟩)
          · obtain rfl : lo = hi' := by omega
            have hcq := HDI.out.q.cell (i := i) (by rw [HQL.out]; exact hi)
            rw [HQ0.out i (by omega)] at hcq
            have hfq := HDI.out.q.frozen i
            have hdq := HDI.out.setQ i lo
            have hlen1 : (i : Int) < (n : Int) := by omega
            go_wp2_with fail
            generalize (wr.setCell ⟨w.heap.size + 1 + 1 + 1 + 1, i, none⟩ (.int .i64 lo)) = wq at *
            clear z0 z1 z2 z3 zf hcq hfq hsz HYZ q5 q6
            have z0 := hdq.r0
            have z1 := hdq.r1
            have z2 := hdq.d0
            have z3 := hdq.d1
            have zf := hdq.rf
            have hsz := hdq.sz
            have HDQ := Lib.hid hdq
            have HYZ := Lib.hid (HYD.out.below (HBW.out.trans (hdq.bel.mono (by omega))) (Nat.le_refl _))
            clear hdq
            have q5 : w.heap.size + 1 + 1 + 1 + 1 + 1 < wq.heap.size := by omega
            have q6 : w.heap.size + 1 + 1 + 1 + 1 + 1 + 1 < wq.heap.size := by omega
            have hbA : Below wq.heap.size wq wq.drew := (Below.refl _ _).drew
            have FM := Lib.hid (FS.out.mono (y := (x.natAbs : Int) + 1000 * (y.natAbs : Int) + 1000) (z := D) (by have := HDy.out; omega))
            have FR := Lib.hid (FS.out.mono (y := (x.natAbs : Int) + 1000 * (y.natAbs : Int) + 1000) (z := R') (by have := HDy.out; omega))
            have hmb := prod_bd (x := lo) (y := D) (A := 999) (B := D) (by omega) (by omega) (by omega) (Int.le_refl _)
            have FM2 := Lib.hid (FS.out.mono (y := (x.natAbs : Int) + 1000 * (y.natAbs : Int) + 1000) (z := D * lo) (by have := HDy.out; rw [Int.mul_comm D]; omega))
            have eW : IntKind.u64.wrap lo = lo := IntWalk.u64_in _ (by omega)
            clear hmb
            refine wp_regionL (fun w' => w'.cell? ⟨w.heap.size + 1 + 1 + 1 + 1 + 1, 0, none⟩ = some (.bool n2) ∧ w'.cell? ⟨w.heap.size + 1 + 1 + 1 + 1 + 1, 1, none⟩ = some (.slice a2 l2 c2) ∧ w'.cell? ⟨w.heap.size + 1 + 1 + 1 + 1 + 1 + 1, 0, none⟩ = some (.bool false) ∧ w'.cell? ⟨w.heap.size + 1 + 1 + 1 + 1 + 1 + 1, 1, none⟩ = some (.slice b m d)) 7 (by kernel_rfl) (by go_keep) (fun hHeld => ?_)
            refine wpAnyL_take (i := 0) (oi := ⟨some 67, _, _, _, _, _⟩) (v := ?_) rfl (by kernel_rfl) (by kernel_rfl) (by kernel_rfl) (by kernel_rfl) (by kernel_rfl) (fun _ _ _ h => h) (Or.inl ⟨by rfl, ?_⟩) (by assumption) ?_
            rotate_left 1
            · (intro w hSw; (try dsimp only at hSw); go_simp; try with_reducible rfl)
            try simp only [Act.put, List.setIfInBounds_toArray, List.set_cons_zero, List.set_cons_succ]
            refine wpAnyL_take (i := 1) (oi := ⟨some 68, _, _, _, _, _⟩) (v := ?_) rfl (by kernel_rfl) (by kernel_rfl) (by kernel_rfl) (by kernel_rfl) (by kernel_rfl) (fun _ _ _ h => h) (Or.inl ⟨by rfl, ?_⟩) (by assumption) ?_
            rotate_left 1
            · (intro w hSw; (try dsimp only at hSw); go_simp; try with_reducible rfl)
            try simp only [Act.put, List.setIfInBounds_toArray, List.set_cons_zero, List.set_cons_succ]
            refine wpAnyL_take (i := 2) (oi := ⟨some 69, _, _, _, _, _⟩) (v := ?_) rfl (by kernel_rfl) (by kernel_rfl) (by kernel_rfl) (by kernel_rfl) (by kernel_rfl) (fun _ _ _ h => h) (Or.inl ⟨by rfl, ?_⟩) (by assumption) ?_
            rotate_left 1
            · (intro w hSw; (try dsimp only at hSw); go_simp; try with_reducible rfl)
            try simp only [Act.put, List.setIfInBounds_toArray, List.set_cons_zero, List.set_cons_succ]
            refine wpAnyL_take (i := 3) (oi := ⟨some 70, _, _, _, _, _⟩) (v := ?_) rfl (by kernel_rfl) (by kernel_rfl) (by kernel_rfl) (by kernel_rfl) (by kernel_rfl) (fun _ _ _ h => h) (Or.inl ⟨by rfl, ?_⟩) (by assumption) ?_
            rotate_left 1
            · (intro w hSw; (try dsimp only at hSw); go_simp; try with_reducible rfl)
            try simp only [Act.put, List.setIfInBounds_toArray, List.set_cons_zero, List.set_cons_succ]
            refine wpAnyL_one (i := 4) (o := ⟨some 71, _, _, _, _, _⟩) (by kernel_rfl) rfl (fun K hK => ?_)
            go_simp
            refine (nat_any _ _ (by omega) (by omega)).mono ?_; rintro e w5 ⟨neg5, a5, n5, c5, rfl, hN5, hb5, hf5⟩; replace hbA := hbA.trans (hb5.mono (Nat.le_trans (by simp) hbA.size)); obtain ⟨bc5, bf5⟩ := bcell hbA
            refine hK.out _ _ (by go_keep) ?_
            clear hK K hHeld
            intro hHeld
            try simp only [Act.put, List.setIfInBounds_toArray, List.set_cons_zero, List.set_cons_succ]
            refine wpAnyL_one (i := 5) (o := ⟨some 72, _, _, _, _, _⟩) (by kernel_rfl) rfl (fun K hK => ?_)
            go_simp
            refine (mul_any _ _ _ _ _ _ _ _ D _ _ (by exact HYZ.out.below hbA (Nat.le_refl _)) hN5 FM.out (by exact Fit.i64 (by omega) (by omega))).mono ?_; rintro e w6 ⟨neg6, a6, n6, c6, rfl, hN6, hb6, hf6⟩; clear bc5 bf5; replace hbA := hbA.trans (hb6.mono (Nat.le_trans (by simp) hbA.size)); obtain ⟨bc6, bf6⟩ := bcell hbA
            refine hK.out _ _ (by go_keep) ?_
            clear hK K hHeld
            intro hHeld
            try simp only [Act.put, List.setIfInBounds_toArray, List.set_cons_zero, List.set_cons_succ]
            refine wpAnyL_one (i := 6) (o := ⟨some 73, _, _, _, _, _⟩) (by kernel_rfl) rfl (fun K hK => ?_)
            go_simp
            refine (sub_any _ _ _ _ _ _ _ _ R' _ _ (by exact HDQ.out.n.below hbA (Nat.le_refl _)) hN6 FR.out FM2.out).mono ?_; rintro e w7 ⟨neg7, a7, n7, c7, rfl, hN7, hb7, hf7⟩; clear bc6 bf6; replace hbA := hbA.trans (hb7.mono (Nat.le_trans (by simp) hbA.size)); obtain ⟨bc7, bf7⟩ := bcell hbA
            refine hK.out _ _ (by go_keep) ?_
            clear hK K hHeld
            intro hHeld
            try simp only [Act.put, List.setIfInBounds_toArray, List.set_cons_zero, List.set_cons_succ]
            refine wpAnyL_last (o := ⟨none, _, _, _, _, _⟩) (by kernel_rfl) (by kernel_rfl) rfl (fun K hK => ?_)
            go_simp
            refine hK _ _ ?_
            clear hK K hHeld
            try simp only [Act.put, List.setIfInBounds_toArray, List.set_cons_zero, List.set_cons_succ]
            have hdz := (HDQ.out.below hbA).setR hN7 (hf7.mono (by have := hb6.size; have := hb5.size; simp at *; omega))
            generalize ((w7.setCell ⟨w.heap.size + 1 + 1 + 1 + 1 + 1, 0, none⟩ (.bool neg7)).setCell ⟨w.heap.size + 1 + 1 + 1 + 1 + 1, 1, none⟩ (.slice a7 n7 c7)) = wz2 at *
            have HDZ := Lib.hid hdz
            have hvs := divset (lo := lo) (by rw [HQL.out]; exact hi) (HQ0.out i (by omega)) HV2.out
            have hlD := HLD.out
            have hhD := HHD.out
            rw [Int.add_mul, Int.one_mul] at hhD
            clear eW hdz hN5 hN6 hN7 hb5 hb6 hb7 hf5 hf6 hf7 hbA z0 z1 z2 z3 zf
            have HVS := Lib.hid hvs
            clear hvs
            go_wp2_with fail
            go_roundg i
            case measure => omega
            case rel => exact ⟨neg7, a7, n7, c7, qs.set i lo, R' - D * lo, rfl, by omega, HDZ.out, by rw [List.length_set]; exact HQL.out, HQD.out.set i (by omega) (by omega), fun j hj => by rw [getD_set_ne (by omega)]; exact HQ0.out j (by omega), by rw [Int.mul_comm]; omega, by rw [Int.mul_comm D]; omega, by rw [Int.mul_comm D]; exact HVS.out⟩
end Go.Proofs.YtdbkgpakpadloaaGreatDoor
/- Contract of package bushelref01's Power. Conditions: the count is not below 0; all powers up to it lie below 1000^1000000. -/
namespace Go.Proofs.YtdbkgpakpadloaaGreatDoor
open Go.RowKit

theorem pow_half (x : Int) (n : Nat) (h : n % 2 = 0) : x ^ (n / 2) * x ^ (n / 2) = x ^ n := by
  rw [← Int.pow_add]; congr 1; omega
theorem pow_half1' (x : Int) (n : Nat) (h : n % 2 = 1) : x ^ (n / 2) * x ^ (n / 2) = x ^ (n - 1) := by
  rw [← Int.pow_add]; congr 1; omega
theorem pow_half1 (x : Int) (n : Nat) (h : n % 2 = 1) : x ^ (n / 2) * x ^ (n / 2) * x = x ^ n := by
  rw [← Int.pow_add, ← Int.pow_succ]; congr 1; omega

set_option maxHeartbeats 1000000 in
theorem power_any : ∀ (n : Nat) (na : Bool) (a : Option Addr) (l c : Nat) (x : Int) (w : World), NumC w na a l c x → (∀ m, m ≤ n → Fit (x ^ m)) → (n : Int) ≤ 9223372036854775807 →
    Calls Tryz.prog 102 #[.agg #[.bool na, .slice a l c], .int .i64 n] w (RetNum w (x ^ n)) := by
  intro n
  induction n using Nat.strongRecOn with | ind n ih => ?_
  intro na a l c x w hx hf hn
  have HX := Lib.hid hx
  have HF := Lib.hid hf
  clear hx hf
  by_cases h0 : n = 0
  · subst h0
    clear ih
    rw [Int.pow_zero]
    go_enter Tryz.func102, Tryz.ntmps102
    go_wp2_with fail
    refine (nat_any 1 _ (by omega) (by omega)).mono ?_; rintro e w1 ⟨n1, a1, l1, c1, rfl, hN1, hb1, hf1⟩
    obtain ⟨bc1, bf1⟩ := bcell hb1
    have hB := (((Below.refl w.heap.size w).alloc (Nat.le_refl _) (.cells #[.bool na, .slice a l c] 61)).alloc (by simp) (.cells #[.bool false, .slice none 0 0] 61)).trans (hb1.mono (by simp; omega))
    have q0 : w.heap.size + 1 < w.heap.size + 1 + 1 := by omega
    go_wp2_with fail
    exact bodyPost_ret (v := .agg #[.bool n1, .slice a1 l1 c1]) (by simp [results, Tryz.results102, go_sem, bc1]) rfl
      (RetNum.stored hN1 (by omega) hB (by simp [go_sem, bc1]) (by simp [go_sem, bc1]) (hf1.mono (by simp; omega)))
  · have hk : n / 2 < n := by omega
    have IH := Lib.hid (ih (n / 2) hk)
    have hq : (n : Int) / 2 = ((n / 2 : Nat) : Int) := by omega
    clear ih
    have hn0 : ¬ ((n : Int) ≤ 0) := by omega
    have FX : Hid (Fit x) := Lib.hid (by have h := HF.out 1 (by omega); rw [Int.pow_succ, Int.pow_zero, Int.one_mul] at h; exact h)
    have FH : Hid (Fit (x ^ (n / 2))) := Lib.hid (HF.out (n / 2) (by omega))
    have hk2 : ((n / 2 : Nat) : Int) ≤ 9223372036854775807 := by omega
    have HQ := Lib.hid hq
    clear hq
    go_enter Tryz.func102, Tryz.ntmps102
    go_wp2_with fail
    rw [HQ.out]
    refine (IH.out na a l c x _ (HX.out.below (((Below.refl _ _).alloc (Nat.le_refl _) _).alloc (by simp) _) (Nat.le_refl _)) (fun m hm => HF.out m (by omega)) hk2).mono ?_
    rintro e w1 ⟨n1, a1, l1, c1, rfl, hN1, hb1, -⟩
    obtain ⟨bc, bf⟩ := bcell hb1
    have hs1 : w.heap.size + 1 < w1.heap.size := by have := hb1.size; simp at this; omega
    have hs0 : w.heap.size < w1.heap.size := by omega
    have f0 : w1.cell? ⟨w.heap.size, 0, none⟩ = some (.bool na) := by rw [bc _ _ (by simp; omega)]; simp [go_sem]
    have f1 : w1.cell? ⟨w.heap.size, 1, none⟩ = some (.slice a l c) := by rw [bc _ _ (by simp; omega)]; simp [go_sem]
    have g0 : w1.cell? ⟨w.heap.size + 1, 0, none⟩ = some (.bool false) := by rw [bc _ _ (by simp)]; simp [go_sem]
    have g1 : w1.cell? ⟨w.heap.size + 1, 1, none⟩ = some (.slice none 0 0) := by rw [bc _ _ (by simp)]; simp [go_sem]
    have gf : ∀ o, w1.frozen? ⟨w.heap.size + 1, o, none⟩ = false := fun o => by rw [bf _ _ (by simp)]; simp [go_sem]
    have HBw := Lib.hid ((((Below.refl w.heap.size w).alloc (Nat.le_refl _) (.cells #[.bool na, .slice a l c] 61)).alloc (by simp) (.cells #[.bool false, .slice none 0 0] 61)).trans (hb1.mono (by simp; omega)))
    have HN1 := Lib.hid hN1
    clear bc bf hb1 hN1 HQ IH
    have al : ∀ p u o, w1.cell? p = some u → (w1.alloc o).cell? p = some u := fun p u o h => by rw [World.cell?_alloc_some _ _ _ (by rw [h]; rfl)]; exact h
    have f0' := al _ _ (.cells #[.bool n1, .slice a1 l1 c1] 61) f0
    have f1' := al _ _ (.cells #[.bool n1, .slice a1 l1 c1] 61) f1
    have g0' := al _ _ (.cells #[.bool n1, .slice a1 l1 c1] 61) g0
    have g1' := al _ _ (.cells #[.bool n1, .slice a1 l1 c1] 61) g1
    have gf' : ∀ o, (w1.alloc (.cells #[.bool n1, .slice a1 l1 c1] 61)).frozen? ⟨w.heap.size + 1, o, none⟩ = false := fun o => by rw [World.frozen?_of_block (w := w1) (Below.heap_alloc _ _ _ hs1)]; exact gf o
    have h0' : (w1.alloc (.cells #[.bool n1, .slice a1 l1 c1] 61)).cell? ⟨w1.heap.size, 0, none⟩ = some (.bool n1) := by simp [go_sem]
    have h1' : (w1.alloc (.cells #[.bool n1, .slice a1 l1 c1] 61)).cell? ⟨w1.heap.size, 1, none⟩ = some (.slice a1 l1 c1) := by simp [go_sem]
    have hz : w1.heap.size < (w1.alloc (.cells #[.bool n1, .slice a1 l1 c1] 61)).heap.size := by simp
    have HN2 := Lib.hid (HN1.out.below ((Below.refl _ _).alloc (Nat.le_refl _) (.cells #[.bool n1, .slice a1 l1 c1] 61)) (Nat.le_refl _))
    have HX2 := Lib.hid (HX.out.below (HBw.out.alloc (by omega) (.cells #[.bool n1, .slice a1 l1 c1] 61)) (Nat.le_refl _))
    have HBv := Lib.hid (HBw.out.alloc (by omega) (.cells #[.bool n1, .slice a1 l1 c1] 61))
    have AB := Lib.hid al
    clear al f0 f1 g0 g1 gf HN1 HBw HX
    have P1 : n % 2 = 1 → x ^ (n / 2) * x ^ (n / 2) * x = x ^ n := pow_half1 x n
    have P2 : n % 2 = 1 → Fit (x ^ (n / 2) * x ^ (n / 2)) := fun hp => by rw [pow_half1' x n hp]; exact HF.out (n - 1) (by omega)
    have P3 : n % 2 = 0 → x ^ (n / 2) * x ^ (n / 2) = x ^ n := pow_half x n
    generalize x ^ (n / 2) = h at *
    generalize x ^ n = z at *
    have PP1 := Lib.hid P1
    have PP2 := Lib.hid P2
    have PP3 := Lib.hid P3
    clear P1 P2 P3 HF hk
    by_cases hp : n % 2 = 1
    · have hp2 : ((n : Int) % 2 == 1) = true := by simp; omega
      have FHH := Lib.hid (PP2.out hp)
      go_wp2_with fail
      generalize (w1.alloc (.cells #[.bool n1, .slice a1 l1 c1] 61)) = wb at *
      have hbA : Below wb.heap.size wb wb.drew := (Below.refl _ _).drew
      have q0 : w.heap.size < wb.heap.size := by omega
      have q1 : w.heap.size + 1 < wb.heap.size := by omega
      have r1 : ¬ (w.heap.size + 1 = w1.heap.size) := by omega
      go_region_held3 (fun w' => w'.cell? ⟨w1.heap.size, 0, none⟩ = some (.bool n1) ∧ w'.cell? ⟨w1.heap.size, 1, none⟩ = some (.slice a1 l1 c1) ∧ w'.cell? ⟨w.heap.size, 0, none⟩ = some (.bool na) ∧ w'.cell? ⟨w.heap.size, 1, none⟩ = some (.slice a l c)) (go_keep)
        (first
          | (go_at_call 55; refine (mul_any _ _ _ _ _ _ _ _ _ x _ hN2 (HX2.out.below hbA (Nat.le_refl _)) FHH.out FX.out).mono ?_; rintro e w3 ⟨n3, a3, l3, c3, rfl, hN3, hb3, hf3⟩; replace hbA := hbA.trans (hb3.mono (Nat.le_trans (by simp) hbA.size)); clear bc2 bf2; obtain ⟨bc3, bf3⟩ := bcell hbA)
          | (go_at_call 55; refine (mul_any _ _ _ _ _ _ _ _ h h _ (HN2.out.below hbA (Nat.le_refl _)) (HN2.out.below hbA (Nat.le_refl _)) FH.out FH.out).mono ?_; rintro e w2 ⟨n2, a2, l2, c2, rfl, hN2, hb2, -⟩; replace hbA := hbA.trans (hb2.mono (Nat.le_trans (by simp) hbA.size)); obtain ⟨bc2, bf2⟩ := bcell hbA))
      go_wp2_with fail
      rw [PP1.out hp] at hN3
      have hw2 : w.heap.size ≤ w2.heap.size := by have := hb2.size; simp at this; omega
      exact bodyPost_ret (v := .agg #[.bool n3, .slice a3 l3 c3]) (by simp [results, Tryz.results102, go_sem, bc3, q1, g0', g1']) rfl
        (RetNum.stored hN3 (by omega) (HBv.out.trans (hbA.mono (by omega))) (by rw [bc3 _ _ q1]; exact g0') (by rw [bc3 _ _ q1]; exact g1') (hf3.mono hw2))
    · have hp2 : ((n : Int) % 2 == 1) = false := by simp; omega
      go_wp2_with fail
      generalize (w1.alloc (.cells #[.bool n1, .slice a1 l1 c1] 61)) = wb at *
      have q0 : w.heap.size < wb.heap.size := by omega
      have q1 : w.heap.size + 1 < wb.heap.size := by omega
      refine (mul_any _ _ _ _ _ _ _ _ h h _ HN2.out HN2.out FH.out FH.out).mono ?_; rintro e w3 ⟨n3, a3, l3, c3, rfl, hN3, hb3, hf3⟩
      obtain ⟨bc3, bf3⟩ := bcell hb3
      go_wp2_with fail
      rw [PP3.out (by omega)] at hN3
      exact bodyPost_ret (v := .agg #[.bool n3, .slice a3 l3 c3]) (by simp [results, Tryz.results102, go_sem, bc3, q1, g0', g1']) rfl
        (RetNum.stored hN3 (by omega) (HBv.out.trans (hb3.mono (by omega))) (by rw [bc3 _ _ q1]; exact g0') (by rw [bc3 _ _ q1]; exact g1') (hf3.mono (by omega)))
end Go.Proofs.YtdbkgpakpadloaaGreatDoor
