/- One law for an append of whatever row to a row of the call's own. Condition: at most 2^43 elements. -/
import Derived.Test.YtehmompbmnejkaaGreatMNum
import Derived.Test.YtehmompbmnejkaaGreatMReg
namespace Go.Proofs.YtehmompbmnejkaaGreat
open Go.RowKit

theorem run_append_row (k : IntKind) (t e : TypeId) (bytes : Nat) (hinfo : (Tryz.prog.info? e).map (fun i => (i.zero, i.size, i.bytes)) = some (some (.int k 0), 1, bytes)) (hb8 : bytes ≤ 8) (ht : Tryz.prog.underlying t = some (.slice e)) (ty : TypeId)
  (w : World) (B : Nat) (v : Value) (n : Nat) (xs : List Int) (hown : OwnK k w B e v n xs) (a : Option Addr) (m c : Nat) (ys : List Int) (hr : RowK k w a m c ys) (ha : a = none → m = 0 ∧ c = 0) (hlen : n + m ≤ 8796093022208) (hB : B ≤ w.heap.size) :
  ∃ v' w', (Builtin.append_ #[t, t] ty #[v, .slice a m c]).run Tryz.prog w = .ok v' w' ∧ OwnK k w' B e v' (n + m) (xs ++ ys) ∧ w.grownBy w' v.ownBlock := by
 obtain ⟨i0, hi, hz0, hz1, hz2⟩ := info_parts hinfo
 cases a with
 | none =>
  obtain ⟨rfl, rfl⟩ := ha rfl
  have : ys = [] := by have := hr.1; exact List.length_eq_zero_iff.1 this
  subst this
  have hrun := run_append_owned_none (P := Tryz.prog) (w := w) B t ty e i0 1 ht hi v n _ hown
  exact ⟨v, w, hrun, by simpa using hown, ⟨rfl, rfl, rfl, Nat.le_refl _, fun _ _ _ => rfl⟩⟩
 | some ad =>
  have hnews : ∀ j u, (ys.map (Value.int k))[j]? = some u → w.cell? (ad.add j) = some u := by
   intro j u hu
   rw [List.getElem?_map] at hu
   have hj : j < ys.length := by
    rcases Nat.lt_or_ge j ys.length with h | h
    ·exact h
    ·rw [List.getElem?_eq_none h] at hu; simp at hu
   rw [List.getElem?_eq_getElem hj] at hu
   simp only [Option.map_some, Option.some.injEq] at hu
   have hm := hr.1
   rcases hr.2.2.2 with h0 | ⟨b, off, hab, _, hc⟩
   ·have := hr.2.1; omega
   ·cases hab
    have := hc j (by omega)
    rw [List.getD_eq_getElem?_getD, List.getElem?_eq_getElem hj] at this
    rw [← hu]
    by_cases hj0 : j = 0
    ·subst hj0; simpa [Addr.add] using this
    ·simpa [Addr.add, hj0] using this
  have h1 : ∀ u ∈ ys.map (Value.int k), u.oneCell' = true := by
   intro u hu
   obtain ⟨z, _, rfl⟩ := List.mem_map.1 hu
   rfl
  have hbytes : (n + m) * bytes ≤ 140737488355328 := by
   have : (n + m) * bytes ≤ (n + m) * 8 := Nat.mul_le_mul_left _ hb8
   omega
  obtain ⟨v', w', hrun, h2, h3, _⟩ := run_append_own (P := Tryz.prog) w B t ty e i0 (.int k 0) 1 bytes ht hi hz0 hz1 hz2 rfl (by decide) v n _ hown ad m c (ys.map (Value.int k)) (by rw [List.length_map, hr.1, Nat.mul_one]) hnews h1 (by unfold maxLen; omega) hbytes hB
  exact ⟨v', w', hrun, by unfold OwnK; rw [List.map_append]; exact h2, h3⟩

/-- at a step of a region that draws -/
theorem step_append_row (k : IntKind) (t e : TypeId) (bytes : Nat) (hinfo : (Tryz.prog.info? e).map (fun i => (i.zero, i.size, i.bytes)) = some (some (.int k 0), 1, bytes)) (hb8 : bytes ≤ 8) (ht : Tryz.prog.underlying t = some (.slice e))
  {ops : Array Oper} {o : Oper} {a : Act} {K : Act → World → Prop} {Q : Exit → Act → World → Prop} {E : Prop} (hgd : o.guard = none) (s x : Operand)
  (ho : o.op = .call { callee := .builtin .append, args := #[s, x], argTypes := #[t, t] })
  (w : World) (B : Nat) (v : Value) (n : Nat) (xs : List Int) (na : Option Addr) (m c : Nat) (ys : List Int) (hs : a.eval s = v) (hx : a.eval x = .slice na m c) (hown : OwnK k w B e v n xs) (hr : RowK k w na m c ys) (ha : na = none → m = 0 ∧ c = 0) (hlen : n + m ≤ 8796093022208) (hB : B ≤ w.heap.size)
  (h : ∀ v' w', OwnK k w' B e v' (n + m) (xs ++ ys) → w.grownBy w' v.ownBlock → (∀ w0, Below B w0 w → Below B w0 w') → K (a.put o.dst v') w') :
  if Region.wanted o (yielded ops a.tmps) = true then Oper.wp Tryz.prog o a w K Q else E := by
 have hw : Region.wanted o (yielded ops a.tmps) = true := by simp [Region.wanted, hgd]
 rw [if_pos hw]
 obtain ⟨v', w', hrun, h2, h3⟩ := run_append_row k t e bytes hinfo hb8 ht o.type w B v n xs hown na m c ys hr ha hlen hB
 unfold Oper.wp execOp
 simp only [ho, resolve, invoke, builtin, Sem.run_bind, Sem.run_pure, Result.andThen_ok, List.map_toArray, List.map_cons, List.map_nil, hs, hx, hrun]
 exact h v' w' h2 h3 fun w0 hb => hb.grown h3 hB fun k' hk => (World.ownsRow.lt hown k' hk).1

/-- at the list of a plain region's operations -/
theorem wpList_append_row (k : IntKind) (t e : TypeId) (bytes : Nat) (hinfo : (Tryz.prog.info? e).map (fun i => (i.zero, i.size, i.bytes)) = some (some (.int k 0), 1, bytes)) (hb8 : bytes ≤ 8) (ht : Tryz.prog.underlying t = some (.slice e))
  {ops : Array Oper} {rest : List Oper} {o : Oper} {a : Act} {Q : Exit → Act → World → Prop} (hgd : o.guard = none) (s x : Operand)
  (ho : o.op = .call { callee := .builtin .append, args := #[s, x], argTypes := #[t, t] })
  (w : World) (B : Nat) (v : Value) (n : Nat) (xs : List Int) (na : Option Addr) (m c : Nat) (ys : List Int) (hs : a.eval s = v) (hx : a.eval x = .slice na m c) (hown : OwnK k w B e v n xs) (hr : RowK k w na m c ys) (ha : na = none → m = 0 ∧ c = 0) (hlen : n + m ≤ 8796093022208) (hB : B ≤ w.heap.size)
  (h : ∀ v' w', OwnK k w' B e v' (n + m) (xs ++ ys) → w.grownBy w' v.ownBlock → (∀ w0, Below B w0 w → Below B w0 w') → wpList Tryz.prog ops Q rest (a.put o.dst v') w') : wpList Tryz.prog ops Q (o :: rest) a w := by
 refine wpList_plain hgd fun K hK => ?_
 obtain ⟨v', w', hrun, h2, h3⟩ := run_append_row k t e bytes hinfo hb8 ht o.type w B v n xs hown na m c ys hr ha hlen hB
 unfold Oper.wp execOp
 simp only [ho, resolve, invoke, builtin, Sem.run_bind, Sem.run_pure, Result.andThen_ok, List.map_toArray, List.map_cons, List.map_nil, hs, hx, hrun]
 exact hK _ _ (h v' w' h2 h3 fun w0 hb => hb.grown h3 hB fun k' hk => (World.ownsRow.lt hown k' hk).1)
end Go.Proofs.YtehmompbmnejkaaGreat
/- Contract of package bushelref01's Div. Conditions: the divisor is not 0; the numbers together lie below 1000^1000000. -/
namespace Go.Proofs.YtehmompbmnejkaaGreat
open Go.RowKit

theorem RowK.none {k : IntKind} {w : World} {n c : Nat} {xs : List Int} (h : RowK k w none n c xs) : n = 0 ∧ c = 0 := by
 rcases h.2.2.2 with h0 | ⟨b, off, e, _⟩
 ·exact ⟨by have := h.2.1; omega, h0⟩
 ·cases e
theorem RowK.none' {k : IntKind} {w : World} {a : Option Addr} {n c : Nat} {xs : List Int} (h : RowK k w a n c xs) : a = Option.none → n = 0 ∧ c = 0 := fun e => by subst e; exact h.none

theorem NumC.set2 {w : World} {neg : Bool} {a : Option Addr} {n cap : Nat} {z : Int} {B : Nat} {u : Bool} {p : Option Addr} {q r : Nat} (h : NumC w neg a n cap z) (h0 : w.cell? ⟨B, 0, none⟩ = some (.bool u)) (h1 : w.cell? ⟨B, 1, none⟩ = some (.slice p q r)) (u' : Bool) (p' : Option Addr) (q' r' : Nat) :
  NumC ((w.setCell ⟨B, 0, none⟩ (.bool u')).setCell ⟨B, 1, none⟩ (.slice p' q' r')) neg a n cap z :=
 (h.set h0 (fun _ e => by cases e) _).set (u := .slice p q r) (by rw [World.cell?_setCell_other _ _ _ _ (by simp)]; exact h1) (fun _ e => by cases e) _

end Go.Proofs.YtehmompbmnejkaaGreat
/- Contract of package bushelref01's Power. Conditions: the count is not below 0; all powers up to it lie below 1000^1000000. -/
namespace Go.Proofs.YtehmompbmnejkaaGreat
open Go.RowKit

theorem pow_half (x : Int) (n : Nat) (h : n % 2 = 0) : x ^ (n / 2) * x ^ (n / 2) = x ^ n := by
 rw [← Int.pow_add]; congr 1; omega
theorem pow_half1' (x : Int) (n : Nat) (h : n % 2 = 1) : x ^ (n / 2) * x ^ (n / 2) = x ^ (n - 1) := by
 rw [← Int.pow_add]; congr 1; omega
theorem pow_half1 (x : Int) (n : Nat) (h : n % 2 = 1) : x ^ (n / 2) * x ^ (n / 2) * x = x ^ n := by
 rw [← Int.pow_add, ← Int.pow_succ]; congr 1; omega

set_option maxHeartbeats 1000000 in
theorem power_any : ∀ (n : Nat) (na : Bool) (a : Option Addr) (l c : Nat) (x : Int) (w : World), NumC w na a l c x → (∀ m, m ≤ n → Fit (x ^ m)) → (n : Int) ≤ 9223372036854775807 →
  Calls Tryz.prog 105 #[.agg #[.bool na, .slice a l c], .int .i64 n] w (RetNum w (x ^ n)) := by
 intro n
 induction n using Nat.strongRecOn with | ind n ih => ?_
 intro na a l c x w hx hf hn
 have HX := Lib.hid hx
 have HF := Lib.hid hf
 clear hx hf
 by_cases h0 : n = 0
 ·subst h0
  clear ih
  rw [Int.pow_zero]
  go_enter Tryz.func105, Tryz.ntmps105
  go_wp2_with fail
  refine (nat_any 1 _ (by omega) (by omega)).mono ?_; rintro e w1 ⟨n1, a1, l1, c1, rfl, hN1, hb1, hf1⟩
  obtain ⟨bc1, bf1⟩ := bcell hb1
  have hB := (((Below.refl w.heap.size w).alloc (Nat.le_refl _) (.cells #[.bool na, .slice a l c] 83)).alloc (by simp) (.cells #[.bool false, .slice none 0 0] 83)).trans (hb1.mono (by simp; omega))
  have q0 : w.heap.size + 1 < w.heap.size + 1 + 1 := by omega
  go_wp2_with fail
  exact bodyPost_ret (v := .agg #[.bool n1, .slice a1 l1 c1]) (by simp [results, Tryz.results105, go_sem, bc1]) rfl
   (RetNum.stored hN1 (by omega) hB (by simp [go_sem, bc1]) (by simp [go_sem, bc1]) (hf1.mono (by simp; omega)))
 ·have hk : n / 2 < n := by omega
  have IH := Lib.hid (ih (n / 2) hk)
  have hq : (n : Int) / 2 = ((n / 2 : Nat) : Int) := by omega
  clear ih
  have hn0 : ¬ ((n : Int) ≤ 0) := by omega
  have FX : Hid (Fit x) := Lib.hid (by have h := HF.out 1 (by omega); rw [Int.pow_succ, Int.pow_zero, Int.one_mul] at h; exact h)
  have FH : Hid (Fit (x ^ (n / 2))) := Lib.hid (HF.out (n / 2) (by omega))
  have hk2 : ((n / 2 : Nat) : Int) ≤ 9223372036854775807 := by omega
  have HQ := Lib.hid hq
  clear hq
  go_enter Tryz.func105, Tryz.ntmps105
  go_wp2_with fail
  rw [HQ.out]
  refine (IH.out na a l c x _ (HX.out.below (((Below.refl _ _).alloc (Nat.le_refl _) _).alloc (by simp) _) (Nat.le_refl _)) (fun m hm => HF.out m (by omega)) hk2).mono ?_
  rintro e w1 ⟨n1, a1, l1, c1, rfl, hN1, hb1, -⟩
  obtain ⟨bc, bf⟩ := bcell hb1
  have hs1 : w.heap.size + 1 < w1.heap.size := by have := hb1.size; simp at this; omega
  have hs0 : w.heap.size < w1.heap.size := by omega
  have f0 : w1.cell? ⟨w.heap.size, 0, none⟩ = some (.bool na) := by rw [bc _ _ (by simp; omega)]; simp [go_sem]
  have f1 : w1.cell? ⟨w.heap.size, 1, none⟩ = some (.slice a l c) := by rw [bc _ _ (by simp; omega)]; simp [go_sem]
  have g0 : w1.cell? ⟨w.heap.size + 1, 0, none⟩ = some (.bool false) := by rw [bc _ _ (by simp)]; simp [go_sem]
  have g1 : w1.cell? ⟨w.heap.size + 1, 1, none⟩ = some (.slice none 0 0) := by rw [bc _ _ (by simp)]; simp [go_sem]
  have gf : ∀ o, w1.frozen? ⟨w.heap.size + 1, o, none⟩ = false := fun o => by rw [bf _ _ (by simp)]; simp [go_sem]
  have HBw := Lib.hid ((((Below.refl w.heap.size w).alloc (Nat.le_refl _) (.cells #[.bool na, .slice a l c] 83)).alloc (by simp) (.cells #[.bool false, .slice none 0 0] 83)).trans (hb1.mono (by simp; omega)))
  have HN1 := Lib.hid hN1
  clear bc bf hb1 hN1 HQ IH
  have al : ∀ p u o, w1.cell? p = some u → (w1.alloc o).cell? p = some u := fun p u o h => by rw [World.cell?_alloc_some _ _ _ (by rw [h]; rfl)]; exact h
  have f0' := al _ _ (.cells #[.bool n1, .slice a1 l1 c1] 83) f0
  have f1' := al _ _ (.cells #[.bool n1, .slice a1 l1 c1] 83) f1
  have g0' := al _ _ (.cells #[.bool n1, .slice a1 l1 c1] 83) g0
  have g1' := al _ _ (.cells #[.bool n1, .slice a1 l1 c1] 83) g1
  have gf' : ∀ o, (w1.alloc (.cells #[.bool n1, .slice a1 l1 c1] 83)).frozen? ⟨w.heap.size + 1, o, none⟩ = false := fun o => by rw [World.frozen?_of_block (w := w1) (Below.heap_alloc _ _ _ hs1)]; exact gf o
  have h0' : (w1.alloc (.cells #[.bool n1, .slice a1 l1 c1] 83)).cell? ⟨w1.heap.size, 0, none⟩ = some (.bool n1) := by simp [go_sem]
  have h1' : (w1.alloc (.cells #[.bool n1, .slice a1 l1 c1] 83)).cell? ⟨w1.heap.size, 1, none⟩ = some (.slice a1 l1 c1) := by simp [go_sem]
  have hz : w1.heap.size < (w1.alloc (.cells #[.bool n1, .slice a1 l1 c1] 83)).heap.size := by simp
  have HN2 := Lib.hid (HN1.out.below ((Below.refl _ _).alloc (Nat.le_refl _) (.cells #[.bool n1, .slice a1 l1 c1] 83)) (Nat.le_refl _))
  have HX2 := Lib.hid (HX.out.below (HBw.out.alloc (by omega) (.cells #[.bool n1, .slice a1 l1 c1] 83)) (Nat.le_refl _))
  have HBv := Lib.hid (HBw.out.alloc (by omega) (.cells #[.bool n1, .slice a1 l1 c1] 83))
  have AB := Lib.hid al
  clear al f0 f1 g0 g1 gf HN1 HBw HX
  have P1 : n % 2 = 1 → x ^ (n / 2) * x ^ (n / 2) * x = x ^ n := pow_half1 x n
  have P2 : n % 2 = 1 → Fit (x ^ (n / 2) * x ^ (n / 2)) := fun hp => by rw [pow_half1' x n hp]; exact HF.out (n - 1) (by omega)
  have P3 : n % 2 = 0 → x ^ (n / 2) * x ^ (n / 2) = x ^ n := pow_half x n
  generalize x ^ (n / 2) = h at *
  generalize x ^ n = z at *
  have PP1 := Lib.hid P1
  have PP2 := Lib.hid P2
  have PP3 := Lib.hid P3
  clear P1 P2 P3 HF hk
  by_cases hp : n % 2 = 1
  ·have hp2 : ((n : Int) % 2 == 1) = true := by simp; omega
   have FHH := Lib.hid (PP2.out hp)
   go_wp2_with fail
   generalize (w1.alloc (.cells #[.bool n1, .slice a1 l1 c1] 83)) = wb at *
   have hbA : Below wb.heap.size wb wb.drew := (Below.refl _ _).drew
   have q0 : w.heap.size < wb.heap.size := by omega
   have q1 : w.heap.size + 1 < wb.heap.size := by omega
   have r1 : ¬ (w.heap.size + 1 = w1.heap.size) := by omega
   go_region_held3 (fun w' => w'.cell? ⟨w1.heap.size, 0, none⟩ = some (.bool n1) ∧ w'.cell? ⟨w1.heap.size, 1, none⟩ = some (.slice a1 l1 c1) ∧ w'.cell? ⟨w.heap.size, 0, none⟩ = some (.bool na) ∧ w'.cell? ⟨w.heap.size, 1, none⟩ = some (.slice a l c)) (go_keep)
    (first
     | (go_at_call 32; refine (mul_any _ _ _ _ _ _ _ _ _ x _ hN2 (HX2.out.below hbA (Nat.le_refl _)) FHH.out FX.out).mono ?_; rintro e w3 ⟨n3, a3, l3, c3, rfl, hN3, hb3, hf3⟩; replace hbA := hbA.trans (hb3.mono (Nat.le_trans (by simp) hbA.size)); clear bc2 bf2; obtain ⟨bc3, bf3⟩ := bcell hbA)
     | (go_at_call 32; refine (mul_any _ _ _ _ _ _ _ _ h h _ (HN2.out.below hbA (Nat.le_refl _)) (HN2.out.below hbA (Nat.le_refl _)) FH.out FH.out).mono ?_; rintro e w2 ⟨n2, a2, l2, c2, rfl, hN2, hb2, -⟩; replace hbA := hbA.trans (hb2.mono (Nat.le_trans (by simp) hbA.size)); obtain ⟨bc2, bf2⟩ := bcell hbA))
   go_wp2_with fail
   rw [PP1.out hp] at hN3
   have hw2 : w.heap.size ≤ w2.heap.size := by have := hb2.size; simp at this; omega
   exact bodyPost_ret (v := .agg #[.bool n3, .slice a3 l3 c3]) (by simp [results, Tryz.results105, go_sem, bc3, q1, g0', g1']) rfl
    (RetNum.stored hN3 (by omega) (HBv.out.trans (hbA.mono (by omega))) (by rw [bc3 _ _ q1]; exact g0') (by rw [bc3 _ _ q1]; exact g1') (hf3.mono hw2))
  ·have hp2 : ((n : Int) % 2 == 1) = false := by simp; omega
   go_wp2_with fail
   generalize (w1.alloc (.cells #[.bool n1, .slice a1 l1 c1] 83)) = wb at *
   have q0 : w.heap.size < wb.heap.size := by omega
   have q1 : w.heap.size + 1 < wb.heap.size := by omega
   refine (mul_any _ _ _ _ _ _ _ _ h h _ HN2.out HN2.out FH.out FH.out).mono ?_; rintro e w3 ⟨n3, a3, l3, c3, rfl, hN3, hb3, hf3⟩
   obtain ⟨bc3, bf3⟩ := bcell hb3
   go_wp2_with fail
   rw [PP3.out (by omega)] at hN3
   exact bodyPost_ret (v := .agg #[.bool n3, .slice a3 l3 c3]) (by simp [results, Tryz.results105, go_sem, bc3, q1, g0', g1']) rfl
    (RetNum.stored hN3 (by omega) (HBv.out.trans (hb3.mono (by omega))) (by rw [bc3 _ _ q1]; exact g0') (by rw [bc3 _ _ q1]; exact g1') (hf3.mono (by omega)))
end Go.Proofs.YtehmompbmnejkaaGreat
