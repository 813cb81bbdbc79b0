/- A real number's text, by definition (plain). No conditions. -/
import Derived.Test.YtdbkgpakpadloaaGreatDoorFloP
import Derived.Test.YtdbkgpakpadloaaGreatDoorNatX
import Derived.Lib.AtoiAll
import Derived.Lib.ItoaNum
import Derived.Lib.IndexMore
namespace Go.Proofs.YtdbkgpakpadloaaGreatDoor
open Go.RowKit Ieee

/-- a text's bytes -/
def lb (s : ByteArray) : List UInt8 := s.data.toList
theorem lb_app (a b : ByteArray) : lb (a ++ b) = lb a ++ lb b := by unfold lb; rw [ByteArray.data_append, Array.toList_append]
theorem lb_inj {a b : ByteArray} (h : lb a = lb b) : a = b := ByteArray.ext (Array.toList_inj.1 h)
theorem lb_size (s : ByteArray) : (lb s).length = s.size := Array.length_toList
theorem lb_mk (l : List UInt8) : lb ⟨l.toArray⟩ = l := rfl
def sgB (neg : Bool) : ByteArray := if neg then ⟨#[45]⟩ else ⟨#[]⟩
def txNone : ByteArray := ⟨#[110, 111, 110, 101]⟩
def txInf : ByteArray := ⟨#[105, 110, 102, 105, 110, 105, 116, 121]⟩
def txZero : ByteArray := ⟨#[48]⟩
def txP : ByteArray := ⟨#[112]⟩
/-- u tells the whole number x -/
def IsNum (x : Int) (u : ByteArray) : Prop := ∃ t, IsText (x.natAbs : Int) t ∧ u = sgB (decide (x < 0)) ++ t
theorem IsNum.one {x : Int} {u v : ByteArray} (h : IsNum x u) (k : IsNum x v) : u = v := by
  obtain ⟨s, h1, rfl⟩ := h
  obtain ⟨t, k1, rfl⟩ := k
  rw [h1.one k1]
/-- s tells the real number b -/
def IsReal (b : Nat) (s : ByteArray) : Prop := ∃ neg m x, SplitOut b neg m x ∧ ((kindZ b = 0 ∧ s = sgB neg ++ txZero) ∨ (kindZ b = 2 ∧ s = sgB neg ++ txInf) ∨ (kindZ b = 3 ∧ s = txNone) ∨
  (kindZ b = 1 ∧ ∃ t u, IsText m t ∧ IsNum x u ∧ s = sgB neg ++ t ++ txP ++ u))
theorem IsReal.one {b : Nat} {s t : ByteArray} (h : IsReal b s) (k : IsReal b t) : s = t := by
  obtain ⟨n, m, x, h0, h⟩ := h
  obtain ⟨n', m', x', k0, k⟩ := k
  obtain ⟨rfl, rfl, rfl⟩ := h0.one k0
  rcases h with ⟨h1, rfl⟩ | ⟨h1, rfl⟩ | ⟨h1, rfl⟩ | ⟨h1, a, u, h2, h3, rfl⟩ <;> rcases k with ⟨k1, rfl⟩ | ⟨k1, rfl⟩ | ⟨k1, rfl⟩ | ⟨k1, a', u', k2, k3, rfl⟩ <;> first | rfl | omega | skip
  rw [h2.one k2, h3.one k3]
/-- the value of digits, behind others -/
def dv (acc : Nat) : List UInt8 → Nat
  | [] => acc
  | c :: r => dv (acc * 10 + (c.toNat - 48)) r
theorem dv_ge : ∀ (l : List UInt8) (acc : Nat), acc ≤ dv acc l
  | [], _ => Nat.le_refl _
  | c :: r, acc => by
    have := dv_ge r (acc * 10 + (c.toNat - 48))
    show acc ≤ dv (acc * 10 + (c.toNat - 48)) r
    omega
theorem dv_snoc : ∀ (l : List UInt8) (acc : Nat) (c : UInt8), dv acc (l ++ [c]) = dv acc l * 10 + (c.toNat - 48)
  | [], _, _ => rfl
  | d :: r, acc, c => dv_snoc r (acc * 10 + (d.toNat - 48)) c
theorem parse_dv : ∀ (l : List UInt8) (acc : Nat), (∀ c ∈ l, 48 ≤ c.toNat ∧ c.toNat ≤ 57) → dv acc l < 1000000000000000000 → Lib.parseUint10 acc l = .ok (dv acc l)
  | [], _, _, _ => rfl
  | c :: r, acc, h, hl => by
    have hc := h c List.mem_cons_self
    have hg := dv_ge r (acc * 10 + (c.toNat - 48))
    have hl' : dv (acc * 10 + (c.toNat - 48)) r < 1000000000000000000 := hl
    unfold Lib.parseUint10
    rw [if_pos hc, if_neg (by omega), if_neg (by omega), parse_dv r _ (fun d hd => h d (List.mem_cons_of_mem _ hd)) hl']
    rfl
theorem tv_dv (s : ByteArray) : ∀ i, i ≤ s.size → (∀ j, j < i → 48 ≤ sb s j ∧ sb s j ≤ 57) → tv s i = (dv 0 ((lb s).take i) : Int)
  | 0, _, _ => rfl
  | i + 1, hi, h => by
    have hlt : i < (lb s).length := by rw [lb_size]; omega
    have h1 := h i (by omega)
    have e : sb s i = (((lb s)[i]).toNat : Int) := by
      unfold sb; rw [List.getD_eq_getElem?_getD, show s.data.toList = lb s from rfl, List.getElem?_eq_getElem hlt]; rfl
    rw [List.take_succ_eq_append_getElem hlt, dv_snoc]
    show tv s i * 10 + (sb s i - 48) = _
    rw [tv_dv s i (by omega) (fun j hj => h j (by omega)), e]
    rw [e] at h1
    omega
theorem ok_digits {s : ByteArray} (h : OkText s) : ∀ c ∈ lb s, 48 ≤ c.toNat ∧ c.toNat ≤ 57 := by
  intro c hc
  obtain ⟨j, hj, rfl⟩ := List.getElem_of_mem hc
  have h1 := h.2.2.2 j (by rw [← lb_size]; exact hj)
  have e : sb s j = (((lb s)[j]).toNat : Int) := by
    unfold sb; rw [List.getD_eq_getElem?_getD, show s.data.toList = lb s from rfl, List.getElem?_eq_getElem hj]; rfl
  rw [e] at h1
  omega
theorem ok_parse {s : ByteArray} (h : OkText s) (hl : tv s s.size < 1000000000000000000) : Lib.parseMag (lb s) = .ok (tv s s.size).toNat := by
  have e := tv_dv s s.size (Nat.le_refl _) h.2.2.2
  rw [List.take_of_length_le (by rw [lb_size]; exact Nat.le_refl _)] at e
  unfold Lib.parseMag
  rw [if_neg (fun h0 => by have := lb_size s; rw [h0] at this; have := h.1; simp at *; omega), e]
  exact parse_dv _ _ (ok_digits h) (by omega)
theorem num_atoi {x : Int} {u : ByteArray} (h : IsNum x u) (hx : x.natAbs < 1000000000000000000) : Lib.atoiAll (lb u) = .ok x := by
  obtain ⟨t, ht, rfl⟩ := h
  obtain ⟨ho, hv⟩ := ht.ok (by have : (1000000000000000000 : Int) ≤ 10 ^ 250 := by decide
                               omega)
  have hp := ok_parse ho (by rw [hv]; omega)
  rw [hv] at hp
  have hd := ok_digits ho
  rw [lb_app]
  by_cases hx0 : x < 0
  · rw [decide_eq_true hx0]
    show Lib.atoiAll (45 :: lb t) = _
    unfold Lib.atoiAll
    simp only [show (45 : UInt8).toNat = 45 from rfl, or_true, if_true, hp]
    rw [if_neg (fun h => h.1 trivial), if_neg (by omega)]
    congr 1; omega
  · rw [decide_eq_false hx0]
    show Lib.atoiAll (lb t) = _
    rcases hl : lb t with _ | ⟨c, r⟩
    · have := lb_size t; rw [hl] at this; have := ho.1; simp at *; omega
    · rw [hl] at hp hd
      have hc := hd c List.mem_cons_self
      unfold Lib.atoiAll
      simp only
      rw [if_neg (by omega), hp]
      simp only
      rw [if_neg (by omega), if_neg (by omega), if_neg (by omega)]
      congr 1; omega
theorem dec_digs : ∀ (k u : Nat), u < k → 0 < u → ∃ ds, Dig 10 ds ∧ Trimmed ds ∧ V 10 ds = (u : Int) ∧ ds ≠ [] ∧ Lib.decDigits u = (chars ds).reverse.map fun n => UInt8.ofNat n.toNat
  | 0, _, h, _ => by omega
  | k + 1, u, h, h0 => by
    by_cases hu : u < 10
    · refine ⟨[(u : Int)], fun d hd => ?_, ?_, (by rw [V_cons]; show (u : Int) + 10 * 0 = _; omega), by simp, ?_⟩
      · simp only [List.mem_singleton] at hd; subst hd; omega
      · right; simp; omega
      · rw [Lib.decDigits, dif_pos hu]
        show [UInt8.ofNat (48 + u)] = [UInt8.ofNat (48 + (u : Int)).toNat]
        rw [show (48 + (u : Int)).toNat = 48 + u from by omega]
    · obtain ⟨ds, h1, h2, h3, h4, h5⟩ := dec_digs k (u / 10) (by omega) (by omega)
      refine ⟨((u % 10 : Nat) : Int) :: ds, fun d hd => ?_, ?_, ?_, by simp, ?_⟩
      · rw [List.mem_cons] at hd
        rcases hd with rfl | hd
        · omega
        · exact h1 d hd
      · right
        rcases h2 with h2 | h2
        · exact absurd h2 h4
        · have hl : 0 < ds.length := List.length_pos_iff.2 h4
          rw [List.length_cons, show ds.length + 1 - 1 = (ds.length - 1) + 1 from by omega]
          simpa using h2
      · rw [V_cons, h3]; omega
      · rw [Lib.decDigits, dif_neg hu, h5, show chars (((u % 10 : Nat) : Int) :: ds) = (48 + ((u % 10 : Nat) : Int)) :: chars ds from rfl, List.reverse_cons, List.map_append, List.map_cons, List.map_nil,
          show (48 + ((u % 10 : Nat) : Int)).toNat = 48 + u % 10 from by omega]
theorem dec_text (u : Nat) : IsText (u : Int) ⟨(Lib.decDigits u).toArray⟩ := by
  rcases Nat.eq_zero_or_pos u with rfl | h0
  · refine ⟨[], (fun d hd => by cases hd), .inl rfl, rfl, ?_⟩
    rw [if_pos rfl, Lib.decDigits, dif_pos (by decide)]
    rfl
  · obtain ⟨ds, h1, h2, h3, h4, h5⟩ := dec_digs (u + 1) u (by omega) h0
    exact ⟨ds, h1, h2, h3, by rw [if_neg h4, h5]; rfl⟩
theorem itoa_num (x : Int) : IsNum x ⟨(Lib.itoa x).toArray⟩ := by
  by_cases h : x < 0
  · refine ⟨_, dec_text x.natAbs, ?_⟩
    unfold Lib.itoa
    rw [if_pos h, decide_eq_true h]
    exact lb_inj (by rw [lb_app]; rfl)
  · refine ⟨_, dec_text x.natAbs, ?_⟩
    unfold Lib.itoa
    rw [if_neg h, decide_eq_false h, show x.toNat = x.natAbs from by omega]
    exact lb_inj (by rw [lb_app]; rfl)
end Go.Proofs.YtdbkgpakpadloaaGreatDoor
