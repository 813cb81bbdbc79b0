/- A real number's text, by definition (plain). No conditions. -/
import Derived.Test.YtkojcamlllenkaaDoorMFloN
import Derived.Test.YtkojcamlllenkaaDoorNatX
import Derived.Test.YtkojcamlllenkaaDoorShlfRR
import Derived.Test.YtkojcamlllenkaaDoorMNtB
import Derived.Test.YtkojcamlllenkaaDoorMFloC
import Derived.Test.YtkojcamlllenkaaDoorRef02e
import Derived.Test.YtkojcamlllenkaaDoorRef01o
import Derived.Lib.AtoiAll
import Derived.Lib.ItoaNum
import Derived.Lib.IndexMore
import Derived.Lib.LaidTab
namespace Go.Proofs.YtkojcamlllenkaaDoor
open Go.RowKit Ieee

/-- a text's bytes -/
def lb (s : ByteArray) : List UInt8 := s.data.toList
theorem lb_app (a b : ByteArray) : lb (a ++ b) = lb a ++ lb b := by unfold lb; rw [ByteArray.data_append, Array.toList_append]
theorem lb_inj {a b : ByteArray} (h : lb a = lb b) : a = b := ByteArray.ext (Array.toList_inj.1 h)
def sgB (neg : Bool) : ByteArray := if neg then ⟨#[45]⟩ else ⟨#[]⟩
def txNone : ByteArray := ⟨#[110, 111, 110, 101]⟩
def txInf : ByteArray := ⟨#[105, 110, 102, 105, 110, 105, 116, 121]⟩
def txZero : ByteArray := ⟨#[48]⟩
def txP : ByteArray := ⟨#[112]⟩
/-- u tells the whole number x -/
def IsNum (x : Int) (u : ByteArray) : Prop := ∃ t, IsText (x.natAbs : Int) t ∧ u = sgB (decide (x < 0)) ++ t
theorem IsNum.one {x : Int} {u v : ByteArray} (h : IsNum x u) (k : IsNum x v) : u = v := by
 obtain ⟨s, h1, rfl⟩ := h
 obtain ⟨t, k1, rfl⟩ := k
 rw [h1.one k1]
/-- s tells the real number b -/
def IsReal (b : Nat) (s : ByteArray) : Prop := ∃ neg m x, SplitOut b neg m x ∧ ((kindZ b = 0 ∧ s = sgB neg ++ txZero) ∨ (kindZ b = 2 ∧ s = sgB neg ++ txInf) ∨ (kindZ b = 3 ∧ s = txNone) ∨
 (kindZ b = 1 ∧ ∃ t u, IsText m t ∧ IsNum x u ∧ s = sgB neg ++ t ++ txP ++ u))
theorem IsReal.one {b : Nat} {s t : ByteArray} (h : IsReal b s) (k : IsReal b t) : s = t := by
 obtain ⟨n, m, x, h0, h⟩ := h
 obtain ⟨n', m', x', k0, k⟩ := k
 obtain ⟨rfl, rfl, rfl⟩ := h0.one k0
 rcases h with ⟨h1, rfl⟩ | ⟨h1, rfl⟩ | ⟨h1, rfl⟩ | ⟨h1, a, u, h2, h3, rfl⟩ <;> rcases k with ⟨k1, rfl⟩ | ⟨k1, rfl⟩ | ⟨k1, rfl⟩ | ⟨k1, a', u', k2, k3, rfl⟩ <;> first | rfl | omega | skip
 rw [h2.one k2, h3.one k3]
theorem dec_digs : ∀ (k u : Nat), u < k → 0 < u → ∃ ds, Dig 10 ds ∧ Trimmed ds ∧ V 10 ds = (u : Int) ∧ ds ≠ [] ∧ Lib.decDigits u = (chars ds).reverse.map fun n => UInt8.ofNat n.toNat
 | 0, _, h, _ => by omega
 | k + 1, u, h, h0 => by
  by_cases hu : u < 10
  ·refine ⟨[(u : Int)], fun d hd => ?_, ?_, (by rw [V_cons]; show (u : Int) + 10 * 0 = _; omega), by simp, ?_⟩
   ·simp only [List.mem_singleton] at hd; subst hd; omega
   ·right; simp; omega
   ·rw [Lib.decDigits, dif_pos hu]
    show [UInt8.ofNat (48 + u)] = [UInt8.ofNat (48 + (u : Int)).toNat]
    rw [show (48 + (u : Int)).toNat = 48 + u from by omega]
  ·obtain ⟨ds, h1, h2, h3, h4, h5⟩ := dec_digs k (u / 10) (by omega) (by omega)
   refine ⟨((u % 10 : Nat) : Int) :: ds, fun d hd => ?_, ?_, ?_, by simp, ?_⟩
   ·rw [List.mem_cons] at hd
    rcases hd with rfl | hd
    ·omega
    ·exact h1 d hd
   ·right
    rcases h2 with h2 | h2
    ·exact absurd h2 h4
    ·have hl : 0 < ds.length := List.length_pos_iff.2 h4
     rw [List.length_cons, show ds.length + 1 - 1 = (ds.length - 1) + 1 from by omega]
     simpa using h2
   ·rw [V_cons, h3]; omega
   ·rw [Lib.decDigits, dif_neg hu, h5, show chars (((u % 10 : Nat) : Int) :: ds) = (48 + ((u % 10 : Nat) : Int)) :: chars ds from rfl, List.reverse_cons, List.map_append, List.map_cons, List.map_nil,
     show (48 + ((u % 10 : Nat) : Int)).toNat = 48 + u % 10 from by omega]
theorem dec_text (u : Nat) : IsText (u : Int) ⟨(Lib.decDigits u).toArray⟩ := by
 rcases Nat.eq_zero_or_pos u with rfl | h0
 ·refine ⟨[], (fun d hd => by cases hd), .inl rfl, rfl, ?_⟩
  rw [if_pos rfl, Lib.decDigits, dif_pos (by decide)]
  rfl
 ·obtain ⟨ds, h1, h2, h3, h4, h5⟩ := dec_digs (u + 1) u (by omega) h0
  exact ⟨ds, h1, h2, h3, by rw [if_neg h4, h5]; rfl⟩
theorem itoa_num (x : Int) : IsNum x ⟨(Lib.itoa x).toArray⟩ := by
 by_cases h : x < 0
 ·refine ⟨_, dec_text x.natAbs, ?_⟩
  unfold Lib.itoa
  rw [if_pos h, decide_eq_true h]
  exact lb_inj (by rw [lb_app]; rfl)
 ·refine ⟨_, dec_text x.natAbs, ?_⟩
  unfold Lib.itoa
  rw [if_neg h, decide_eq_false h, show x.toNat = x.natAbs from by omega]
  exact lb_inj (by rw [lb_app]; rfl)
end Go.Proofs.YtkojcamlllenkaaDoor
/- Which real number a text tells: what report.Parse and bushelref44.Parse look at (plain). No conditions. -/
namespace Go.Proofs.YtkojcamlllenkaaDoor
open Go.RowKit Ieee

/-- the place of a number's lowest bit -/
theorem split_range {b : Nat} {neg : Bool} {m x : Int} (h : SplitOut b neg m x) (hk : kindZ b = 1) : -1074 ≤ x ∧ x ≤ 1023 := by
 rcases h with ⟨h1, -⟩ | ⟨h1, -, M, k, -, rfl, ho⟩
 ·exact absurd hk h1
 ·have hk1 := kind1.1 hk
  have hM : 0 < M := by have := ho.2; omega
  have h2 : iv (b % S63) < iv INF := iv_lt hk1.2
  rw [ho.1, iv_inf] at h2
  have h3 : 2 ^ k ≤ M * 2 ^ k := Nat.le_mul_of_pos_left _ hM
  have h4 : B52 * 2 ^ K2046 = 2 ^ (52 + K2046) := by rw [Nat.pow_add]
  rw [h4] at h2
  have h5 := two_pow_lt (Nat.lt_of_le_of_lt h3 h2)
  unfold K2046 at h5
  omega
end Go.Proofs.YtkojcamlllenkaaDoor
/- Contracts of package report's Real and value, and of package bushelref44's Int and Real. Conditions: the library's table of powers of ten is as the row lists it. -/
namespace Go.Proofs.YtkojcamlllenkaaDoor
open Go.RowKit Ieee

/-- the library's table is as its initialiser lays it -/
def Tab (w : World) : Prop := Lib.TabIs Tryd.prog w "internal/strconv.uint64pow10" .u64 Lib.pow10Tab
def RStr (P : ByteArray → Prop) (w : World) (e : Ending) (w' : World) : Prop := ∃ s, e = .returned (.string s) ∧ P s ∧ Below w.heap.size w w'
theorem RStr.mk {P : ByteArray → Prop} {w w' : World} {s : ByteArray} (h : P s) (hb : Below w.heap.size w w') : RStr P w (.returned (.string s)) w' := ⟨s, rfl, h, hb⟩
theorem grow_below (w : World) (k : Nat) (os : Array Obj) : Below w.heap.size w (Sort.grow (w.drewN k) os) :=
 ⟨rfl, rfl, rfl, by show w.heap.size ≤ (w.heap ++ os).size; rw [Array.size_append]; omega, fun j hj => by
  show (w.heap ++ os)[j]? = w.heap[j]?
  exact Array.getElem?_append_left hj⟩
theorem itoa_any (x : Int) (w : World) (h0 : -9223372036854775808 ≤ x) (h1 : x ≤ 9223372036854775807) (ht : Tab w) : Calls Tryd.prog 25 #[.int .i64 x] w (RStr (IsNum x) w) := by
 refine (Tryd.strconv_Itoa x h0 h1 w ht).mono ?_
 rintro e w' ⟨rfl, k, os, rfl⟩
 exact ⟨_, rfl, itoa_num x, grow_below w k os⟩
theorem fmt_any (x : Int) (w : World) (h0 : -9223372036854775808 ≤ x) (h1 : x ≤ 9223372036854775807) (ht : Tab w) : Calls Tryd.prog 49 #[.int .i64 x, .int .i64 10] w (RStr (IsNum x) w) := by
 refine (Tryd.strconv_FormatInt_10 x h0 h1 w ht).mono ?_
 rintro e w' ⟨rfl, k, os, rfl⟩
 exact ⟨_, rfl, itoa_num x, grow_below w k os⟩
theorem kind_four (b : Nat) : kindZ b = 0 ∨ kindZ b = 2 ∨ kindZ b = 3 ∨ kindZ b = 1 := by
 unfold kindZ
 split
 ·exact .inr (.inr (.inl rfl))
 ·split
  ·exact .inr (.inl rfl)
  ·split
   ·exact .inl rfl
   ·exact .inr (.inr (.inr rfl))
theorem split_lt {b : Nat} {neg : Bool} {m x : Int} (hb : b < 18446744073709551616) (h : SplitOut b neg m x) (hk : kindZ b = 1) : 0 ≤ m ∧ m < 9007199254740992 ∧ -1074 ≤ x ∧ x ≤ 1023 := by
 obtain ⟨M, rfl, hM, -⟩ := join_split hb h (.inr hk)
 obtain ⟨h1, h2⟩ := split_range h hk
 omega
theorem natc_len {w : World} {a : Option Addr} {n c : Nat} {z : Int} (h : NatC w a n c z) (hz : z < 18446744073709551616) : n ≤ 2 := by
 obtain ⟨xs, h1, h2, h3, rfl⟩ := h
 have hl := h1.1
 rcases Nat.lt_or_ge 2 n with h4 | h4
 ·have hne : xs ≠ [] := fun e => by rw [e] at hl; simp at hl; omega
  have hge := V_ge (B := 4294967296) (by decide) h2 h3 hne
  have h5 : (4294967296 : Int) ^ 2 ≤ 4294967296 ^ (xs.length - 1) := ipow_le (by decide) (by omega)
  have h6 : (4294967296 : Int) ^ 2 = 18446744073709551616 := by decide
  omega
 ·exact h4
theorem ntext_of {w : World} {a : Option Addr} {n c : Nat} {z : Int} (h : NatC w a n c z) (hz : z < 18446744073709551616) :
  Calls Tryd.prog 31 #[.slice a n c] w (RStr (IsText z) w) := by
 have hn := natc_len h hz
 obtain ⟨xs, h1, h2, h3, rfl⟩ := h
 exact ntext_any a n c xs w h1 h2 (by omega)
theorem text_size {z : Int} {t : ByteArray} (h : IsText z t) (hz : z < 18446744073709551616) : t.size ≤ 1000 := by
 have : (18446744073709551616 : Int) ≤ 10 ^ 250 := by decide
 exact (h.ok (by omega)).1.2.1
theorem num_size {x : Int} {u : ByteArray} (h : IsNum x u) (hx : x.natAbs < 18446744073709551616) : u.size ≤ 1001 := by
 obtain ⟨t, ht, rfl⟩ := h
 have h1 := text_size ht (by omega)
 rw [ByteArray.size_append]
 cases decide (x < 0)
 ·show 0 + t.size ≤ _; omega
 ·show 1 + t.size ≤ _; omega
set_option maxHeartbeats 4000000 in
theorem preal_any (b : Nat) (w : World) (hb : b < 18446744073709551616) (ht : ∀ w', Below w.heap.size w w' → Tab w') : Calls Tryd.prog 16 #[.float .f64 b] w (RStr (IsReal b) w) := by
 have HT := Lib.hid ht
 clear ht
 have HSP := Lib.hid (fun w => fsplit_any b w hb)
 have HK := Lib.hid (fun w => fkind_any b w hb)
 have HLT := Lib.hid (fun (neg : Bool) (m x : Int) (h : SplitOut b neg m x) (hk : kindZ b = 1) => split_lt hb h hk)
 clear hb
 obtain ⟨K, hK⟩ : ∃ K, kindZ b = K := ⟨_, rfl⟩
 have hfour := kind_four b
 rw [hK] at hfour
 rw [hK] at HK
 have HKK := Lib.hid hK
 clear hK
 go_enter Tryd.func16, Tryd.ntmps16
 go_wp2_with fail
 refine (HSP.out _).mono ?_; rintro e w1 ⟨neg, m, x, rfl, hs, rfl⟩
 have HS := Lib.hid hs
 clear hs
 cases neg
 ·go_wp2_with fail
  refine (HK.out _).mono ?_; rintro e w1 ⟨rfl, rfl⟩
  rcases hfour with rfl | rfl | rfl | rfl
  ·go_wp2_with fail
   go_ret
   exact RStr.mk ⟨_, _, _, HS.out, .inl ⟨HKK.out, rfl⟩⟩ (Below.refl _ _)
  ·go_wp2_with fail
   go_ret
   exact RStr.mk ⟨_, _, _, HS.out, .inr (.inl ⟨HKK.out, rfl⟩)⟩ (Below.refl _ _)
  ·go_wp2_with fail
   go_ret
   exact RStr.mk ⟨_, _, _, HS.out, .inr (.inr (.inl ⟨HKK.out, rfl⟩))⟩ (Below.refl _ _)
  ·obtain ⟨m0, m1, x0, x1⟩ := HLT.out _ _ _ HS.out HKK.out
   have HM64 : Hid (m < 18446744073709551616) := Lib.hid (by omega)
   have HX64 : Hid (x.natAbs < 18446744073709551616) := Lib.hid (by omega)
   have HOF := Lib.hid (fun w => nof_any m w m0 (by omega))
   have HIT := Lib.hid (fun w h => itoa_any x w (by omega) (by omega) h)
   clear m0 m1 x0 x1
   go_wp2_with fail
   refine (HOF.out _).mono ?_; rintro e w2 hn
   obtain ⟨a2, n2, c2, rfl, hN2, hb2, -⟩ := hn
   have HB2 := Lib.hid hb2
   have HTX : Hid (∀ w', Below w2.heap.size w2 w' → Calls Tryd.prog 31 #[.slice a2 n2 c2] w' fun e w'' => ∃ s, e = .returned (.string s) ∧ IsText m s ∧ Below w'.heap.size w' w'') := Lib.hid (fun w' hw => ntext_of (hN2.below hw (Nat.le_refl _)) HM64.out)
   clear hN2 hb2
   go_wp2_with fail
   refine (HTX.out _ (Below.refl _ _)).mono ?_; rintro e w3 ⟨t, rfl, htt, hb3⟩
   have HTT := Lib.hid htt
   have HB3 := Lib.hid (HB2.out.trans (hb3.mono HB2.out.size))
   have hts := text_size htt HM64.out
   clear htt hb3
   have hadd1 : ∀ w : World, (Op.stringOp .add ⟨#[]⟩ t).run Tryd.prog w = .ok (.string (⟨#[]⟩ ++ t)) w := fun w => run_string_add_sum w _ _ (by show 0 + t.size ≤ _; omega)
   have hadd2 : ∀ w : World, (Op.stringOp .add (⟨#[]⟩ ++ t) ⟨#[112]⟩).run Tryd.prog w = .ok (.string (⟨#[]⟩ ++ t ++ ⟨#[112]⟩)) w := fun w => run_string_add_sum w _ _ (by rw [ByteArray.size_append]; show 0 + t.size + 1 ≤ _; omega)
   go_wp2_with fail
   refine (HIT.out _ (HT.out _ HB3.out)).mono ?_; rintro e w4 ⟨u, rfl, hu, hb4⟩
   have HU := Lib.hid hu
   have HB4 := Lib.hid (HB3.out.trans (hb4.mono HB3.out.size))
   have hus := num_size hu HX64.out
   clear hu hb4 hadd1 hadd2
   have hadd3 : ∀ w : World, (Op.stringOp .add (⟨#[]⟩ ++ t ++ ⟨#[112]⟩) u).run Tryd.prog w = .ok (.string (⟨#[]⟩ ++ t ++ ⟨#[112]⟩ ++ u)) w := fun w => run_string_add_sum w _ _ (by rw [ByteArray.size_append, ByteArray.size_append]; show 0 + t.size + 1 + u.size ≤ _; omega)
   go_wp2_with fail
   go_ret
   exact RStr.mk ⟨_, _, _, HS.out, .inr (.inr (.inr ⟨HKK.out, t, u, HTT.out, HU.out, rfl⟩))⟩ HB4.out
 ·go_wp2_with fail
  refine (HK.out _).mono ?_; rintro e w1 ⟨rfl, rfl⟩
  rcases hfour with rfl | rfl | rfl | rfl
  ·go_wp2_with fail
   go_ret
   exact RStr.mk ⟨_, _, _, HS.out, .inl ⟨HKK.out, rfl⟩⟩ (Below.refl _ _)
  ·go_wp2_with fail
   go_ret
   exact RStr.mk ⟨_, _, _, HS.out, .inr (.inl ⟨HKK.out, rfl⟩)⟩ (Below.refl _ _)
  ·go_wp2_with fail
   go_ret
   exact RStr.mk ⟨_, _, _, HS.out, .inr (.inr (.inl ⟨HKK.out, rfl⟩))⟩ (Below.refl _ _)
  ·obtain ⟨m0, m1, x0, x1⟩ := HLT.out _ _ _ HS.out HKK.out
   have HM64 : Hid (m < 18446744073709551616) := Lib.hid (by omega)
   have HX64 : Hid (x.natAbs < 18446744073709551616) := Lib.hid (by omega)
   have HOF := Lib.hid (fun w => nof_any m w m0 (by omega))
   have HIT := Lib.hid (fun w h => itoa_any x w (by omega) (by omega) h)
   clear m0 m1 x0 x1
   go_wp2_with fail
   refine (HOF.out _).mono ?_; rintro e w2 hn
   obtain ⟨a2, n2, c2, rfl, hN2, hb2, -⟩ := hn
   have HB2 := Lib.hid hb2
   have HTX : Hid (∀ w', Below w2.heap.size w2 w' → Calls Tryd.prog 31 #[.slice a2 n2 c2] w' fun e w'' => ∃ s, e = .returned (.string s) ∧ IsText m s ∧ Below w'.heap.size w' w'') := Lib.hid (fun w' hw => ntext_of (hN2.below hw (Nat.le_refl _)) HM64.out)
   clear hN2 hb2
   go_wp2_with fail
   refine (HTX.out _ (Below.refl _ _)).mono ?_; rintro e w3 ⟨t, rfl, htt, hb3⟩
   have HTT := Lib.hid htt
   have HB3 := Lib.hid (HB2.out.trans (hb3.mono HB2.out.size))
   have hts := text_size htt HM64.out
   clear htt hb3
   have hadd1 : ∀ w : World, (Op.stringOp .add ⟨#[45]⟩ t).run Tryd.prog w = .ok (.string (⟨#[45]⟩ ++ t)) w := fun w => run_string_add_sum w _ _ (by show 1 + t.size ≤ _; omega)
   have hadd2 : ∀ w : World, (Op.stringOp .add (⟨#[45]⟩ ++ t) ⟨#[112]⟩).run Tryd.prog w = .ok (.string (⟨#[45]⟩ ++ t ++ ⟨#[112]⟩)) w := fun w => run_string_add_sum w _ _ (by rw [ByteArray.size_append]; show 1 + t.size + 1 ≤ _; omega)
   go_wp2_with fail
   refine (HIT.out _ (HT.out _ HB3.out)).mono ?_; rintro e w4 ⟨u, rfl, hu, hb4⟩
   have HU := Lib.hid hu
   have HB4 := Lib.hid (HB3.out.trans (hb4.mono HB3.out.size))
   have hus := num_size hu HX64.out
   clear hu hb4 hadd1 hadd2
   have hadd3 : ∀ w : World, (Op.stringOp .add (⟨#[45]⟩ ++ t ++ ⟨#[112]⟩) u).run Tryd.prog w = .ok (.string (⟨#[45]⟩ ++ t ++ ⟨#[112]⟩ ++ u)) w := fun w => run_string_add_sum w _ _ (by rw [ByteArray.size_append, ByteArray.size_append]; show 1 + t.size + 1 + u.size ≤ _; omega)
   go_wp2_with fail
   go_ret
   exact RStr.mk ⟨_, _, _, HS.out, .inr (.inr (.inr ⟨HKK.out, t, u, HTT.out, HU.out, rfl⟩))⟩ HB4.out
end Go.Proofs.YtkojcamlllenkaaDoor
/- Contracts of package bushelref44's Int and Real, and of package report's value. Conditions: the library's table of powers of ten is as the row lists it. -/
namespace Go.Proofs.YtkojcamlllenkaaDoor
open Go.RowKit Ieee

theorem boxed44 (w : World) (t : TypeId) (cs : Array Value) : (∀ i, (w.alloc (.cells cs t)).cell? ⟨w.heap.size, i, none⟩ = cs[i]?) ∧ Below w.heap.size w (w.alloc (.cells cs t)) ∧ (w.alloc (.cells cs t)).heap.size = w.heap.size + 1 :=
 ⟨fun i => cell_of_row _ w.heap.size i cs t (0, 0) (heap_alloc_new w _), (Below.refl _ _).alloc (Nat.le_refl _) _, by simp⟩
theorem NumC.abs44 {w : World} {neg : Bool} {a : Option Addr} {n c : Nat} {z : Int} (h : NumC w neg a n c z) : NumC w false a n c (z.natAbs : Int) ∧ neg = decide (z < 0) := by
 obtain ⟨xs, h1, h2, h3, h4, h5⟩ := h
 have hv := (V_bd (B := 1000) (by decide) h2).1
 cases neg
 ·rw [if_neg (by decide)] at h4
  exact ⟨⟨xs, h1, h2, h3, by rw [if_neg (by decide)]; omega, fun h => by cases h⟩, by rw [eq_comm, decide_eq_false_iff_not]; omega⟩
 ·rw [if_pos rfl] at h4
  have := h5 rfl
  exact ⟨⟨xs, h1, h2, h3, by rw [if_neg (by decide)]; omega, fun h => by cases h⟩, by rw [eq_comm, decide_eq_true_eq]; omega⟩
theorem numc_len {w : World} {neg : Bool} {a : Option Addr} {n c : Nat} {z : Int} (h : NumC w neg a n c z) (hz : z.natAbs < 1000000000000000000000) : n ≤ 7 := by
 obtain ⟨xs, h1, h2, h3, h4, h5⟩ := h
 have hv : V 1000 xs = (z.natAbs : Int) := by
  have hv := (V_bd (B := 1000) (by decide) h2).1
  cases neg
  ·rw [if_neg (by decide)] at h4; omega
  ·rw [if_pos rfl] at h4; omega
 have hl := h1.1
 rcases Nat.lt_or_ge 7 n with h6 | h6
 ·have hne : xs ≠ [] := fun e => by rw [e] at hl; simp at hl; omega
  have hge := V_ge (B := 1000) (by decide) h2 h3 hne
  have h7 : (1000 : Int) ^ 7 ≤ 1000 ^ (xs.length - 1) := ipow_le (by decide) (by omega)
  have h8 : (1000 : Int) ^ 7 = 1000000000000000000000 := by decide
  omega
 ·exact h6
theorem rtext_of {w : World} {neg : Bool} {a : Option Addr} {n c : Nat} {z : Int} (h : NumC w neg a n c z) (hz : z.natAbs < 1000000000000000000000) (h0 : 0 ≤ z) :
  Calls Tryd.prog 51 #[.agg #[.bool neg, .slice a n c]] w (RStr (IsText z) w) :=
 rtext_any neg a n c z w h h0 (by have := numc_len h hz; omega)

theorem text_size0 {z : Int} {t : ByteArray} (h : IsText z t) (hz : z < 1000000000000000000000) : t.size ≤ 1000 := by
 have : (1000000000000000000000 : Int) ≤ 10 ^ 250 := by decide
 exact (h.ok (by omega)).1.2.1
set_option maxHeartbeats 4000000 in
theorem rint_any (x : Int) (w : World) (h0 : -9223372036854775808 ≤ x) (h1 : x ≤ 9223372036854775807) : Calls Tryd.prog 27 #[.int .i64 x] w (RStr (IsNum x) w) := by
 have HOF := Lib.hid (fun w => of_any x w h0 h1)
 have HXB : Hid (x.natAbs < 1000000000000000000000) := Lib.hid (by omega)
 clear h0 h1
 go_enter Tryd.func27, Tryd.ntmps27
 go_wp2_with fail
 refine (HOF.out _).mono ?_; rintro e w1 ⟨neg, a, n, c, rfl, hN, hb1, -⟩
 obtain ⟨hbx, hbw, hsz⟩ := boxed44 w1 104 #[.bool neg, .slice a n c]
 have e0 := hbx 0
 have e1 := hbx 1
 simp only [List.getElem?_toArray, List.getElem?_cons_zero, List.getElem?_cons_succ] at e0 e1
 obtain ⟨hA, hneg⟩ := hN.abs44
 have HTX := Lib.hid (rtext_of (hA.below hbw (Nat.le_refl _)) (by rw [Int.natAbs_natCast]; exact HXB.out) (by omega))
 have HNG := Lib.hid hneg
 have HB1 := Lib.hid (hb1.trans (hbw.mono hb1.size))
 have HLT : Hid (w1.heap.size < (w1.alloc (.cells #[.bool neg, .slice a n c] 104)).heap.size) := Lib.hid (by rw [hsz]; omega)
 clear hbx hbw hsz hA hneg hN hb1
 go_upto_region 2 with fail
 have HE0 := Lib.hid e0
 generalize (w1.alloc (.cells #[.bool neg, .slice a n c] 104)) = w2 at *
 generalize w1.heap.size = s at *
 go_wp2_with fail
 refine (HTX.out).mono ?_; rintro e w3 ⟨t, rfl, ht, hb3⟩
 have HT := Lib.hid ht
 have hts := text_size0 ht (by have := HXB.out; omega)
 have f0 : w3.cell? ⟨s, 0, none⟩ = some (.bool neg) := by rw [hb3.cell (p := ⟨s, 0, none⟩) HLT.out]; exact HE0.out
 have HB3 := Lib.hid (HB1.out.trans (hb3.mono HB1.out.size))
 clear ht hb3 e0 e1
 have hadd1 : ∀ w : World, (Op.stringOp .add ⟨#[45]⟩ t).run Tryd.prog w = .ok (.string (⟨#[45]⟩ ++ t)) w := fun w => run_string_add_sum w _ _ (by show 1 + t.size ≤ _; omega)
 cases neg
 ·go_wp2_with fail
  go_ret
  refine RStr.mk ⟨t, HT.out, ?_⟩ HB3.out
  rw [← HNG.out]
  exact lb_inj (by rw [lb_app]; rfl)
 ·go_wp2_with fail
  go_ret
  refine RStr.mk ⟨t, HT.out, ?_⟩ HB3.out
  rw [← HNG.out]
  rfl
theorem split_lt0 {b : Nat} {neg : Bool} {m x : Int} (h : SplitOut b neg m x) (hb : b < 18446744073709551616) : 0 ≤ m ∧ m < 9007199254740992 ∧ -1074 ≤ x ∧ x ≤ 1023 := by
 by_cases hk : kindZ b = 1
 ·exact split_lt hb h hk
 ·rcases h with ⟨-, -, rfl, rfl⟩ | ⟨h1, -⟩
  ·decide
  ·exact absurd h1 hk
set_option maxHeartbeats 4000000 in
theorem rreal_txt (b : Nat) (w : World) (hb : b < 18446744073709551616) : Calls Tryd.prog 28 #[.float .f64 b] w (RStr (IsReal b) w) := by
 have HSP := Lib.hid (fun w => rsplit_any b w hb)
 have HK := Lib.hid (fun w => rkind_any b w hb)
 have HLT := Lib.hid (fun (neg : Bool) (m x : Int) (h : SplitOut b neg m x) (hk : kindZ b = 1) => split_lt hb h hk)
 have HBB := Lib.hid hb
 clear hb
 obtain ⟨K, hK⟩ : ∃ K, kindZ b = K := ⟨_, rfl⟩
 have hfour := kind_four b
 rw [hK] at hfour
 rw [hK] at HK
 have HKK := Lib.hid hK
 clear hK
 go_enter Tryd.func28, Tryd.ntmps28
 go_wp2_with fail
 refine (HSP.out _).mono ?_; rintro e w1 ⟨neg, m, x, rfl, hs, hb1⟩
 have HS := Lib.hid hs
 have HB1 := Lib.hid hb1
 have hmx := split_lt0 (b := b) hs HBB.out
 obtain ⟨m0, m1, x0, x1⟩ := hmx
 have HNT := Lib.hid (fun w => nat_any m w m0 (by omega))
 have HIT := Lib.hid (fun w => rint_any x w (by omega) (by omega))
 have HM64 : Hid (m < 18446744073709551616) := Lib.hid (by omega)
 have HX64 : Hid (x.natAbs < 18446744073709551616) := Lib.hid (by omega)
 have HM0 := Lib.hid m0
 clear hs hb1 m0 m1 x0 x1
 go_wp2_with fail
 refine (HNT.out _).mono ?_; rintro e w2 ⟨n2, a2, l2, c2, rfl, hN2, hb2, -⟩
 have HB2 := Lib.hid (HB1.out.trans (hb2.mono HB1.out.size))
 have HTX := Lib.hid (rtext_of hN2 (by have := HM64.out; have := HM0.out; omega) HM0.out)
 clear hN2 hb2
 go_wp2_with fail
 refine (HTX.out).mono ?_; rintro e w3 ⟨t, rfl, ht, hb3⟩
 have HTT := Lib.hid ht
 have hts := text_size ht HM64.out
 have HB3 := Lib.hid (HB2.out.trans (hb3.mono HB2.out.size))
 clear ht hb3 HTX
 have hadd1 : ∀ w : World, (Op.stringOp .add t ⟨#[112]⟩).run Tryd.prog w = .ok (.string (t ++ ⟨#[112]⟩)) w := fun w => run_string_add_sum w _ _ (by show t.size + 1 ≤ _; omega)
 go_wp2_with fail
 refine (HIT.out _).mono ?_; rintro e w4 ⟨u, rfl, hu, hb4⟩
 have HU := Lib.hid hu
 have hus := num_size hu HX64.out
 have HB4 := Lib.hid (HB3.out.trans (hb4.mono HB3.out.size))
 clear hu hb4 hadd1
 have hadd2 : ∀ w : World, (Op.stringOp .add (t ++ ⟨#[112]⟩) u).run Tryd.prog w = .ok (.string (t ++ ⟨#[112]⟩ ++ u)) w := fun w => run_string_add_sum w _ _ (by rw [ByteArray.size_append]; show t.size + 1 + u.size ≤ _; omega)
 have hadd3 : ∀ w : World, (Op.stringOp .add ⟨#[45]⟩ (t ++ ⟨#[112]⟩ ++ u)).run Tryd.prog w = .ok (.string (⟨#[45]⟩ ++ (t ++ ⟨#[112]⟩ ++ u))) w := fun w => run_string_add_sum w _ _ (by rw [ByteArray.size_append, ByteArray.size_append]; show 1 + (t.size + 1 + u.size) ≤ _; omega)
 go_wp2_with fail
 refine (HK.out _).mono ?_; rintro e w5 ⟨rfl, hb5⟩
 have HB5 := Lib.hid (HB4.out.trans (hb5.mono HB4.out.size))
 clear hb5 hadd2
 cases neg
 ·rcases hfour with rfl | rfl | rfl | rfl
  ·go_wp2_with fail
   go_ret
   exact RStr.mk ⟨_, _, _, HS.out, .inl ⟨HKK.out, lb_inj (by rw [lb_app]; rfl)⟩⟩ HB5.out
  ·go_wp2_with fail
   go_ret
   exact RStr.mk ⟨_, _, _, HS.out, .inr (.inl ⟨HKK.out, lb_inj (by rw [lb_app]; rfl)⟩)⟩ HB5.out
  ·go_wp2_with fail
   go_ret
   exact RStr.mk ⟨_, _, _, HS.out, .inr (.inr (.inl ⟨HKK.out, rfl⟩))⟩ HB5.out
  ·go_wp2_with fail
   go_ret
   exact RStr.mk ⟨_, _, _, HS.out, .inr (.inr (.inr ⟨HKK.out, t, u, HTT.out, HU.out, lb_inj (by simp only [lb_app, List.append_assoc]; rfl)⟩))⟩ HB5.out
 ·rcases hfour with rfl | rfl | rfl | rfl
  ·go_wp2_with fail
   go_ret
   exact RStr.mk ⟨_, _, _, HS.out, .inl ⟨HKK.out, by rfl⟩⟩ HB5.out
  ·go_wp2_with fail
   go_ret
   exact RStr.mk ⟨_, _, _, HS.out, .inr (.inl ⟨HKK.out, by rfl⟩)⟩ HB5.out
  ·go_wp2_with fail
   go_ret
   exact RStr.mk ⟨_, _, _, HS.out, .inr (.inr (.inl ⟨HKK.out, rfl⟩))⟩ HB5.out
  ·go_wp2_with fail
   go_ret
   exact RStr.mk ⟨_, _, _, HS.out, .inr (.inr (.inr ⟨HKK.out, t, u, HTT.out, HU.out, lb_inj (by simp only [lb_app, List.append_assoc]; rfl)⟩))⟩ HB5.out
end Go.Proofs.YtkojcamlllenkaaDoor
