/- Contracts of package bushelref37's number, behind and part. Conditions: those stated. -/
import Derived.Test.YtaofjnidniekjaaGreatDoorMShC
import Derived.Test.YtaofjnidniekjaaGreatDoorRef02e
import Derived.Test.YtaofjnidniekjaaGreatDoorRef01o
namespace Go.Proofs.YtaofjnidniekjaaGreatDoor
open Go.RowKit

theorem numS_digs : ∀ (k u : Nat), u < k → 0 < u → ∃ ds, Dig 10 ds ∧ Trimmed ds ∧ V 10 ds = (u : Int) ∧ ds ≠ [] ∧ Lib.decDigits u = (chars ds).reverse.map fun n => UInt8.ofNat n.toNat
 | 0, _, h, _ => by omega
 | k + 1, u, h, h0 => by
  by_cases hu : u < 10
  ·refine ⟨[(u : Int)], fun d hd => ?_, ?_, (by rw [V_cons]; show (u : Int) + 10 * 0 = _; omega), by simp, ?_⟩
   ·simp only [List.mem_singleton] at hd; subst hd; omega
   ·right; simp; omega
   ·rw [Lib.decDigits, dif_pos hu]
    show [UInt8.ofNat (48 + u)] = [UInt8.ofNat (48 + (u : Int)).toNat]
    rw [show (48 + (u : Int)).toNat = 48 + u from by omega]
  ·obtain ⟨ds, h1, h2, h3, h4, h5⟩ := numS_digs k (u / 10) (by omega) (by omega)
   refine ⟨((u % 10 : Nat) : Int) :: ds, fun d hd => ?_, ?_, ?_, by simp, ?_⟩
   ·rw [List.mem_cons] at hd
    rcases hd with rfl | hd
    ·omega
    ·exact h1 d hd
   ·right
    rcases h2 with h2 | h2
    ·exact absurd h2 h4
    ·have hl : 0 < ds.length := List.length_pos_iff.2 h4
     rw [List.length_cons, show ds.length + 1 - 1 = (ds.length - 1) + 1 from by omega]
     simpa using h2
   ·rw [V_cons, h3]; omega
   ·rw [Lib.decDigits, dif_neg hu, h5, show chars (((u % 10 : Nat) : Int) :: ds) = (48 + ((u % 10 : Nat) : Int)) :: chars ds from rfl, List.reverse_cons, List.map_append, List.map_cons, List.map_nil,
     show (48 + ((u % 10 : Nat) : Int)).toNat = 48 + u % 10 from by omega]
theorem numS_text (u : Nat) : IsText (u : Int) (btS (Lib.itoa u)) := by
 have e : Lib.itoa (u : Int) = Lib.decDigits u := by
  unfold Lib.itoa
  rw [if_neg (by omega)]
  rfl
 rw [e]
 rcases Nat.eq_zero_or_pos u with rfl | h0
 ·refine ⟨[], (fun d hd => by cases hd), .inl rfl, rfl, ?_⟩
  rw [if_pos rfl, Lib.decDigits, dif_pos (by decide)]
  rfl
 ·obtain ⟨ds, h1, h2, h3, h4, h5⟩ := numS_digs (u + 1) u (by omega) h0
  exact ⟨ds, h1, h2, h3, by rw [if_neg h4, h5]; rfl⟩
theorem numcS_len {w : World} {neg : Bool} {a : Option Addr} {n c : Nat} {z : Int} (h : NumC w neg a n c z) (hz : z.natAbs < 1000000000000000000000) : n ≤ 7 := by
 obtain ⟨xs, h1, h2, h3, h4, h5⟩ := h
 have hv : V 1000 xs = (z.natAbs : Int) := by
  have hv := (V_bd (B := 1000) (by decide) h2).1
  cases neg
  ·rw [if_neg (by decide)] at h4; omega
  ·rw [if_pos rfl] at h4; omega
 have hl := h1.1
 rcases Nat.lt_or_ge 7 n with h6 | h6
 ·have hne : xs ≠ [] := fun e => by rw [e] at hl; simp at hl; omega
  have hge := V_ge (B := 1000) (by decide) h2 h3 hne
  have h7 : (1000 : Int) ^ 7 ≤ 1000 ^ (xs.length - 1) := ipow_le (by decide) (by omega)
  have h8 : (1000 : Int) ^ 7 = 1000000000000000000000 := by decide
  omega
 ·exact h6
set_option maxHeartbeats 1000000 in
theorem rnumber_any (n : Int) (w : World) (h0 : 0 ≤ n) (h1 : n ≤ 9223372036854775807) : Calls Tryz.prog 46 #[.int .i64 n] w fun e w' => e = .returned (.string (btS (Lib.itoa n))) ∧ Below w.heap.size w w' := by
 obtain ⟨u, rfl⟩ : ∃ u : Nat, n = (u : Int) := ⟨n.toNat, by omega⟩
 have HT := Lib.hid (numS_text u)
 have HU : Hid ((u : Int).natAbs < 1000000000000000000000 ∧ (0 : Int) ≤ u) := Lib.hid (by omega)
 have HO := Lib.hid (of_any u w (by omega) h1)
 go_enter Tryz.func46, Tryz.ntmps46
 go_wp2_with fail
 refine HO.out.mono ?_; rintro e w1 ⟨neg, a, k, c, rfl, hN, hb1, -⟩
 have HX := Lib.hid (rtext_any neg a k c u w1 hN HU.out.2 (by have := numcS_len hN HU.out.1; omega))
 have HB1 := Lib.hid hb1
 clear hb1 hN
 go_wp2_with fail
 refine HX.out.mono ?_; rintro e w2 ⟨t, rfl, ht, hb2⟩
 obtain rfl := ht.one HT.out
 have HB2 := Lib.hid (HB1.out.trans (hb2.mono HB1.out.size))
 clear hb2 ht
 go_wp2_with fail
 go_ret
 exact ⟨rfl, HB2.out⟩
def behL (a m p : List UInt8) : List UInt8 := if a = [] then p else a ++ m ++ p
theorem bt_nil {l : List UInt8} (h : btS l = ⟨#[]⟩) : l = [] := by
 have h2 := congrArg (fun b : ByteArray => b.data.toList) h
 exact h2
theorem bt_empty (l : List UInt8) : (btS l).toList.isEmpty = decide (l = []) := by
 have h0 : (⟨#[]⟩ : ByteArray).toList = [] := by decide +kernel
 rw [Bool.eq_iff_iff, List.isEmpty_iff, decide_eq_true_eq]
 constructor
 ·intro e
  exact bt_nil (toList_inj (e.trans h0.symm))
 ·rintro rfl
  exact h0
set_option maxHeartbeats 1000000 in
theorem rbehind_any (a m p : List UInt8) (w : World) (ha : a.length ≤ 100000000) (hm : m.length ≤ 100) (hp : p.length ≤ 100000000) :
  Calls Tryz.prog 44 #[.string (btS a), .string (btS m), .string (btS p)] w fun e w' => e = .returned (.string (btS (behL a m p))) ∧ Below w.heap.size w w' := by
 have sa : (btS a).size ≤ 100000000 := by rw [btS_size]; exact ha
 have sm : (btS m).size ≤ 100 := by rw [btS_size]; exact hm
 have sp : (btS p).size ≤ 100000000 := by rw [btS_size]; exact hp
 have HE := Lib.hid (bt_empty a)
 have HAM : Hid (btS a ++ btS m ++ btS p = btS (a ++ m ++ p)) := Lib.hid (by rw [btS_app, btS_app])
 obtain ⟨A, hA⟩ : ∃ A, btS a = A := ⟨_, rfl⟩
 obtain ⟨M, hM⟩ : ∃ A, btS m = A := ⟨_, rfl⟩
 obtain ⟨P, hP⟩ : ∃ A, btS p = A := ⟨_, rfl⟩
 have HP := Lib.hid hP
 rw [hA] at sa HE HAM ⊢
 rw [hM] at sm HAM ⊢
 rw [hP] at sp HAM ⊢
 clear ha hm hp hA hM hP
 go_enter Tryz.func44, Tryz.ntmps44
 by_cases h0 : a = []
 ·have t1 : A.toList.isEmpty = true := by rw [HE.out]; exact decide_eq_true h0
  go_wp2_with fail
  go_ret
  exact ⟨ret_st (by unfold behL; rw [if_pos h0]; exact HP.out.symm), Below.refl _ _⟩
 ·have t1 : A.toList.isEmpty = false := by rw [HE.out]; exact decide_eq_false h0
  have HC : Hid (behL a m p = a ++ m ++ p) := Lib.hid (by unfold behL; rw [if_neg h0])
  clear h0
  go_wp2_with fail
  go_ret
  exact ⟨ret_st (by rw [HC.out]; exact HAM.out), Below.refl _ _⟩
def partL (wd p : List UInt8) : List UInt8 := if p = [] then [] else [32] ++ wd ++ [32] ++ p
set_option maxHeartbeats 1000000 in
theorem rpart_any (wd p : List UInt8) (w : World) (hm : wd.length ≤ 100) (hp : p.length ≤ 100000000) :
  Calls Tryz.prog 47 #[.string (btS wd), .string (btS p)] w fun e w' => e = .returned (.string (btS (partL wd p))) ∧ Below w.heap.size w w' := by
 have sm : (btS wd).size ≤ 100 := by rw [btS_size]; exact hm
 have sp : (btS p).size ≤ 100000000 := by rw [btS_size]; exact hp
 have HE := Lib.hid (bt_empty p)
 have HAM : Hid ((⟨#[32]⟩ : ByteArray) ++ btS wd ++ ⟨#[32]⟩ ++ btS p = btS ([32] ++ wd ++ [32] ++ p)) := Lib.hid (by rw [← btS_app, ← btS_app, ← btS_app]; rfl)
 obtain ⟨M, hM⟩ : ∃ A, btS wd = A := ⟨_, rfl⟩
 obtain ⟨P, hP⟩ : ∃ A, btS p = A := ⟨_, rfl⟩
 rw [hM] at sm HAM ⊢
 rw [hP] at sp HAM HE ⊢
 clear hm hp hM hP
 go_enter Tryz.func47, Tryz.ntmps47
 by_cases h0 : p = []
 ·have t1 : P.toList.isEmpty = true := by rw [HE.out]; exact decide_eq_true h0
  go_wp2_with fail
  go_ret
  exact ⟨ret_st (by unfold partL; rw [if_pos h0]; rfl), Below.refl _ _⟩
 ·have t1 : P.toList.isEmpty = false := by rw [HE.out]; exact decide_eq_false h0
  have HC : Hid (partL wd p = [32] ++ wd ++ [32] ++ p) := Lib.hid (by unfold partL; rw [if_neg h0])
  clear h0
  go_wp2_with fail
  go_ret
  exact ⟨ret_st (by rw [HC.out]; exact HAM.out), Below.refl _ _⟩
/-- pieces put behind each other are joined -/
theorem join_snoc (sep x : List UInt8) : ∀ (l : List (List UInt8)), (∀ y ∈ l, y ≠ []) → Lib.join (l ++ [x]) sep = behL (Lib.join l sep) sep x
 | [], _ => by rw [List.nil_append, Lib.join_one, Lib.join_nil]; unfold behL; rw [if_pos rfl]
 | y :: r, h => by
  have hy := h y List.mem_cons_self
  rw [List.cons_append, Lib.join_cons, Lib.join_cons]
  unfold behL
  rw [if_neg (by intro e; exact hy (List.append_eq_nil_iff.1 e).1)]
  unfold Lib.joinTail
  rw [List.map_append, List.flatten_append]
  simp
theorem join_nilL {sep : List UInt8} {l : List (List UInt8)} (h : ∀ y ∈ l, y ≠ []) : Lib.join l sep = [] ↔ l = [] := by
 cases l with
 | nil => simp [Lib.join_nil]
 | cons y r =>
  rw [Lib.join_cons]
  constructor
  ·intro e; exact absurd (List.append_eq_nil_iff.1 e).1 (h y List.mem_cons_self)
  ·intro e; cases e
theorem part_join {wd W sep : List UInt8} {l : List (List UInt8)} (hW : [32] ++ wd ++ [32] = W) (h : ∀ y ∈ l, y ≠ []) : partL wd (Lib.join l sep) = partB W sep l := by
 unfold partL partB
 by_cases hl : l = []
 ·rw [if_pos ((join_nilL h).2 hl), if_pos hl]
 ·rw [if_neg (fun e => hl ((join_nilL h).1 e)), if_neg hl, hW]
end Go.Proofs.YtaofjnidniekjaaGreatDoor
