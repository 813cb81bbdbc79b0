/- Contracts of package report's Real and value, and of package bushelref44's Int and Real. Conditions: the library's table of powers of ten is as the row lists it. -/
import Derived.Test.YtdbkgpakpadloaaGreatDoorRpB
import Derived.Test.YtdbkgpakpadloaaGreatDoorShlfRR
import Derived.Test.YtdbkgpakpadloaaGreatDoorNatQ
import Derived.Test.YtdbkgpakpadloaaGreatDoorNatX
import Derived.Test.YtdbkgpakpadloaaGreatDoorMFloC
import Derived.Test.YtdbkgpakpadloaaGreatDoorRef02e
import Derived.Test.YtdbkgpakpadloaaGreatDoorMRat2
import Derived.Lib.LaidTab
namespace Go.Proofs.YtdbkgpakpadloaaGreatDoor
open Go.RowKit Ieee

/-- the library's table is as its initialiser lays it -/
def Tab (w : World) : Prop := Lib.TabIs Tryz.prog w "internal/strconv.uint64pow10" .u64 Lib.pow10Tab
def RStr (P : ByteArray → Prop) (w : World) (e : Ending) (w' : World) : Prop := ∃ s, e = .returned (.string s) ∧ P s ∧ Below w.heap.size w w'
theorem RStr.mk {P : ByteArray → Prop} {w w' : World} {s : ByteArray} (h : P s) (hb : Below w.heap.size w w') : RStr P w (.returned (.string s)) w' := ⟨s, rfl, h, hb⟩
theorem grow_below (w : World) (k : Nat) (os : Array Obj) : Below w.heap.size w (Sort.grow (w.drewN k) os) :=
  ⟨rfl, rfl, rfl, by show w.heap.size ≤ (w.heap ++ os).size; rw [Array.size_append]; omega, fun j hj => by
    show (w.heap ++ os)[j]? = w.heap[j]?
    exact Array.getElem?_append_left hj⟩
theorem itoa_any (x : Int) (w : World) (h0 : -9223372036854775808 ≤ x) (h1 : x ≤ 9223372036854775807) (ht : Tab w) : Calls Tryz.prog 15 #[.int .i64 x] w (RStr (IsNum x) w) := by
  refine (Tryz.strconv_Itoa x h0 h1 w ht).mono ?_
  rintro e w' ⟨rfl, k, os, rfl⟩
  exact ⟨_, rfl, itoa_num x, grow_below w k os⟩
theorem fmt_any (x : Int) (w : World) (h0 : -9223372036854775808 ≤ x) (h1 : x ≤ 9223372036854775807) (ht : Tab w) : Calls Tryz.prog 58 #[.int .i64 x, .int .i64 10] w (RStr (IsNum x) w) := by
  refine (Tryz.strconv_FormatInt_10 x h0 h1 w ht).mono ?_
  rintro e w' ⟨rfl, k, os, rfl⟩
  exact ⟨_, rfl, itoa_num x, grow_below w k os⟩
theorem kind_four (b : Nat) : kindZ b = 0 ∨ kindZ b = 2 ∨ kindZ b = 3 ∨ kindZ b = 1 := by
  unfold kindZ
  split
  · exact .inr (.inr (.inl rfl))
  · split
    · exact .inr (.inl rfl)
    · split
      · exact .inl rfl
      · exact .inr (.inr (.inr rfl))
theorem split_lt {b : Nat} {neg : Bool} {m x : Int} (hb : b < 18446744073709551616) (h : SplitOut b neg m x) (hk : kindZ b = 1) : 0 ≤ m ∧ m < 9007199254740992 ∧ -1074 ≤ x ∧ x ≤ 1023 := by
  obtain ⟨M, rfl, hM, -⟩ := join_split hb h (.inr hk)
  obtain ⟨h1, h2⟩ := split_range h hk
  omega
theorem natc_len {w : World} {a : Option Addr} {n c : Nat} {z : Int} (h : NatC w a n c z) (hz : z < 18446744073709551616) : n ≤ 2 := by
  obtain ⟨xs, h1, h2, h3, rfl⟩ := h
  have hl := h1.1
  rcases Nat.lt_or_ge 2 n with h4 | h4
  · have hne : xs ≠ [] := fun e => by rw [e] at hl; simp at hl; omega
    have hge := V_ge (B := 4294967296) (by decide) h2 h3 hne
    have h5 : (4294967296 : Int) ^ 2 ≤ 4294967296 ^ (xs.length - 1) := ipow_le (by decide) (by omega)
    have h6 : (4294967296 : Int) ^ 2 = 18446744073709551616 := by decide
    omega
  · exact h4
theorem ntext_of {w : World} {a : Option Addr} {n c : Nat} {z : Int} (h : NatC w a n c z) (hz : z < 18446744073709551616) :
    Calls Tryz.prog 13 #[.slice a n c] w (RStr (IsText z) w) := by
  have hn := natc_len h hz
  obtain ⟨xs, h1, h2, h3, rfl⟩ := h
  exact ntext_any a n c xs w h1 h2 (by omega)
theorem text_size {z : Int} {t : ByteArray} (h : IsText z t) (hz : z < 18446744073709551616) : t.size ≤ 1000 := by
  have : (18446744073709551616 : Int) ≤ 10 ^ 250 := by decide
  exact (h.ok (by omega)).1.2.1
theorem num_size {x : Int} {u : ByteArray} (h : IsNum x u) (hx : x.natAbs < 18446744073709551616) : u.size ≤ 1001 := by
  obtain ⟨t, ht, rfl⟩ := h
  have h1 := text_size ht (by omega)
  rw [ByteArray.size_append]
  cases decide (x < 0)
  · show 0 + t.size ≤ _; omega
  · show 1 + t.size ≤ _; omega
theorem sg_true : sgB true = ⟨#[45]⟩ := rfl
theorem sg_false : sgB false = ⟨#[]⟩ := rfl
set_option maxHeartbeats 4000000 in
theorem preal_any (b : Nat) (w : World) (hb : b < 18446744073709551616) (ht : ∀ w', Below w.heap.size w w' → Tab w') : Calls Tryz.prog 5 #[.float .f64 b] w (RStr (IsReal b) w) := by
  have HT := Lib.hid ht
  clear ht
  have HSP := Lib.hid (fun w => fsplit_any b w hb)
  have HK := Lib.hid (fun w => fkind_any b w hb)
  have HLT := Lib.hid (fun (neg : Bool) (m x : Int) (h : SplitOut b neg m x) (hk : kindZ b = 1) => split_lt hb h hk)
  clear hb
  obtain ⟨K, hK⟩ : ∃ K, kindZ b = K := ⟨_, rfl⟩
  have hfour := kind_four b
  rw [hK] at hfour
  rw [hK] at HK
  have HKK := Lib.hid hK
  clear hK
  go_enter Tryz.func5, Tryz.ntmps5
  go_wp2_with fail
  refine (HSP.out _).mono ?_; rintro e w1 ⟨neg, m, x, rfl, hs, rfl⟩
  have HS := Lib.hid hs
  clear hs
  cases neg
  · go_wp2_with fail
    refine (HK.out _).mono ?_; rintro e w1 ⟨rfl, rfl⟩
    rcases hfour with rfl | rfl | rfl | rfl
    · go_wp2_with fail
      go_ret
      exact RStr.mk ⟨_, _, _, HS.out, .inl ⟨HKK.out, rfl⟩⟩ (Below.refl _ _)
    · go_wp2_with fail
      go_ret
      exact RStr.mk ⟨_, _, _, HS.out, .inr (.inl ⟨HKK.out, rfl⟩)⟩ (Below.refl _ _)
    · go_wp2_with fail
      go_ret
      exact RStr.mk ⟨_, _, _, HS.out, .inr (.inr (.inl ⟨HKK.out, rfl⟩))⟩ (Below.refl _ _)
    · obtain ⟨m0, m1, x0, x1⟩ := HLT.out _ _ _ HS.out HKK.out
      have HM64 : Hid (m < 18446744073709551616) := Lib.hid (by omega)
      have HX64 : Hid (x.natAbs < 18446744073709551616) := Lib.hid (by omega)
      have HOF := Lib.hid (fun w => nof_any m w m0 (by omega))
      have HIT := Lib.hid (fun w h => itoa_any x w (by omega) (by omega) h)
      clear m0 m1 x0 x1
      go_wp2_with fail
      refine (HOF.out _).mono ?_; rintro e w2 hn
      obtain ⟨a2, n2, c2, rfl, hN2, hb2, -⟩ := hn
      have HB2 := Lib.hid hb2
      have HTX : Hid (∀ w', Below w2.heap.size w2 w' → Calls Tryz.prog 13 #[.slice a2 n2 c2] w' fun e w'' => ∃ s, e = .returned (.string s) ∧ IsText m s ∧ Below w'.heap.size w' w'') := Lib.hid (fun w' hw => ntext_of (hN2.below hw (Nat.le_refl _)) HM64.out)
      clear hN2 hb2
      go_wp2_with fail
      refine (HTX.out _ (Below.refl _ _)).mono ?_; rintro e w3 ⟨t, rfl, htt, hb3⟩
      have HTT := Lib.hid htt
      have HB3 := Lib.hid (HB2.out.trans (hb3.mono HB2.out.size))
      have hts := text_size htt HM64.out
      clear htt hb3
      have hadd1 : ∀ w : World, (Op.stringOp .add ⟨#[]⟩ t).run Tryz.prog w = .ok (.string (⟨#[]⟩ ++ t)) w := fun w => run_string_add_sum w _ _ (by show 0 + t.size ≤ _; omega)
      have hadd2 : ∀ w : World, (Op.stringOp .add (⟨#[]⟩ ++ t) ⟨#[112]⟩).run Tryz.prog w = .ok (.string (⟨#[]⟩ ++ t ++ ⟨#[112]⟩)) w := fun w => run_string_add_sum w _ _ (by rw [ByteArray.size_append]; show 0 + t.size + 1 ≤ _; omega)
      go_wp2_with fail
      refine (HIT.out _ (HT.out _ HB3.out)).mono ?_; rintro e w4 ⟨u, rfl, hu, hb4⟩
      have HU := Lib.hid hu
      have HB4 := Lib.hid (HB3.out.trans (hb4.mono HB3.out.size))
      have hus := num_size hu HX64.out
      clear hu hb4 hadd1 hadd2
      have hadd3 : ∀ w : World, (Op.stringOp .add (⟨#[]⟩ ++ t ++ ⟨#[112]⟩) u).run Tryz.prog w = .ok (.string (⟨#[]⟩ ++ t ++ ⟨#[112]⟩ ++ u)) w := fun w => run_string_add_sum w _ _ (by rw [ByteArray.size_append, ByteArray.size_append]; show 0 + t.size + 1 + u.size ≤ _; omega)
      go_wp2_with fail
      go_ret
      exact RStr.mk ⟨_, _, _, HS.out, .inr (.inr (.inr ⟨HKK.out, t, u, HTT.out, HU.out, rfl⟩))⟩ HB4.out
  · go_wp2_with fail
    refine (HK.out _).mono ?_; rintro e w1 ⟨rfl, rfl⟩
    rcases hfour with rfl | rfl | rfl | rfl
    · go_wp2_with fail
      go_ret
      exact RStr.mk ⟨_, _, _, HS.out, .inl ⟨HKK.out, rfl⟩⟩ (Below.refl _ _)
    · go_wp2_with fail
      go_ret
      exact RStr.mk ⟨_, _, _, HS.out, .inr (.inl ⟨HKK.out, rfl⟩)⟩ (Below.refl _ _)
    · go_wp2_with fail
      go_ret
      exact RStr.mk ⟨_, _, _, HS.out, .inr (.inr (.inl ⟨HKK.out, rfl⟩))⟩ (Below.refl _ _)
    · obtain ⟨m0, m1, x0, x1⟩ := HLT.out _ _ _ HS.out HKK.out
      have HM64 : Hid (m < 18446744073709551616) := Lib.hid (by omega)
      have HX64 : Hid (x.natAbs < 18446744073709551616) := Lib.hid (by omega)
      have HOF := Lib.hid (fun w => nof_any m w m0 (by omega))
      have HIT := Lib.hid (fun w h => itoa_any x w (by omega) (by omega) h)
      clear m0 m1 x0 x1
      go_wp2_with fail
      refine (HOF.out _).mono ?_; rintro e w2 hn
      obtain ⟨a2, n2, c2, rfl, hN2, hb2, -⟩ := hn
      have HB2 := Lib.hid hb2
      have HTX : Hid (∀ w', Below w2.heap.size w2 w' → Calls Tryz.prog 13 #[.slice a2 n2 c2] w' fun e w'' => ∃ s, e = .returned (.string s) ∧ IsText m s ∧ Below w'.heap.size w' w'') := Lib.hid (fun w' hw => ntext_of (hN2.below hw (Nat.le_refl _)) HM64.out)
      clear hN2 hb2
      go_wp2_with fail
      refine (HTX.out _ (Below.refl _ _)).mono ?_; rintro e w3 ⟨t, rfl, htt, hb3⟩
      have HTT := Lib.hid htt
      have HB3 := Lib.hid (HB2.out.trans (hb3.mono HB2.out.size))
      have hts := text_size htt HM64.out
      clear htt hb3
      have hadd1 : ∀ w : World, (Op.stringOp .add ⟨#[45]⟩ t).run Tryz.prog w = .ok (.string (⟨#[45]⟩ ++ t)) w := fun w => run_string_add_sum w _ _ (by show 1 + t.size ≤ _; omega)
      have hadd2 : ∀ w : World, (Op.stringOp .add (⟨#[45]⟩ ++ t) ⟨#[112]⟩).run Tryz.prog w = .ok (.string (⟨#[45]⟩ ++ t ++ ⟨#[112]⟩)) w := fun w => run_string_add_sum w _ _ (by rw [ByteArray.size_append]; show 1 + t.size + 1 ≤ _; omega)
      go_wp2_with fail
      refine (HIT.out _ (HT.out _ HB3.out)).mono ?_; rintro e w4 ⟨u, rfl, hu, hb4⟩
      have HU := Lib.hid hu
      have HB4 := Lib.hid (HB3.out.trans (hb4.mono HB3.out.size))
      have hus := num_size hu HX64.out
      clear hu hb4 hadd1 hadd2
      have hadd3 : ∀ w : World, (Op.stringOp .add (⟨#[45]⟩ ++ t ++ ⟨#[112]⟩) u).run Tryz.prog w = .ok (.string (⟨#[45]⟩ ++ t ++ ⟨#[112]⟩ ++ u)) w := fun w => run_string_add_sum w _ _ (by rw [ByteArray.size_append, ByteArray.size_append]; show 1 + t.size + 1 + u.size ≤ _; omega)
      go_wp2_with fail
      go_ret
      exact RStr.mk ⟨_, _, _, HS.out, .inr (.inr (.inr ⟨HKK.out, t, u, HTT.out, HU.out, rfl⟩))⟩ HB4.out
end Go.Proofs.YtdbkgpakpadloaaGreatDoor
