/- Contracts of package bushelref44's Int and Real, and of package report's value. Conditions: the library's table of powers of ten is as the row lists it. -/
import Derived.Test.YtdbkgpakpadloaaGreatDoorRpC
namespace Go.Proofs.YtdbkgpakpadloaaGreatDoor
open Go.RowKit Ieee

theorem boxed44 (w : World) (t : TypeId) (cs : Array Value) : (∀ i, (w.alloc (.cells cs t)).cell? ⟨w.heap.size, i, none⟩ = cs[i]?) ∧ Below w.heap.size w (w.alloc (.cells cs t)) ∧ (w.alloc (.cells cs t)).heap.size = w.heap.size + 1 :=
  ⟨fun i => cell_of_row _ w.heap.size i cs t (0, 0) (heap_alloc_new w _), (Below.refl _ _).alloc (Nat.le_refl _) _, by simp⟩
theorem NumC.abs44 {w : World} {neg : Bool} {a : Option Addr} {n c : Nat} {z : Int} (h : NumC w neg a n c z) : NumC w false a n c (z.natAbs : Int) ∧ neg = decide (z < 0) := by
  obtain ⟨xs, h1, h2, h3, h4, h5⟩ := h
  have hv := (V_bd (B := 1000) (by decide) h2).1
  cases neg
  · rw [if_neg (by decide)] at h4
    exact ⟨⟨xs, h1, h2, h3, by rw [if_neg (by decide)]; omega, fun h => by cases h⟩, by rw [eq_comm, decide_eq_false_iff_not]; omega⟩
  · rw [if_pos rfl] at h4
    have := h5 rfl
    exact ⟨⟨xs, h1, h2, h3, by rw [if_neg (by decide)]; omega, fun h => by cases h⟩, by rw [eq_comm, decide_eq_true_eq]; omega⟩
theorem numc_len {w : World} {neg : Bool} {a : Option Addr} {n c : Nat} {z : Int} (h : NumC w neg a n c z) (hz : z.natAbs < 1000000000000000000000) : n ≤ 7 := by
  obtain ⟨xs, h1, h2, h3, h4, h5⟩ := h
  have hv : V 1000 xs = (z.natAbs : Int) := by
    have hv := (V_bd (B := 1000) (by decide) h2).1
    cases neg
    · rw [if_neg (by decide)] at h4; omega
    · rw [if_pos rfl] at h4; omega
  have hl := h1.1
  rcases Nat.lt_or_ge 7 n with h6 | h6
  · have hne : xs ≠ [] := fun e => by rw [e] at hl; simp at hl; omega
    have hge := V_ge (B := 1000) (by decide) h2 h3 hne
    have h7 : (1000 : Int) ^ 7 ≤ 1000 ^ (xs.length - 1) := ipow_le (by decide) (by omega)
    have h8 : (1000 : Int) ^ 7 = 1000000000000000000000 := by decide
    omega
  · exact h6
theorem rtext_of {w : World} {neg : Bool} {a : Option Addr} {n c : Nat} {z : Int} (h : NumC w neg a n c z) (hz : z.natAbs < 1000000000000000000000) (h0 : 0 ≤ z) :
    Calls Tryz.prog 28 #[.agg #[.bool neg, .slice a n c]] w (RStr (IsText z) w) :=
  rtext_any neg a n c z w h h0 (by have := numc_len h hz; omega)

theorem text_size0 {z : Int} {t : ByteArray} (h : IsText z t) (hz : z < 1000000000000000000000) : t.size ≤ 1000 := by
  have : (1000000000000000000000 : Int) ≤ 10 ^ 250 := by decide
  exact (h.ok (by omega)).1.2.1
set_option maxHeartbeats 4000000 in
theorem rint_any (x : Int) (w : World) (h0 : -9223372036854775808 ≤ x) (h1 : x ≤ 9223372036854775807) : Calls Tryz.prog 30 #[.int .i64 x] w (RStr (IsNum x) w) := by
  have HOF := Lib.hid (fun w => of_any x w h0 h1)
  have HXB : Hid (x.natAbs < 1000000000000000000000) := Lib.hid (by omega)
  clear h0 h1
  go_enter Tryz.func30, Tryz.ntmps30
  go_wp2_with fail
  refine (HOF.out _).mono ?_; rintro e w1 ⟨neg, a, n, c, rfl, hN, hb1, -⟩
  obtain ⟨hbx, hbw, hsz⟩ := boxed44 w1 61 #[.bool neg, .slice a n c]
  have e0 := hbx 0
  have e1 := hbx 1
  simp only [List.getElem?_toArray, List.getElem?_cons_zero, List.getElem?_cons_succ] at e0 e1
  obtain ⟨hA, hneg⟩ := hN.abs44
  have HTX := Lib.hid (rtext_of (hA.below hbw (Nat.le_refl _)) (by rw [Int.natAbs_natCast]; exact HXB.out) (by omega))
  have HNG := Lib.hid hneg
  have HB1 := Lib.hid (hb1.trans (hbw.mono hb1.size))
  have HLT : Hid (w1.heap.size < (w1.alloc (.cells #[.bool neg, .slice a n c] 61)).heap.size) := Lib.hid (by rw [hsz]; omega)
  clear hbx hbw hsz hA hneg hN hb1
  go_upto_region 2 with fail
  have HE0 := Lib.hid e0
  generalize (w1.alloc (.cells #[.bool neg, .slice a n c] 61)) = w2 at *
  generalize w1.heap.size = s at *
  go_wp2_with fail
  refine (HTX.out).mono ?_; rintro e w3 ⟨t, rfl, ht, hb3⟩
  have HT := Lib.hid ht
  have hts := text_size0 ht (by have := HXB.out; omega)
  have f0 : w3.cell? ⟨s, 0, none⟩ = some (.bool neg) := by rw [hb3.cell (p := ⟨s, 0, none⟩) HLT.out]; exact HE0.out
  have HB3 := Lib.hid (HB1.out.trans (hb3.mono HB1.out.size))
  clear ht hb3 e0 e1
  have hadd1 : ∀ w : World, (Op.stringOp .add ⟨#[45]⟩ t).run Tryz.prog w = .ok (.string (⟨#[45]⟩ ++ t)) w := fun w => run_string_add_sum w _ _ (by show 1 + t.size ≤ _; omega)
  cases neg
  · go_wp2_with fail
    go_ret
    refine RStr.mk ⟨t, HT.out, ?_⟩ HB3.out
    rw [← HNG.out]
    exact lb_inj (by rw [lb_app]; rfl)
  · go_wp2_with fail
    go_ret
    refine RStr.mk ⟨t, HT.out, ?_⟩ HB3.out
    rw [← HNG.out]
    rfl
theorem split_lt0 {b : Nat} {neg : Bool} {m x : Int} (h : SplitOut b neg m x) (hb : b < 18446744073709551616) : 0 ≤ m ∧ m < 9007199254740992 ∧ -1074 ≤ x ∧ x ≤ 1023 := by
  by_cases hk : kindZ b = 1
  · exact split_lt hb h hk
  · rcases h with ⟨-, -, rfl, rfl⟩ | ⟨h1, -⟩
    · decide
    · exact absurd h1 hk
set_option maxHeartbeats 4000000 in
theorem rreal_txt (b : Nat) (w : World) (hb : b < 18446744073709551616) : Calls Tryz.prog 8 #[.float .f64 b] w (RStr (IsReal b) w) := by
  have HSP := Lib.hid (fun w => rsplit_any b w hb)
  have HK := Lib.hid (fun w => rkind_any b w hb)
  have HLT := Lib.hid (fun (neg : Bool) (m x : Int) (h : SplitOut b neg m x) (hk : kindZ b = 1) => split_lt hb h hk)
  have HBB := Lib.hid hb
  clear hb
  obtain ⟨K, hK⟩ : ∃ K, kindZ b = K := ⟨_, rfl⟩
  have hfour := kind_four b
  rw [hK] at hfour
  rw [hK] at HK
  have HKK := Lib.hid hK
  clear hK
  go_enter Tryz.func8, Tryz.ntmps8
  go_wp2_with fail
  refine (HSP.out _).mono ?_; rintro e w1 ⟨neg, m, x, rfl, hs, hb1⟩
  have HS := Lib.hid hs
  have HB1 := Lib.hid hb1
  have hmx := split_lt0 (b := b) hs HBB.out
  obtain ⟨m0, m1, x0, x1⟩ := hmx
  have HNT := Lib.hid (fun w => nat_any m w m0 (by omega))
  have HIT := Lib.hid (fun w => rint_any x w (by omega) (by omega))
  have HM64 : Hid (m < 18446744073709551616) := Lib.hid (by omega)
  have HX64 : Hid (x.natAbs < 18446744073709551616) := Lib.hid (by omega)
  have HM0 := Lib.hid m0
  clear hs hb1 m0 m1 x0 x1
  go_wp2_with fail
  refine (HNT.out _).mono ?_; rintro e w2 ⟨n2, a2, l2, c2, rfl, hN2, hb2, -⟩
  have HB2 := Lib.hid (HB1.out.trans (hb2.mono HB1.out.size))
  have HTX := Lib.hid (rtext_of hN2 (by have := HM64.out; have := HM0.out; omega) HM0.out)
  clear hN2 hb2
  go_wp2_with fail
  refine (HTX.out).mono ?_; rintro e w3 ⟨t, rfl, ht, hb3⟩
  have HTT := Lib.hid ht
  have hts := text_size ht HM64.out
  have HB3 := Lib.hid (HB2.out.trans (hb3.mono HB2.out.size))
  clear ht hb3 HTX
  have hadd1 : ∀ w : World, (Op.stringOp .add t ⟨#[112]⟩).run Tryz.prog w = .ok (.string (t ++ ⟨#[112]⟩)) w := fun w => run_string_add_sum w _ _ (by show t.size + 1 ≤ _; omega)
  go_wp2_with fail
  refine (HIT.out _).mono ?_; rintro e w4 ⟨u, rfl, hu, hb4⟩
  have HU := Lib.hid hu
  have hus := num_size hu HX64.out
  have HB4 := Lib.hid (HB3.out.trans (hb4.mono HB3.out.size))
  clear hu hb4 hadd1
  have hadd2 : ∀ w : World, (Op.stringOp .add (t ++ ⟨#[112]⟩) u).run Tryz.prog w = .ok (.string (t ++ ⟨#[112]⟩ ++ u)) w := fun w => run_string_add_sum w _ _ (by rw [ByteArray.size_append]; show t.size + 1 + u.size ≤ _; omega)
  have hadd3 : ∀ w : World, (Op.stringOp .add ⟨#[45]⟩ (t ++ ⟨#[112]⟩ ++ u)).run Tryz.prog w = .ok (.string (⟨#[45]⟩ ++ (t ++ ⟨#[112]⟩ ++ u))) w := fun w => run_string_add_sum w _ _ (by rw [ByteArray.size_append, ByteArray.size_append]; show 1 + (t.size + 1 + u.size) ≤ _; omega)
  go_wp2_with fail
  refine (HK.out _).mono ?_; rintro e w5 ⟨rfl, hb5⟩
  have HB5 := Lib.hid (HB4.out.trans (hb5.mono HB4.out.size))
  clear hb5 hadd2
  cases neg
  · rcases hfour with rfl | rfl | rfl | rfl
    · go_wp2_with fail
      go_ret
      exact RStr.mk ⟨_, _, _, HS.out, .inl ⟨HKK.out, lb_inj (by rw [lb_app]; rfl)⟩⟩ HB5.out
    · go_wp2_with fail
      go_ret
      exact RStr.mk ⟨_, _, _, HS.out, .inr (.inl ⟨HKK.out, lb_inj (by rw [lb_app]; rfl)⟩)⟩ HB5.out
    · go_wp2_with fail
      go_ret
      exact RStr.mk ⟨_, _, _, HS.out, .inr (.inr (.inl ⟨HKK.out, rfl⟩))⟩ HB5.out
    · go_wp2_with fail
      go_ret
      exact RStr.mk ⟨_, _, _, HS.out, .inr (.inr (.inr ⟨HKK.out, t, u, HTT.out, HU.out, lb_inj (by simp only [lb_app, List.append_assoc]; rfl)⟩))⟩ HB5.out
  · rcases hfour with rfl | rfl | rfl | rfl
    · go_wp2_with fail
      go_ret
      exact RStr.mk ⟨_, _, _, HS.out, .inl ⟨HKK.out, by rfl⟩⟩ HB5.out
    · go_wp2_with fail
      go_ret
      exact RStr.mk ⟨_, _, _, HS.out, .inr (.inl ⟨HKK.out, by rfl⟩)⟩ HB5.out
    · go_wp2_with fail
      go_ret
      exact RStr.mk ⟨_, _, _, HS.out, .inr (.inr (.inl ⟨HKK.out, rfl⟩))⟩ HB5.out
    · go_wp2_with fail
      go_ret
      exact RStr.mk ⟨_, _, _, HS.out, .inr (.inr (.inr ⟨HKK.out, t, u, HTT.out, HU.out, lb_inj (by simp only [lb_app, List.append_assoc]; rfl)⟩))⟩ HB5.out
end Go.Proofs.YtdbkgpakpadloaaGreatDoor
