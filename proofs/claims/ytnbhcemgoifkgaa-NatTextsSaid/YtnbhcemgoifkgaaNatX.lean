/- The walk of the law NatTexts. No conditions. -/
import Derived.Test.YtnbhcemgoifkgaaNatT
import Derived.Test.YtnbhcemgoifkgaaRef02d
import Derived.Test.YtnbhcemgoifkgaaRef02e
namespace Go.Proofs.Ytnbhcemgoifkgaa
open Go.RowKit

theorem sb_str {l : List Int} (h : ∀ c ∈ l, 0 ≤ c ∧ c < 256) (j : Nat) : sb (strOfNums l) j = l.getD j 0 := by
  unfold sb
  rw [strOfNums_data, List.getD_eq_getElem?_getD, List.getD_eq_getElem?_getD, List.getElem?_map]
  rcases Nat.lt_or_ge j l.length with h1 | h1
  · have h2 := h _ (List.getElem_mem h1)
    rw [List.getElem?_eq_getElem h1]
    simp
    omega
  · rw [List.getElem?_eq_none h1]
    rfl
theorem tv_congr {s t : ByteArray} : ∀ (n : Nat), (∀ j, j < n → sb s j = sb t j) → tv s n = tv t n
  | 0, _ => rfl
  | n + 1, h => by
    show tv s n * 10 + (sb s n - 48) = tv t n * 10 + (sb t n - 48)
    rw [tv_congr n fun j hj => h j (by omega), h n (by omega)]
theorem chars_rng {ds : List Int} (h : Dig 10 ds) : ∀ c ∈ (chars ds).reverse, 48 ≤ c ∧ c ≤ 57 := by
  intro c hc
  simp only [chars, List.mem_reverse, List.mem_map] at hc
  obtain ⟨d, hd, rfl⟩ := hc
  have := h d hd
  omega
theorem tv_chars : ∀ (ds : List Int), Dig 10 ds → tv (strOfNums (chars ds).reverse) ds.length = V 10 ds
  | [], _ => rfl
  | d :: ds, h => by
    have h1 : Dig 10 ds := fun x hx => h x (List.mem_cons_of_mem _ hx)
    have ih := tv_chars ds h1
    have r1 := chars_rng h
    have e : (chars (d :: ds)).reverse = (chars ds).reverse ++ [48 + d] := by simp [chars]
    rw [e] at r1
    have g : ∀ j, sb (strOfNums ((chars ds).reverse ++ [48 + d])) j = ((chars ds).reverse ++ [48 + d]).getD j 0 := sb_str fun c hc => by have := r1 c hc; omega
    have g2 : ∀ j, sb (strOfNums (chars ds).reverse) j = (chars ds).reverse.getD j 0 := sb_str fun c hc => by have := chars_rng h1 c hc; omega
    have hl : (chars ds).reverse.length = ds.length := by rw [List.length_reverse, chars_len]
    rw [V_cons, e]
    show tv _ ds.length * 10 + (sb _ ds.length - 48) = _
    rw [tv_congr (t := strOfNums (chars ds).reverse) ds.length fun j hj => by rw [g, g2, getD_append_lt (by omega)], ih, g]
    have e2 : ((chars ds).reverse ++ [48 + d]).getD ds.length 0 = 48 + d := by
      have h3 := @getD_snoc (chars ds).reverse (48 + d)
      rw [hl] at h3
      exact h3
    rw [e2]
    omega
/-- a number's text is one, and says the number -/
theorem IsText.ok {X : Int} {s : ByteArray} (h : IsText X s) (hX : X < 10 ^ 250) : OkText s ∧ tv s s.size = X := by
  obtain ⟨ds, hd, ht, hv, hs⟩ := h
  by_cases h0 : ds = []
  · subst h0
    rw [if_pos rfl] at hs
    subst hs
    refine ⟨⟨by decide, by decide, fun h => absurd h.2 (by decide), fun j hj => ?_⟩, ?_⟩
    · have : j = 0 := by have h1 : j < 1 := hj; omega
      subst this
      exact ⟨by decide, by decide⟩
    · rw [← hv]; rfl
  · rw [if_neg h0] at hs
    have hsz : s.size = ds.length := by rw [hs, strOfNums_size, List.length_reverse, chars_len]
    have hlen : 0 < ds.length := List.length_pos_iff.2 h0
    have hge := V_ge (B := 10) (by decide) hd ht h0
    have hle : ds.length ≤ 250 := by
      rcases Nat.lt_or_ge 250 ds.length with h1 | h1
      · have h2 : (10 : Int) ^ 250 ≤ 10 ^ (ds.length - 1) := ipow_le (by decide) (by omega)
        rw [hv] at hge
        omega
      · exact h1
    have g : ∀ j, sb s j = (chars ds).reverse.getD j 0 := fun j => by rw [hs]; exact sb_str (fun c hc => by have := chars_rng hd c hc; omega) j
    have hl : (chars ds).reverse.length = ds.length := by rw [List.length_reverse, chars_len]
    have hr : ∀ j, j < ds.length → 48 ≤ sb s j ∧ sb s j ≤ 57 := fun j hj => by
      rw [g]
      exact chars_rng hd _ (getD_mem (by omega))
    refine ⟨⟨by omega, by omega, fun h => ?_, fun j hj => hr j (by omega)⟩, ?_⟩
    · have h1 := h.1
      rw [g, List.getD_eq_getElem?_getD, List.getElem?_reverse (by rw [chars_len]; omega), chars_len] at h1
      rcases ht with h2 | h2
      · exact h0 h2
      · apply h2
        rw [List.getD_eq_getElem?_getD]
        unfold chars at h1
        rw [List.getElem?_map, show ds.length - 1 - 0 = ds.length - 1 from by omega, List.getElem?_eq_getElem (by omega)] at h1
        rw [List.getElem?_eq_getElem (by omega)]
        simp at h1 ⊢
        omega
    · rw [hsz, ← hv, hs]
      exact tv_chars ds hd
theorem ten_le {i : Nat} : (10 : Int) ^ i ≤ 4294967296 ^ i := by
  have h : (10 : Nat) ^ i ≤ 4294967296 ^ i := Nat.pow_le_pow_left (by decide) i
  have e1 : ((10 ^ i : Nat) : Int) = 10 ^ i := by rw [Int.natCast_pow]; rfl
  have e2 : ((4294967296 ^ i : Nat) : Int) = 4294967296 ^ i := by rw [Int.natCast_pow]; rfl
  omega
theorem NumC.lenle {w : World} {neg : Bool} {a : Option Addr} {n c k : Nat} {z : Int} (h : NumC w neg a n c z) (h0 : 0 ≤ z) (hz : z < 1000 ^ k) : n ≤ k := by
  obtain ⟨xs, hr, hd, ht, he, hg⟩ := h
  rcases Nat.lt_or_ge k n with h1 | h1
  · have hne : xs ≠ [] := fun e => by have := hr.1; rw [e] at this; simp at this; omega
    have h2 := V_ge (B := 1000) (by decide) hd ht hne
    rw [hr.1] at h2
    have h3 : (1000 : Int) ^ k ≤ 1000 ^ (n - 1) := ipow_le (by decide) (by omega)
    have h4 := (V_bd (B := 1000) (by decide) hd).1
    cases neg
    · simp at he; omega
    · simp at he; omega
  · exact h1

set_option maxRecDepth 100000 in
set_option maxHeartbeats 4000000 in
theorem walk_texts (a : Option Addr) (n c : Nat) (xs : List Int) (s : ByteArray) (w : World) (hA : IsRow .u32 w a n c xs) (w0 : s.size ≤ maxLen) :
    Calls Try.prog 6 #[.slice a n c, .string s] w fun e w' => e = .returned (.bool true) ∧ Below w.heap.size w w' := by
  have ha := hA.row
  have hx := hA.dig
  clear hA
  unfold maxLen at w0
  generalize xs.take n = xs at *
  have hn : n ≤ 9223372036854775807 := by have := ha.2.1; have := ha.2.2.1; unfold maxLen at this; omega
  have HA := Lib.hid ha
  have HX := Lib.hid hx
  by_cases hl : n ≤ 20
  · by_cases hs : s.size ≤ 1200
    · have VX := V_bd (B := 4294967296) (by decide) hx
      rw [ha.1] at VX
      have X1 := Int.lt_of_lt_of_le VX.2 (ipow_le (by decide) hl)
      have X10 : V 4294967296 xs < 10 ^ 250 := Int.lt_of_lt_of_le X1 (by decide)
      have HX0 := Lib.hid VX.1
      have HX1 := Lib.hid X1
      have HX10 := Lib.hid X10
      have HX80 : Hid (V 4294967296 xs < 1000 ^ 80) := Lib.hid (Int.lt_of_lt_of_le X1 (by decide))
      have HNum := Lib.hid (fun (w1 : World) (hw : Below w.heap.size w w1) => rnum_any a n c xs w1 (ha.below hw (Nat.le_refl _)) hx (by omega))
      have HText := Lib.hid (ntext_any a n c xs w ha hx (by omega))
      clear ha hx VX X1 X10 HA HX
      generalize V 4294967296 xs = X at *
      go_enter Try.func6, Try.ntmps6
      go_wp2_with fail
      refine HText.out.mono ?_; rintro e w1 ⟨t, rfl, ht, hb1⟩
      have hok := ht.ok HX10.out
      have HT := Lib.hid ht
      have HOK := Lib.hid hok
      have HB1 := Lib.hid hb1
      have hts : t.size ≤ 9223372036854775807 := by have := hok.1.2.1; omega
      have hts2 : t.size ≤ 1000 := hok.1.2.1
      clear ht hok hb1
      go_wp2_with fail
      refine (nread_any t w1 hts).mono ?_; rintro e w2 hro
      obtain ⟨ax, nx, cx, rfl, hx, hb2, -⟩ := hro.1 HOK.out.1
      rw [HOK.out.2] at hx
      have hnx : nx ≤ 1000 := Nat.le_trans (hx.len HX1.out) (by decide)
      have HXN := Lib.hid hx
      have HB2 := Lib.hid (HB1.out.trans (hb2.mono HB1.out.size))
      clear hro hx hb2
      go_wp2_with fail
      by_cases hos : OkText s
      · refine (nread_any s w2 w0).mono ?_; rintro e w3 hro
        obtain ⟨ay, ny, cy, rfl, hy, hb3, -⟩ := hro.1 hos
        have htb := tv_bd s.size hos.2.2.2
        have hny : ny ≤ 1000 := Nat.le_trans (hy.len (Int.lt_of_lt_of_le htb.2 ten_le)) hos.2.1
        have HY := Lib.hid hy
        have HB3 := Lib.hid (HB2.out.trans (hb3.mono HB2.out.size))
        have HX3 := Lib.hid (HXN.out.below hb3 (Nat.le_refl _))
        have HOS := Lib.hid hos
        clear hro hy hb3 hos htb
        go_wp2_with fail
        refine (rread_any s w3 w0).mono ?_; rintro e w4 ⟨n4, a4, l4, c4, hz, hb4⟩
        rcases hz with ⟨-, rfl, hz⟩ | ⟨h, -⟩
        · have HB4 := Lib.hid (HB3.out.trans (hb4.mono HB3.out.size))
          have HX4 := Lib.hid (HX3.out.below hb4 (Nat.le_refl _))
          have HY4 := Lib.hid (HY.out.below hb4 (Nat.le_refl _))
          have HZ4 := Lib.hid hz
          clear hb4 hz HX3 HY HB3
          go_upto_region 7 with fail
          obtain ⟨hk, hbw⟩ := one_box w4 27 #[.bool n4, .slice a4 l4 c4]
          have HB5 := Lib.hid (HB4.out.trans (hbw.mono HB4.out.size))
          have HX5 := Lib.hid (HX4.out.below hbw (Nat.le_refl _))
          have HY5 := Lib.hid (HY4.out.below hbw (Nat.le_refl _))
          have HZ5 := Lib.hid (HZ4.out.below hbw (Nat.le_refl _))
          have x0 : (w4.alloc (.cells #[.bool n4, .slice a4 l4 c4] 27)).cell? ⟨w4.heap.size, 0, none⟩ = some (.bool n4) := hk.cell 0
          have x1 : (w4.alloc (.cells #[.bool n4, .slice a4 l4 c4] 27)).cell? ⟨w4.heap.size, 1, none⟩ = some (.slice a4 l4 c4) := hk.cell 1
          clear hk hbw HB4 HX4 HY4 HZ4
          generalize w4.alloc (.cells #[.bool n4, .slice a4 l4 c4] 27) = w5 at *
          generalize w4.heap.size = p at *
          go_wp2_with fail
          refine (ris2_any _ _ _ _ _ _ _ _ w5 HY5.out HZ5.out hny).mono ?_; rintro e w6 ⟨rfl, hb6⟩
          have HB6 := Lib.hid (HB5.out.trans (hb6.mono HB5.out.size))
          have HX6 := Lib.hid (HX5.out.below hb6 (Nat.le_refl _))
          clear hb6 HB5 HX5 HY5 HZ5 x0 x1
          go_wp2_with fail
          refine (HNum.out w6 HB6.out).mono ?_; rintro e w7 ⟨n7, a7, l7, c7, rfl, hN7, hb7, -⟩
          have HB7 := Lib.hid (HB6.out.trans (hb7.mono HB6.out.size))
          have HX7 := Lib.hid (HX6.out.below hb7 (Nat.le_refl _))
          have hl7 : l7 ≤ 100000 := Nat.le_trans (hN7.lenle HX0.out HX80.out) (by decide)
          have HN7 := Lib.hid hN7
          clear hN7 hb7 HB6 HX6
          go_wp2_with fail
          refine (rtext_any _ _ _ _ X w7 HN7.out HX0.out hl7).mono ?_; rintro e w8 ⟨t2, rfl, ht2, hb8⟩
          have hte := HT.out.one ht2
          subst hte
          have HB8 := Lib.hid (HB7.out.trans (hb8.mono HB7.out.size))
          have HX8 := Lib.hid (HX7.out.below hb8 (Nat.le_refl _))
          clear ht2 hb8 HB7 HX7 HN7
          go_wp2_with fail
          refine (HNum.out w8 HB8.out).mono ?_; rintro e w9 ⟨n9, a9, l9, c9, rfl, hN9, hb9, -⟩
          have HB9 := Lib.hid (HB8.out.trans (hb9.mono HB8.out.size))
          have HX9 := Lib.hid (HX8.out.below hb9 (Nat.le_refl _))
          have HN9 := Lib.hid hN9
          clear hN9 hb9 HB8 HX8
          go_wp2_with fail
          refine (ris2_any _ _ _ _ _ _ _ _ w9 HX9.out HN9.out hnx).mono ?_; rintro e w10 ⟨rfl, hb10⟩
          have HB10 := Lib.hid (HB9.out.trans (hb10.mono HB9.out.size))
          clear hb10 HB9 HX9 HN9
          go_wp2_with fail
          refine (awake_nat w10).mono ?_; rintro e w11 ⟨rfl, hb11⟩
          have HB11 := Lib.hid (HB10.out.trans (hb11.mono HB10.out.size))
          clear hb11
          go_wp2_with fail
          go_ret
          exact ⟨rfl, HB11.out⟩
        · exact absurd HOS.out h
      · refine (nread_any s w2 w0).mono ?_; rintro e w3 hro
        obtain ⟨rfl, hb3⟩ := hro.2 hos
        have HB3 := Lib.hid (HB2.out.trans (hb3.mono HB2.out.size))
        have HX3 := Lib.hid (HXN.out.below hb3 (Nat.le_refl _))
        have HOS := Lib.hid hos
        clear hro hb3 hos
        go_wp2_with fail
        refine (rread_any s w3 w0).mono ?_; rintro e w4 ⟨n4, a4, l4, c4, hz, hb4⟩
        rcases hz with ⟨h, -⟩ | ⟨-, rfl⟩
        · exact absurd h HOS.out
        · have HB4 := Lib.hid (HB3.out.trans (hb4.mono HB3.out.size))
          have HX4 := Lib.hid (HX3.out.below hb4 (Nat.le_refl _))
          clear hb4 HX3 HB3
          go_upto_region 7 with fail
          obtain ⟨hk, hbw⟩ := one_box w4 27 #[.bool n4, .slice a4 l4 c4]
          have HB6 := Lib.hid (HB4.out.trans (hbw.mono HB4.out.size))
          have HX6 := Lib.hid (HX4.out.below hbw (Nat.le_refl _))
          clear hk hbw HB4 HX4
          generalize w4.alloc (.cells #[.bool n4, .slice a4 l4 c4] 27) = w6 at *
          generalize w4.heap.size = p at *
          go_wp2_with fail
          refine (HNum.out w6 HB6.out).mono ?_; rintro e w7 ⟨n7, a7, l7, c7, rfl, hN7, hb7, -⟩
          have HB7 := Lib.hid (HB6.out.trans (hb7.mono HB6.out.size))
          have HX7 := Lib.hid (HX6.out.below hb7 (Nat.le_refl _))
          have hl7 : l7 ≤ 100000 := Nat.le_trans (hN7.lenle HX0.out HX80.out) (by decide)
          have HN7 := Lib.hid hN7
          clear hN7 hb7 HB6 HX6
          go_wp2_with fail
          refine (rtext_any _ _ _ _ X w7 HN7.out HX0.out hl7).mono ?_; rintro e w8 ⟨t2, rfl, ht2, hb8⟩
          have hte := HT.out.one ht2
          subst hte
          have HB8 := Lib.hid (HB7.out.trans (hb8.mono HB7.out.size))
          have HX8 := Lib.hid (HX7.out.below hb8 (Nat.le_refl _))
          clear ht2 hb8 HB7 HX7 HN7
          go_wp2_with fail
          refine (HNum.out w8 HB8.out).mono ?_; rintro e w9 ⟨n9, a9, l9, c9, rfl, hN9, hb9, -⟩
          have HB9 := Lib.hid (HB8.out.trans (hb9.mono HB8.out.size))
          have HX9 := Lib.hid (HX8.out.below hb9 (Nat.le_refl _))
          have HN9 := Lib.hid hN9
          clear hN9 hb9 HB8 HX8
          go_wp2_with fail
          refine (ris2_any _ _ _ _ _ _ _ _ w9 HX9.out HN9.out hnx).mono ?_; rintro e w10 ⟨rfl, hb10⟩
          have HB10 := Lib.hid (HB9.out.trans (hb10.mono HB9.out.size))
          clear hb10 HB9 HX9 HN9
          go_wp2_with fail
          refine (awake_nat w10).mono ?_; rintro e w11 ⟨rfl, hb11⟩
          have HB11 := Lib.hid (HB10.out.trans (hb11.mono HB10.out.size))
          clear hb11
          go_wp2_with fail
          go_ret
          exact ⟨rfl, HB11.out⟩
    · clear ha hx
      go_enter Try.func6, Try.ntmps6
      go_wp2_with fail
      refine (awake_nat w).mono ?_; rintro e w1 ⟨rfl, hb1⟩
      have HB1 := Lib.hid hb1
      clear hb1
      go_wp2_with fail
      go_ret
      exact ⟨rfl, HB1.out⟩
  · clear ha hx
    go_enter Try.func6, Try.ntmps6
    go_wp2_with fail
    refine (awake_nat w).mono ?_; rintro e w1 ⟨rfl, hb1⟩
    have HB1 := Lib.hid hb1
    clear hb1
    go_wp2_with fail
    go_ret
    exact ⟨rfl, HB1.out⟩
end Go.Proofs.Ytnbhcemgoifkgaa
