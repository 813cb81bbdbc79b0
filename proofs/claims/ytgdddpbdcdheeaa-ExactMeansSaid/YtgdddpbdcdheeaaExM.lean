/- The walk of the law ExactOrders. No conditions. -/
import Derived.Test.YtgdddpbdcdheeaaExK
import Derived.Test.YtgdddpbdcdheeaaMEx3
import Derived.Test.YtgdddpbdcdheeaaFloats
namespace Go.Proofs.Ytgdddpbdcdheeaa
open Go.RowKit Ieee

def BRow (w : World) (a : Option Addr) (n c : Nat) (bs : List Int) : Prop := RowK .u8 w a n c bs ∧ 0 < n
theorem BRow.mk {w : World} {a : Option Addr} {n c b : Nat} {z : Int} {bs : List Int} (h : RowK .u8 w a n c bs) (hb : IsBytes b z bs) : BRow w a n c bs := by
  refine ⟨h, ?_⟩
  obtain ⟨xs, l, -, -, -, -, he⟩ := hb
  have := h.1
  rw [he] at this
  simp at this
  omega
theorem BRow.below {w w' : World} {a : Option Addr} {n c B : Nat} {bs : List Int} (h : BRow w a n c bs) (hb : Below B w w') (hB : w.heap.size ≤ B) : BRow w' a n c bs := ⟨h.1.below hb hB, h.2⟩
theorem bytes_str {w : World} {a : Option Addr} {n c : Nat} {bs : List Int} (h : BRow w a n c bs) : (convert 41 9 (.slice a n c)).run Try.prog w = .ok (.string (strOfNums bs)) w := by
  obtain ⟨⟨h1, h2, h3, h4⟩, h5⟩ := h
  rcases h4 with h4 | ⟨b, off, rfl, hlt, hc⟩
  · omega
  · exact run_convert_bytes_arg (P := Try.prog) w 41 5 Try.underlying41 Try.underlying5 b off n c bs h1 hc 9 Try.underlying9
theorem IsFloats.frow {w : World} {a : Option Addr} {len cap : Nat} {zs : List Nat} (h : IsFloats w a len cap zs) : FRow w a len cap zs := by
  obtain ⟨h1, h2, h3, -⟩ := h.len
  refine ⟨h1, h2, h3, ?_⟩
  rcases h.cells with h4 | h4 | h4
  · exact .inl (by omega)
  · exact .inl h4
  · exact .inr h4
/-- how many rounds went to the third sum -/
def cutN (cut : Int) : Nat := cut.toNat
theorem take_drop_snoc {zs : List Nat} {k m : Nat} (h : k < zs.length) (hm : m ≤ k) : (zs.take (k + 1)).drop m = (zs.take k).drop m ++ [zs.getD k 0] := by
  rw [List.take_succ_eq_append_getElem h, List.drop_append_of_le_length (by rw [List.length_take]; omega)]
  simp [h]
theorem take_rev_snoc {zs : List Nat} {k : Nat} (h : k < zs.length) : zs.reverse.take (k + 1) = zs.reverse.take k ++ [zs.getD (zs.length - 1 - k) 0] := by
  rw [List.take_succ_eq_append_getElem (by simpa using h), List.getElem_reverse]
  congr 2
  simp [List.getD_eq_getElem?_getD, show zs.length - 1 - k < zs.length from by omega]
theorem take_snoc' {zs : List Nat} {k : Nat} (h : k < zs.length) : zs.take (k + 1) = zs.take k ++ [zs.getD k 0] := by
  rw [List.take_succ_eq_append_getElem h]
  simp [h]

set_option maxRecDepth 100000 in
set_option maxHeartbeats 8000000 in
theorem walk_exorders (a : Option Addr) (n c : Nat) (zs : List Nat) (cut : Int) (w : World) (hA : IsFloats w a n c zs) (w1 : (Lit.int .i64 cut).wf = true) :
    Calls Try.prog 4 #[.slice a n c, .int .i64 cut] w fun e w' => e = .returned (.bool true) ∧ Below w.heap.size w w' := by
  obtain ⟨cu1, cu2⟩ := wf_i64r w1
  obtain ⟨hlen, hcap, hmax, hw⟩ := hA.len
  have hn : n ≤ 9223372036854775807 := by unfold maxLen at hmax; omega
  by_cases hl : n ≤ 60
  · have t1 : decide ((60 : Int) < (n : Int)) = false := by simp; omega
    have HFR : Hid (0 < n → FRow w a n c zs) := Lib.hid (fun _ => hA.frow)
    have HLEN := Lib.hid hlen
    have HW := Lib.hid hw
    clear hA w1 hlen hw hmax
    go_enter Try.func4, Try.ntmps4
    go_wp2_with fail
    refine (sumnew_at _).mono ?_; rintro e w1 ⟨g1, rfl, hs1, hb1, hg1⟩
    have HB1 := Lib.hid hb1
    have HS11 := Lib.hid hs1
    have hlt1 := hs1.lt
    clear hs1 hb1
    go_wp2_with fail
    refine (sumnew_at _).mono ?_; rintro e w2 ⟨g2, rfl, hs2, hb2, hg2⟩
    have HB2 := Lib.hid (HB1.out.trans (hb2.mono HB1.out.size))
    have HS12 := Lib.hid (HS11.out.below hb2 (Nat.le_refl _))
    have HS22 := Lib.hid hs2
    have hlt2 := hs2.lt
    clear hs2 hb2
    go_wp2_with fail
    refine (sumnew_at _).mono ?_; rintro e w3 ⟨g3, rfl, hs3, hb3, hg3⟩
    have HB3 := Lib.hid (HB2.out.trans (hb3.mono HB2.out.size))
    have HS13 := Lib.hid (HS12.out.below hb3 (Nat.le_refl _))
    have HS23 := Lib.hid (HS22.out.below hb3 (Nat.le_refl _))
    have HS33 := Lib.hid hs3
    have hlt3 := hs3.lt
    clear hs3 hb3
    go_wp2_with fail
    refine (sumnew_at _).mono ?_; rintro e w4 ⟨g4, rfl, hs4, hb4, hg4⟩
    have HB4 := Lib.hid (HB3.out.trans (hb4.mono HB3.out.size))
    have HS14 := Lib.hid (HS13.out.below hb4 (Nat.le_refl _))
    have HS24 := Lib.hid (HS23.out.below hb4 (Nat.le_refl _))
    have HS34 := Lib.hid (HS33.out.below hb4 (Nat.le_refl _))
    have HS44 := Lib.hid hs4
    have HFR4 : Hid (0 < n → FRow w4 a n c zs) := Lib.hid (fun h => (HFR.out h).below HB4.out (Nat.le_refl _))
    have q12 : g1 ≠ g2 := by omega
    have q13 : g1 ≠ g3 := by omega
    have q14 : g1 ≠ g4 := by omega
    have q23 : g2 ≠ g3 := by omega
    have q24 : g2 ≠ g4 := by omega
    have q34 : g3 ≠ g4 := by omega
    have HQ := Lib.hid (show w.heap.size ≤ g1 ∧ w.heap.size ≤ g2 ∧ w.heap.size ≤ g3 ∧ w.heap.size ≤ g4 from by have := HB1.out.size; have := HB2.out.size; have := HB3.out.size; omega)
    clear hs4 hb4 hg1 hg2 hg3 hg4 hlt1 hlt2 hlt3 HB1 HB2 HB3
    have HNE := Lib.hid (And.intro q12 (And.intro q13 (And.intro q14 (And.intro q23 (And.intro q24 q34)))))
    clear q12 q13 q14 q23 q24 q34
    go_wp2_with fail
    go_loopg [9] n (fun gg i wr => ∃ k : Nat, i = .int .i64 (k : Int) ∧ k + gg = n ∧ SumAt wr g1 (foldS (zs.take k)).1 (foldS (zs.take k)).2 ∧ SumAt wr g2 (foldS (zs.reverse.take k)).1 (foldS (zs.reverse.take k)).2 ∧
      SumAt wr g3 (foldS (zs.take (min k cut.toNat))).1 (foldS (zs.take (min k cut.toNat))).2 ∧ SumAt wr g4 (foldS ((zs.take k).drop cut.toNat)).1 (foldS ((zs.take k).drop cut.toNat)).2 ∧ (0 < n → FRow wr a n c zs) ∧ Below w.heap.size w wr)
    case atStart => exact ⟨0, rfl, by omega, HS14.out, HS24.out, by rw [Nat.zero_min]; exact HS34.out, by rw [List.take_zero, List.drop_nil]; exact HS44.out, HFR4.out, HB4.out⟩
    case round =>
      obtain ⟨k, rfl, hk, hs1, hs2, hs3, hs4, hfr, hb⟩ := hrel
      have HB := Lib.hid hb
      have HK := Lib.hid hk
      clear hb
      by_cases hlt : k < n
      · have HF := Lib.hid (hfr (by omega))
        obtain ⟨-, -, -, hcell⟩ := hfr (by omega)
        rcases hcell with h0 | ⟨ba, oa, rfl, hba, hcell⟩
        · omega
        have hlk : k < zs.length := by have := HLEN.out; omega
        obtain ⟨x, hx⟩ : ∃ x, zs.getD k 0 = x := ⟨_, rfl⟩
        obtain ⟨m, hm⟩ : ∃ m : Nat, n - 1 - k = m := ⟨_, rfl⟩
        obtain ⟨y, hy⟩ : ∃ y, zs.getD m 0 = y := ⟨_, rfl⟩
        have hml : m < zs.length := by have := HLEN.out; omega
        have hxw : x < 18446744073709551616 := by rw [← hx]; exact HW.out _ (by simp [hlk])
        have hyw : y < 18446744073709551616 := by rw [← hy]; exact HW.out _ (by simp [hml])
        have HXW := Lib.hid hxw
        have HYW := Lib.hid hyw
        have f1 := take_snoc' hlk
        have f2 := take_rev_snoc hlk
        rw [HLEN.out, hm, hy] at f2
        rw [hx] at f1
        have HF1 := Lib.hid f1
        have HF2 := Lib.hid f2
        have HX := Lib.hid hx
        have cx := hcell k hlt
        have cy := hcell m (by omega)
        rw [hx] at cx
        rw [hy] at cy
        have hmi : (n : Int) - 1 - (k : Int) = (m : Int) := by omega
        have hmn : (m : Int) < (n : Int) := by omega
        have hkn : (k : Int) < (n : Int) := by omega
        have hkd : decide (k < n) = true := by simpa using hlt
        have HO1 := Lib.hid (Okay.fold (zs.take k) _ okay0)
        have HO2 := Lib.hid (Okay.fold (zs.reverse.take k) _ okay0)
        have HO3 := Lib.hid (Okay.fold (zs.take (min k cut.toNat)) _ okay0)
        have HO4 := Lib.hid (Okay.fold ((zs.take k).drop cut.toNat) _ okay0)
        have HLK := Lib.hid hlk
        have HS1 := Lib.hid hs1
        have HS2 := Lib.hid hs2
        have HS3 := Lib.hid hs3
        have HS4 := Lib.hid hs4
        have hg1 : 1 ≤ gk := by omega
        have HKN := Lib.hid hlt
        clear hs1 hs2 hs3 hs4 hfr hcell f1 f2 hx hy hm hml hxw hyw hlk hk hlt
        go_wp2_with fail
        refine (sumadd_any wr g1 _ _ x HS1.out HO1.out.2 HO1.out.1 HXW.out).mono ?_; rintro e w5 ⟨rfl, hA1, hB1⟩
        have HA1 := Lib.hid hA1
        have HA2 := Lib.hid (HS2.out.other HS1.out hB1 HNE.out.1.symm)
        have HA3 := Lib.hid (HS3.out.other HS1.out hB1 HNE.out.2.1.symm)
        have HA4 := Lib.hid (HS4.out.other HS1.out hB1 HNE.out.2.2.1.symm)
        have HAF := Lib.hid (HF.out.sum HS1.out hB1)
        have HAB := Lib.hid (HB.out.trans (hB1.below HQ.out.1 HB.out.size))
        have cy2 : w5.cell? ⟨ba, oa + m, none⟩ = some (.float .f64 y) := by
          by_cases hg : ba = g1
          · obtain ⟨a', n', c', hk', -⟩ := HS1.out
            exfalso
            rw [hg, hk'.cell] at cy
            have h6 : oa + m = 0 ∨ oa + m = 1 ∨ oa + m = 2 ∨ oa + m = 3 ∨ 4 ≤ oa + m := by omega
            rcases h6 with h6 | h6 | h6 | h6 | h6
            · rw [h6] at cy; cases cy
            · rw [h6] at cy; cases cy
            · rw [h6] at cy; cases cy
            · rw [h6] at cy; cases cy
            · rw [Array.getElem?_eq_none (by simp [sumCells]; omega)] at cy; cases cy
          · rw [hB1.cell hba hg]; exact cy
        clear hA1 hB1 cx cy hba
        go_wp2_with fail
        refine (sumadd_any w5 g2 _ _ y HA2.out HO2.out.2 HO2.out.1 HYW.out).mono ?_; rintro e w6 ⟨rfl, hA2, hB2⟩
        have HC1 := Lib.hid (HA1.out.other HA2.out hB2 HNE.out.1)
        have HC2 := Lib.hid hA2
        have HC3 := Lib.hid (HA3.out.other HA2.out hB2 HNE.out.2.2.2.1.symm)
        have HC4 := Lib.hid (HA4.out.other HA2.out hB2 HNE.out.2.2.2.2.1.symm)
        have HCF := Lib.hid (HAF.out.sum HA2.out hB2)
        have HCB := Lib.hid (HAB.out.trans (hB2.below HQ.out.2.1 HAB.out.size))
        have cx3 : w6.cell? ⟨ba, oa + k, none⟩ = some (.float .f64 x) := by
          obtain ⟨-, -, -, h4⟩ := HCF.out
          rcases h4 with h4 | ⟨b', o', he, -, h4⟩
          · have := HKN.out; omega
          · cases he
            rw [← HX.out]
            exact h4 k HKN.out
        clear hA2 hB2 cy2
        by_cases hcut : (k : Int) < cut
        · have hcd : decide ((k : Int) < cut) = true := by simpa using hcut
          have hmin : min (k + 1) cut.toNat = k + 1 := by omega
          have hmin0 : min k cut.toNat = k := by omega
          have hdr : (zs.take (k + 1)).drop cut.toNat = (zs.take k).drop cut.toNat := by
            rw [List.drop_eq_nil_of_le (by rw [List.length_take]; omega), List.drop_eq_nil_of_le (by rw [List.length_take]; omega)]
          have HMIN := Lib.hid hmin
          have HMIN0 := Lib.hid hmin0
          have HDR := Lib.hid hdr
          clear hmin hmin0 hdr hcut
          go_wp2_with fail
          refine (sumadd_any w6 g3 _ _ x HC3.out HO3.out.2 HO3.out.1 HXW.out).mono ?_; rintro e w7 ⟨rfl, hA3, hB3⟩
          have HD1 := Lib.hid (HC1.out.other HC3.out hB3 HNE.out.2.1)
          have HD2 := Lib.hid (HC2.out.other HC3.out hB3 HNE.out.2.2.2.1)
          have HD3 := Lib.hid hA3
          have HD4 := Lib.hid (HC4.out.other HC3.out hB3 HNE.out.2.2.2.2.2.symm)
          have HDF := Lib.hid (HCF.out.sum HC3.out hB3)
          have HDB := Lib.hid (HCB.out.trans (hB3.below HQ.out.2.2.1 HCB.out.size))
          clear hA3 hB3
          go_wp2_with fail
          go_roundg (gk - 1)
          case measure => omega
          case rel => exact ⟨k + 1, by go_num, by have := HK.out; omega, by rw [HF1.out, foldS_snoc]; exact HD1.out, by rw [HF2.out, foldS_snoc]; exact HD2.out, by rw [HMIN.out, HF1.out, foldS_snoc]; have h := HD3.out; rw [HMIN0.out] at h; exact h, by rw [HDR.out]; exact HD4.out, fun _ => HDF.out, HDB.out⟩
        · have hcd : decide ((k : Int) < cut) = false := by simpa using hcut
          have hmin : min (k + 1) cut.toNat = min k cut.toNat := by omega
          have hdr := take_drop_snoc HLK.out (show cut.toNat ≤ k by omega)
          rw [HX.out] at hdr
          have HMIN := Lib.hid hmin
          have HDR := Lib.hid hdr
          clear hmin hdr hcut
          go_wp2_with fail
          refine (sumadd_any w6 g4 _ _ x HC4.out HO4.out.2 HO4.out.1 HXW.out).mono ?_; rintro e w7 ⟨rfl, hA4, hB4⟩
          have HD1 := Lib.hid (HC1.out.other HC4.out hB4 HNE.out.2.2.1)
          have HD2 := Lib.hid (HC2.out.other HC4.out hB4 HNE.out.2.2.2.2.1)
          have HD3 := Lib.hid (HC3.out.other HC4.out hB4 HNE.out.2.2.2.2.2)
          have HD4 := Lib.hid hA4
          have HDF := Lib.hid (HCF.out.sum HC4.out hB4)
          have HDB := Lib.hid (HCB.out.trans (hB4.below HQ.out.2.2.2 HCB.out.size))
          clear hA4 hB4
          go_wp2_with fail
          go_roundg (gk - 1)
          case measure => omega
          case rel => exact ⟨k + 1, by go_num, by have := HK.out; omega, by rw [HF1.out, foldS_snoc]; exact HD1.out, by rw [HF2.out, foldS_snoc]; exact HD2.out, by rw [HMIN.out]; exact HD3.out, by rw [HDR.out, foldS_snoc]; exact HD4.out, fun _ => HDF.out, HDB.out⟩
      · have hkn : k = n := by omega
        have hkd : decide (k < n) = false := by simpa using hlt
        have htk : zs.take k = zs := List.take_of_length_le (by have := HLEN.out; omega)
        have htr : zs.reverse.take k = zs.reverse := List.take_of_length_le (by have := HLEN.out; simp; omega)
        have htm : zs.take (min k cut.toNat) = zs.take cut.toNat := by
          rcases Nat.le_total k cut.toNat with h | h
          · rw [Nat.min_eq_left h, htk, List.take_of_length_le (by have := HLEN.out; omega)]
          · rw [Nat.min_eq_right h]
        rw [htk] at hs1 hs4
        rw [htr, foldS_rev (by have := HLEN.out; omega)] at hs2
        rw [htm] at hs3
        have HO := Lib.hid (Okay.fold zs _ okay0)
        have HO3 := Lib.hid (Okay.fold (zs.take cut.toNat) _ okay0)
        have HO4 := Lib.hid (Okay.fold (zs.drop cut.toNat) _ okay0)
        obtain ⟨hj1, hj2, hj3⟩ := foldS_cut (zs := zs) (by have := HLEN.out; omega) cut.toNat
        have HJN := Lib.hid (sumjoin_any wr g4 g3 _ _ _ _ hs4 hs3 HO4.out.2 HO3.out.2 HO4.out.1 HO3.out.1)
        have HEQ : Hid (joinF (foldS (zs.drop cut.toNat)).1 (foldS (zs.take cut.toNat)).1 (foldS (zs.drop cut.toNat)).2 (foldS (zs.take cut.toNat)).2 = (foldS zs).1 ∧ putZ (foldS (zs.drop cut.toNat)).2 (foldS (zs.take cut.toNat)).2 = (foldS zs).2) := Lib.hid ⟨by unfold joinF; rw [if_pos hj1, hj2], by unfold putZ; rw [if_pos hj1, hj3]⟩
        have HJ1 := Lib.hid hj1
        have HS1 := Lib.hid hs1
        have HS2 := Lib.hid hs2
        have HS4 := Lib.hid hs4
        clear hs1 hs2 hs3 hs4 hfr hj1 hj2 hj3 htk htr htm hk hlt
        go_wp2_with fail
        refine HJN.out.mono ?_; rintro e w5 ⟨rfl, hD, hBD⟩
        rw [HEQ.out.1, HEQ.out.2] at hD
        rw [decide_eq_true HJ1.out]
        have HSA := Lib.hid (HS1.out.other HS4.out hBD HNE.out.2.2.1)
        have HSB := Lib.hid (HS2.out.other HS4.out hBD HNE.out.2.2.2.2.1)
        have HSD := Lib.hid hD
        have HBE := Lib.hid (HB.out.trans (hBD.below HQ.out.2.2.2 HB.out.size))
        have HOK : Hid ((foldS zs).1 < 32 ∧ (foldS zs).2.natAbs < ROOM) := HO
        generalize (foldS zs).1 = FB at *
        generalize (foldS zs).2 = FZ at *
        clear hD hBD HJN HEQ HJ1 HS1 HS2 HS4 HO3 HO4 HO
        go_wp2_with fail
        have hbA : Below w5.heap.size w5 w5.drew := (Below.refl _ _).drew
        refine wp_regionN (fun _ => True) [20, 21, 22, 23, 24, 25, 26] (by kernel_rfl) trivial (fun hHeld => ?_)
        refine wpAnyN_take (i := 0) (oi := ⟨some 73, _, _, _, _, _⟩) (v := ?_) rfl (by kernel_rfl) (by kernel_rfl) (by kernel_rfl) (by kernel_rfl) (by kernel_rfl) (fun _ _ _ h => h) (Or.inl ⟨by rfl, ?_⟩) (by assumption) ?_
        rotate_left 1
        · (intro w hSw; (try dsimp only at hSw); go_simp; try with_reducible rfl)
        try simp only [Act.put, List.setIfInBounds_toArray, List.set_cons_zero, List.set_cons_succ]
        refine wpAnyN_take (i := 3) (oi := ⟨some 76, _, _, _, _, _⟩) (v := ?_) rfl (by kernel_rfl) (by kernel_rfl) (by kernel_rfl) (by kernel_rfl) (by kernel_rfl) (fun _ _ _ h => h) (Or.inl ⟨by rfl, ?_⟩) (by assumption) ?_
        rotate_left 1
        · (intro w hSw; (try dsimp only at hSw); go_simp; try with_reducible rfl)
        try simp only [Act.put, List.setIfInBounds_toArray, List.set_cons_zero, List.set_cons_succ]
        refine wpAnyN_one (i := 1) (o := ⟨some 74, _, _, _, _, _⟩) (by kernel_rfl) rfl (fun K hK => ?_)
        go_simp
        refine (sumbytes_any _ _ _ _ (HSA.out.below hbA (Nat.le_refl _)) HOK.out.2 HOK.out.1).mono ?_
        rintro e w1 ⟨a1, n1, c1, bs, rfl, hr1, hbs1, hbb, -⟩
        have hb1 := hbA.trans (hbb.mono hbA.size)
        have hbs := hbs1
        have R1 := BRow.mk hr1 hbs
        refine hK.out _ _ (by trivial) ?_
        clear hK K hHeld
        intro hHeld
        try simp only [Act.put, List.setIfInBounds_toArray, List.set_cons_zero, List.set_cons_succ]
        clear hHeld
        refine wpAnyN_mono (S' := fun w' => BRow w' a1 n1 c1 bs) (fun _ h => trivial) ?_
        have hHeld : (fun w' => BRow w' a1 n1 c1 bs) w1 := R1
        refine wpAnyN_take (i := 2) (oi := ⟨some 75, _, _, _, _, _⟩) (v := ?_) rfl (by kernel_rfl) (by kernel_rfl) (by kernel_rfl) (by kernel_rfl) (by kernel_rfl) (fun _ _ _ h => h) (Or.inl ⟨by rfl, ?_⟩) (by assumption) ?_
        rotate_left 1
        · (intro w hSw; have hcv := bytes_str (hSw); go_simp; try with_reducible rfl)
        try simp only [Act.put, List.setIfInBounds_toArray, List.set_cons_zero, List.set_cons_succ]
        refine wpAnyN_one (i := 4) (o := ⟨some 77, _, _, _, _, _⟩) (by kernel_rfl) rfl (fun K hK => ?_)
        go_simp
        refine (sumbytes_any _ _ _ _ (HSB.out.below hb1 (Nat.le_refl _)) HOK.out.2 HOK.out.1).mono ?_
        rintro e w2 ⟨a2, n2, c2, bs2, rfl, hr2, hbs2, hbb, -⟩
        have hb2 := hb1.trans (hbb.mono hb1.size)
        rw [hbs2.one hbs] at hr2
        have R2 := BRow.mk hr2 hbs
        have R1 := R1.below hbb (Nat.le_refl _)
        refine hK.out _ _ (by exact R1) ?_
        clear hK K hHeld
        intro hHeld
        try simp only [Act.put, List.setIfInBounds_toArray, List.set_cons_zero, List.set_cons_succ]
        clear hHeld
        refine wpAnyN_mono (S' := fun w' => BRow w' a2 n2 c2 bs ∧ BRow w' a1 n1 c1 bs) (fun _ h => h.2) ?_
        have hHeld : (fun w' => BRow w' a2 n2 c2 bs ∧ BRow w' a1 n1 c1 bs) w2 := ⟨R2, R1⟩
        refine wpAnyN_take (i := 5) (oi := ⟨some 78, _, _, _, _, _⟩) (v := ?_) rfl (by kernel_rfl) (by kernel_rfl) (by kernel_rfl) (by kernel_rfl) (by kernel_rfl) (fun _ _ _ h => h) (Or.inl ⟨by rfl, ?_⟩) (by assumption) ?_
        rotate_left 1
        · (intro w hSw; have hcv := bytes_str (hSw.1); go_simp; try with_reducible rfl)
        try simp only [Act.put, List.setIfInBounds_toArray, List.set_cons_zero, List.set_cons_succ]
        refine wpAnyN_take (i := 6) (oi := ⟨some 79, _, _, _, _, _⟩) (v := ?_) rfl (by kernel_rfl) (by kernel_rfl) (by kernel_rfl) (by kernel_rfl) (by kernel_rfl) (fun _ _ _ h => h) (Or.inl ⟨by rfl, ?_⟩) (by assumption) ?_
        rotate_left 1
        · (intro w hSw; (try dsimp only at hSw); go_simp; try with_reducible rfl)
        try simp only [Act.put, List.setIfInBounds_toArray, List.set_cons_zero, List.set_cons_succ]
        refine wpAnyN_take (i := 7) (oi := ⟨some 80, _, _, _, _, _⟩) (v := ?_) rfl (by kernel_rfl) (by kernel_rfl) (by kernel_rfl) (by kernel_rfl) (by kernel_rfl) (fun _ _ _ h => h) (Or.inl ⟨by rfl, ?_⟩) (by assumption) ?_
        rotate_left 1
        · (intro w hSw; (try dsimp only at hSw); go_simp; try with_reducible rfl)
        try simp only [Act.put, List.setIfInBounds_toArray, List.set_cons_zero, List.set_cons_succ]
        refine wpAnyN_take (i := 8) (oi := ⟨some 81, _, _, _, _, _⟩) (v := ?_) rfl (by kernel_rfl) (by kernel_rfl) (by kernel_rfl) (by kernel_rfl) (by kernel_rfl) (fun _ _ _ h => h) (Or.inl ⟨by rfl, ?_⟩) (by assumption) ?_
        rotate_left 1
        · (intro w hSw; (try dsimp only at hSw); go_simp; try with_reducible rfl)
        try simp only [Act.put, List.setIfInBounds_toArray, List.set_cons_zero, List.set_cons_succ]
        refine wpAnyN_take (i := 11) (oi := ⟨some 84, _, _, _, _, _⟩) (v := ?_) rfl (by kernel_rfl) (by kernel_rfl) (by kernel_rfl) (by kernel_rfl) (by kernel_rfl) (fun _ _ _ h => h) (Or.inl ⟨by rfl, ?_⟩) (by assumption) ?_
        rotate_left 1
        · (intro w hSw; (try dsimp only at hSw); go_simp; try with_reducible rfl)
        try simp only [Act.put, List.setIfInBounds_toArray, List.set_cons_zero, List.set_cons_succ]
        refine wpAnyN_one (i := 9) (o := ⟨some 82, _, _, _, _, _⟩) (by kernel_rfl) rfl (fun K hK => ?_)
        go_simp
        refine (sumbytes_any _ _ _ _ (HSA.out.below hb2 (Nat.le_refl _)) HOK.out.2 HOK.out.1).mono ?_
        rintro e w3 ⟨a3, n3, c3, bs3, rfl, hr3, hbs3, hbb, -⟩
        have hb3 := hb2.trans (hbb.mono hb2.size)
        rw [hbs3.one hbs] at hr3
        have R3 := BRow.mk hr3 hbs
        have R1 := R1.below hbb (Nat.le_refl _)
        have R2 := R2.below hbb (Nat.le_refl _)
        refine hK.out _ _ (by exact ⟨R2, R1⟩) ?_
        clear hK K hHeld
        intro hHeld
        try simp only [Act.put, List.setIfInBounds_toArray, List.set_cons_zero, List.set_cons_succ]
        clear hHeld
        refine wpAnyN_mono (S' := fun w' => BRow w' a3 n3 c3 bs ∧ BRow w' a2 n2 c2 bs ∧ BRow w' a1 n1 c1 bs) (fun _ h => h.2) ?_
        have hHeld : (fun w' => BRow w' a3 n3 c3 bs ∧ BRow w' a2 n2 c2 bs ∧ BRow w' a1 n1 c1 bs) w3 := ⟨R3, R2, R1⟩
        refine wpAnyN_take (i := 10) (oi := ⟨some 83, _, _, _, _, _⟩) (v := ?_) rfl (by kernel_rfl) (by kernel_rfl) (by kernel_rfl) (by kernel_rfl) (by kernel_rfl) (fun _ _ _ h => h) (Or.inl ⟨by rfl, ?_⟩) (by assumption) ?_
        rotate_left 1
        · (intro w hSw; have hcv := bytes_str (hSw.1); go_simp; try with_reducible rfl)
        try simp only [Act.put, List.setIfInBounds_toArray, List.set_cons_zero, List.set_cons_succ]
        refine wpAnyN_one (i := 12) (o := ⟨some 85, _, _, _, _, _⟩) (by kernel_rfl) rfl (fun K hK => ?_)
        go_simp
        refine (sumbytes_any _ _ _ _ (HSD.out.below hb3 (Nat.le_refl _)) HOK.out.2 HOK.out.1).mono ?_
        rintro e w4 ⟨a4, n4, c4, bs4, rfl, hr4, hbs4, hbb, -⟩
        have hb4 := hb3.trans (hbb.mono hb3.size)
        rw [hbs4.one hbs] at hr4
        have R4 := BRow.mk hr4 hbs
        have R1 := R1.below hbb (Nat.le_refl _)
        have R2 := R2.below hbb (Nat.le_refl _)
        have R3 := R3.below hbb (Nat.le_refl _)
        refine hK.out _ _ (by exact ⟨R3, R2, R1⟩) ?_
        clear hK K hHeld
        intro hHeld
        try simp only [Act.put, List.setIfInBounds_toArray, List.set_cons_zero, List.set_cons_succ]
        clear hHeld
        refine wpAnyN_mono (S' := fun w' => BRow w' a4 n4 c4 bs ∧ BRow w' a3 n3 c3 bs ∧ BRow w' a2 n2 c2 bs ∧ BRow w' a1 n1 c1 bs) (fun _ h => h.2) ?_
        have hHeld : (fun w' => BRow w' a4 n4 c4 bs ∧ BRow w' a3 n3 c3 bs ∧ BRow w' a2 n2 c2 bs ∧ BRow w' a1 n1 c1 bs) w4 := ⟨R4, R3, R2, R1⟩
        refine wpAnyN_take (i := 13) (oi := ⟨some 86, _, _, _, _, _⟩) (v := ?_) rfl (by kernel_rfl) (by kernel_rfl) (by kernel_rfl) (by kernel_rfl) (by kernel_rfl) (fun _ _ _ h => h) (Or.inl ⟨by rfl, ?_⟩) (by assumption) ?_
        rotate_left 1
        · (intro w hSw; have hcv := bytes_str (hSw.1); go_simp; try with_reducible rfl)
        try simp only [Act.put, List.setIfInBounds_toArray, List.set_cons_zero, List.set_cons_succ]
        refine wpAnyN_take (i := 14) (oi := ⟨some 87, _, _, _, _, _⟩) (v := ?_) rfl (by kernel_rfl) (by kernel_rfl) (by kernel_rfl) (by kernel_rfl) (by kernel_rfl) (fun _ _ _ h => h) (Or.inl ⟨by rfl, ?_⟩) (by assumption) ?_
        rotate_left 1
        · (intro w hSw; (try dsimp only at hSw); go_simp; try with_reducible rfl)
        try simp only [Act.put, List.setIfInBounds_toArray, List.set_cons_zero, List.set_cons_succ]
        refine wpAnyN_take (i := 15) (oi := ⟨some 88, _, _, _, _, _⟩) (v := ?_) rfl (by kernel_rfl) (by kernel_rfl) (by kernel_rfl) (by kernel_rfl) (by kernel_rfl) (fun _ _ _ h => h) (Or.inl ⟨by rfl, ?_⟩) (by assumption) ?_
        rotate_left 1
        · (intro w hSw; (try dsimp only at hSw); go_simp; try with_reducible rfl)
        try simp only [Act.put, List.setIfInBounds_toArray, List.set_cons_zero, List.set_cons_succ]
        refine wpAnyN_take (i := 16) (oi := ⟨some 89, _, _, _, _, _⟩) (v := ?_) rfl (by kernel_rfl) (by kernel_rfl) (by kernel_rfl) (by kernel_rfl) (by kernel_rfl) (fun _ _ _ h => h) (Or.inl ⟨by rfl, ?_⟩) (by assumption) ?_
        rotate_left 1
        · (intro w hSw; (try dsimp only at hSw); go_simp; try with_reducible rfl)
        try simp only [Act.put, List.setIfInBounds_toArray, List.set_cons_zero, List.set_cons_succ]
        refine wpAnyN_take (i := 17) (oi := ⟨some 90, _, _, _, _, _⟩) (v := ?_) rfl (by kernel_rfl) (by kernel_rfl) (by kernel_rfl) (by kernel_rfl) (by kernel_rfl) (fun _ _ _ h => h) (Or.inl ⟨by rfl, ?_⟩) (by assumption) ?_
        rotate_left 1
        · (intro w hSw; (try dsimp only at hSw); go_simp; try with_reducible rfl)
        try simp only [Act.put, List.setIfInBounds_toArray, List.set_cons_zero, List.set_cons_succ]
        refine wpAnyN_take (i := 19) (oi := ⟨some 92, _, _, _, _, _⟩) (v := ?_) rfl (by kernel_rfl) (by kernel_rfl) (by kernel_rfl) (by kernel_rfl) (by kernel_rfl) (fun _ _ _ h => h) (Or.inl ⟨by rfl, ?_⟩) (by assumption) ?_
        rotate_left 1
        · (intro w hSw; (try dsimp only at hSw); go_simp; try with_reducible rfl)
        try simp only [Act.put, List.setIfInBounds_toArray, List.set_cons_zero, List.set_cons_succ]
        refine wpAnyN_one (i := 18) (o := ⟨some 91, _, _, _, _, _⟩) (by kernel_rfl) rfl (fun K hK => ?_)
        go_simp
        refine (sumval_any _ _ _ _ (HSA.out.below hb4 (Nat.le_refl _)) HOK.out.2 HOK.out.1).mono ?_
        rintro e w5 ⟨v1, rfl, hv1, hbb⟩
        have hb5 := hb4.trans (hbb.mono hb4.size)
        have R1 := R1.below hbb (Nat.le_refl _)
        have R2 := R2.below hbb (Nat.le_refl _)
        have R3 := R3.below hbb (Nat.le_refl _)
        have R4 := R4.below hbb (Nat.le_refl _)
        refine hK.out _ _ (by exact ⟨R4, R3, R2, R1⟩) ?_
        clear hK K hHeld
        intro hHeld
        try simp only [Act.put, List.setIfInBounds_toArray, List.set_cons_zero, List.set_cons_succ]
        clear hHeld
        refine wpAnyN_late (i := 20) (o := ⟨some 93, _, _, _, _, _⟩) (by kernel_rfl) (by kernel_rfl) rfl (fun K hK => ?_)
        go_simp
        refine (sumval_any _ _ _ _ (HSD.out.below hb5 (Nat.le_refl _)) HOK.out.2 HOK.out.1).mono ?_
        rintro e w6 ⟨v2, rfl, hv2, hbb⟩
        have hb6 := hb5.trans (hbb.mono hb5.size)
        refine hK.out _ _ ?_
        clear hK K
        try simp only [Act.put, List.setIfInBounds_toArray, List.set_cons_zero, List.set_cons_succ]
        refine wpAnyN_late (i := 21) (o := ⟨some 94, _, _, _, _, _⟩) (by kernel_rfl) (by kernel_rfl) rfl (fun K hK => ?_)
        go_simp
        refine (rsame_key hv1.1 hv2.1 (hv1.one hv2) _).mono ?_
        rintro e w7 ⟨rfl, hbb⟩
        have hb7 := hb6.trans (hbb.mono hb6.size)
        refine hK.out _ _ ?_
        clear hK K
        try simp only [Act.put, List.setIfInBounds_toArray, List.set_cons_zero, List.set_cons_succ]
        refine wpAnyN_late (i := 22) (o := ⟨some 95, _, _, _, _, _⟩) (by kernel_rfl) (by kernel_rfl) rfl (fun K hK => ?_)
        go_simp
        refine hK.out _ _ ?_
        clear hK K
        try simp only [Act.put, List.setIfInBounds_toArray, List.set_cons_zero, List.set_cons_succ]
        refine wpAnyN_late (i := 23) (o := ⟨some 96, _, _, _, _, _⟩) (by kernel_rfl) (by kernel_rfl) rfl (fun K hK => ?_)
        go_simp
        refine hK.out _ _ ?_
        clear hK K
        try simp only [Act.put, List.setIfInBounds_toArray, List.set_cons_zero, List.set_cons_succ]
        refine wpAnyN_late (i := 24) (o := ⟨some 97, _, _, _, _, _⟩) (by kernel_rfl) (by kernel_rfl) rfl (fun K hK => ?_)
        go_simp
        refine (awake_ex _).mono ?_
        rintro e w8 ⟨rfl, hbb⟩
        have hb8 := hb7.trans (hbb.mono hb7.size)
        refine hK.out _ _ ?_
        clear hK K
        try simp only [Act.put, List.setIfInBounds_toArray, List.set_cons_zero, List.set_cons_succ]
        refine wpAnyN_late (i := 25) (o := ⟨some 98, _, _, _, _, _⟩) (by kernel_rfl) (by kernel_rfl) rfl (fun K hK => ?_)
        go_simp
        refine hK.out _ _ ?_
        clear hK K
        try simp only [Act.put, List.setIfInBounds_toArray, List.set_cons_zero, List.set_cons_succ]
        refine wpAnyN_late (i := 26) (o := ⟨some 4, _, _, _, _, _⟩) (by kernel_rfl) (by kernel_rfl) rfl (fun K hK => ?_)
        go_simp
        refine hK.out _ _ ?_
        clear hK K
        try simp only [Act.put, List.setIfInBounds_toArray, List.set_cons_zero, List.set_cons_succ]
        refine wpAnyN_end (by kernel_rfl) ?_
        go_wp2_with fail
        go_ret
        exact ⟨rfl, HBE.out.trans (hb8.mono HBE.out.size)⟩
  · have t1 : decide ((60 : Int) < (n : Int)) = true := by simp; omega
    clear hA w1 hlen hw hmax hl
    go_enter Try.func4, Try.ntmps4
    go_wp2_with fail
    refine (awake_ex _).mono ?_; rintro e w6 ⟨rfl, hb6⟩
    have HB6 := Lib.hid hb6
    clear hb6
    go_wp2_with fail
    go_ret
    exact ⟨rfl, HB6.out⟩
end Go.Proofs.Ytgdddpbdcdheeaa
