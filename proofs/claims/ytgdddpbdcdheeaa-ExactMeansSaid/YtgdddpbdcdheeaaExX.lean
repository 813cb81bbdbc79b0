/- The walk of the law ExactMeans. No conditions. -/
import Derived.Test.YtgdddpbdcdheeaaExW
import Derived.Test.YtgdddpbdcdheeaaRatP
namespace Go.Proofs.Ytgdddpbdcdheeaa
open Go.RowKit Ieee

theorem fin_eq {x y : Nat} (hx : x < 18446744073709551616) (hy : y < 18446744073709551616) (kx : kindZ x = 1) (ky : kindZ y = 1) : (FloatKind.f64.format.order x y == some .eq) = decide (x = y) := by
  obtain ⟨x1, x2⟩ := kind1.1 kx
  obtain ⟨y1, y2⟩ := kind1.1 ky
  have h := order_num hx hy (by omega) (by omega)
  rw [show FloatKind.f64.format.order x y = double.order x y from rfl, h]
  have hs : sk x = sk y ↔ x = y := by
    constructor
    · intro h
      unfold sk sg at h
      unfold S63 at *
      by_cases h1 : 9223372036854775808 ≤ x <;> by_cases h2 : 9223372036854775808 ≤ y <;> simp [h1, h2] at h <;> omega
    · intro h; rw [h]
  rw [Bool.eq_iff_iff]
  simp only [beq_iff_eq, decide_eq_true_eq, Option.some.injEq]
  rw [← hs]
  simp only [compare, compareOfLessAndEq]
  constructor
  · intro h
    split at h
    · cases h
    · split at h
      · assumption
      · cases h
  · intro h
    rw [if_neg (by omega), if_pos h]
theorem orF_same (x : Nat) (h : kindZ x = 1) : ∀ n, orF (List.replicate (n + 1) x) = 16
  | 0 => by
    show flagOf x ||| 0 = 16
    rw [Nat.or_zero]
    unfold flagOf; simp only [h]; simp
  | n + 1 => by
    rw [List.replicate_succ]
    show flagOf x ||| orF (List.replicate (n + 1) x) = 16
    rw [orF_same x h n]
    have : flagOf x = 16 := by unfold flagOf; simp only [h]; simp
    rw [this]; decide
theorem sumU_same (x : Nat) (h : kindZ x = 1) : ∀ n : Nat, sumU (List.replicate n x) = (n : Int) * unitsOf x
  | 0 => by show (0 : Int) = _; simp
  | n + 1 => by
    rw [List.replicate_succ]
    show uniOf x + sumU (List.replicate n x) = _
    rw [sumU_same x h n]
    have : uniOf x = unitsOf x := by unfold uniOf; rw [if_pos h]
    rw [this, Int.natCast_add, Int.add_mul]
    simp
    omega
theorem sgn_back {x r : Nat} (hx : x < 18446744073709551616) (hr : x % S63 = r) : sgnW (decide (S63 ≤ x)) r = x := by
  unfold sgnW
  unfold S63 at *
  by_cases h : 9223372036854775808 ≤ x
  · rw [decide_eq_true h, if_pos rfl]; omega
  · rw [decide_eq_false h, if_neg (by decide)]; omega
theorem mean_same {zs : List Nat} {x v : Nat} (hn : zs.length ≤ 128) (h0 : 0 < zs.length) (hx : x < 18446744073709551616) (hk : kindZ x = 1) (hs : ∀ j, j < zs.length → zs.getD j 0 = x) (hv : IsMeanS (foldS zs).1 (foldS zs).2 (zs.length : Int) v) : x = v := by
  have hrep : zs = List.replicate zs.length x := by
    refine List.eq_replicate_iff.2 ⟨rfl, fun y hy => ?_⟩
    obtain ⟨j, hj, rfl⟩ := List.mem_iff_getElem.1 hy
    rw [← hs j hj]
    simp [hj]
  rw [foldS_eq hn] at hv
  obtain ⟨m, hm⟩ : ∃ m, zs.length = m + 1 := ⟨zs.length - 1, by omega⟩
  have h1 : orF zs = 16 := by rw [hrep, hm]; exact orF_same x hk m
  have h2 : sumU zs = ((zs.length : Nat) : Int) * unitsOf x := by
    have := sumU_same x hk zs.length
    rw [← hrep] at this
    exact this
  obtain ⟨k1, k2⟩ := kind1.1 hk
  obtain ⟨r, hr⟩ : ∃ r, x % S63 = r := ⟨_, rfl⟩
  rw [hr] at k1 k2
  have hiv := iv_pos k1
  obtain ⟨L, hL⟩ : ∃ L, zs.length = L := ⟨_, rfl⟩
  simp only [h1, h2] at hv
  rw [hL] at hv h0
  have hu : unitsOf x = signU (decide (S63 ≤ x)) (iv r) := by unfold unitsOf; rw [hr]
  have hpos : 0 < L * iv r := Nat.mul_pos h0 hiv
  have hna : ((L : Int) * unitsOf x).natAbs = L * iv r := by
    rw [Int.natAbs_mul, hu]
    unfold signU
    split <;> simp
  have hng : decide ((L : Int) * unitsOf x < 0) = decide (S63 ≤ x) := by
    rw [hu]
    unfold signU
    by_cases h : S63 ≤ x
    · rw [decide_eq_true h, if_pos rfl]
      refine decide_eq_true ?_
      rw [Int.mul_neg]
      have : (0 : Int) < (L : Int) * (iv r : Int) := by exact_mod_cast hpos
      omega
    · rw [decide_eq_false h, if_neg (by decide)]
      refine decide_eq_false ?_
      have : (0 : Int) ≤ (L : Int) * (iv r : Int) := by exact_mod_cast Nat.le_of_lt hpos
      omega
  obtain ⟨-, hv⟩ := hv
  rcases hv with ⟨j1, -⟩ | ⟨-, j2, -⟩ | ⟨-, -, -, y, j3, j4⟩
  · omega
  · rcases j2 with j2 | j2
    · omega
    · rw [j2] at hna; simp at hna; omega
  · rw [hna] at j3
    rw [show ((L : Int)).toNat = L from by simp] at j3
    have y1 := near_le_of j3 (Nat.le_refl _)
    have y2 := near_ge_of j3 (Nat.le_refl _) (Nat.le_of_lt k2)
    rw [j4, hng, show y = r from by omega]
    exact (sgn_back hx hr).symm

set_option maxRecDepth 100000 in
set_option maxHeartbeats 4000000 in
theorem walk_exmeans (a : Option Addr) (n c : Nat) (zs : List Nat) (t : Int) (w : World) (hA : IsFloats w a n c zs) (w1 : (Lit.int .i64 t).wf = true) :
    Calls Try.prog 10 #[.slice a n c, .int .i64 t] w fun e w' => e = .returned (.bool true) ∧ Below w.heap.size w w' := by
  obtain ⟨tu1, tu2⟩ := wf_i64r w1
  obtain ⟨hlen, hcap, hmax, hw⟩ := hA.len
  have hn : n ≤ 9223372036854775807 := by unfold maxLen at hmax; omega
  by_cases hl : n ≤ 40
  · have t1 : decide ((40 : Int) < (n : Int)) = false := by simp; omega
    have HFR := Lib.hid hA.frow
    have HLEN := Lib.hid hlen
    have HW := Lib.hid hw
    have HL := Lib.hid hl
    have HO := Lib.hid (Okay.fold zs _ okay0)
    have HPL := Lib.hid (Plus.of zs)
    clear hA hlen hw hmax hl hcap w1
    go_enter Try.func10, Try.ntmps10
    go_wp2_with fail
    refine (sumnew_at _).mono ?_; rintro e w1 ⟨g, rfl, hs1, hb1, hg1⟩
    have HG := Lib.hid hg1
    have HS1 := Lib.hid hs1
    have HB1 := Lib.hid hb1
    have HF1 := Lib.hid (HFR.out.below HB1.out (Nat.le_refl _))
    clear hs1 hb1 hg1
    go_wp2_with fail
    go_loopg [6] n (fun gg i wr => ∃ (k : Nat), i = .int .i64 (k : Int) ∧ k + gg = n ∧ SumAt wr g (foldS (zs.take k)).1 (foldS (zs.take k)).2 ∧ FRow wr a n c zs ∧ Below w.heap.size w wr)
    case atStart => exact ⟨0, rfl, by omega, HS1.out, HF1.out, HB1.out⟩
    case round =>
      obtain ⟨k, rfl, hk, hs, hr, hb⟩ := hrel
      have HB := Lib.hid hb
      have HK := Lib.hid hk
      have HS := Lib.hid hs
      have HRR := Lib.hid hr
      clear hb HS1 HF1 HB1 HFR
      by_cases hlt : k < n
      · have hok : Okay (foldS (zs.take k)) := Okay.fold _ _ okay0
        obtain ⟨ba, oa, rfl, hba, cx⟩ := hr.lt hlt
        have hlk : k < zs.length := by have := HLEN.out; omega
        obtain ⟨x, hx⟩ : ∃ x, zs.getD k 0 = x := ⟨_, rfl⟩
        have hxw : x < 18446744073709551616 := by
          rw [← hx]
          exact HW.out _ (by simp [hlk])
        have hao := add_ok hlk (by have := HLEN.out; have := HL.out; omega)
        have hft := foldS_take hlk
        rw [hx] at cx hft hao
        have HADS := Lib.hid (sumadd_any wr g _ _ x hs hok.2 hok.1 hxw)
        have HFT := Lib.hid hft
        have HAO := Lib.hid hao
        have hki : (k : Int) < (n : Int) := by omega
        have hkd : decide (k < n) = true := by simpa using hlt
        have hg1 : 1 ≤ gk := by omega
        clear hs hr hx hft hok hk hlk hxw hao
        go_wp2_with fail
        refine HADS.out.mono ?_; rintro e w5 ⟨rfl, hA5, hB5⟩
        rw [HAO.out]
        have HS5 := Lib.hid hA5
        have HR5 := Lib.hid (HRR.out.sum HS.out hB5)
        have HB5 := Lib.hid (HB.out.trans (hB5.below HG.out HB.out.size))
        clear hA5 hB5 cx
        go_wp2_with fail
        go_roundg (gk - 1)
        case measure => omega
        case rel => exact ⟨k + 1, by go_num, by have := HK.out; omega, by rw [HFT.out]; exact HS5.out, HR5.out, HB5.out⟩
      · have hkn : k = n := by omega
        have hkd : decide (k < n) = false := by simpa using hlt
        have htk : zs.take k = zs := List.take_of_length_le (by have := HLEN.out; omega)
        rw [htk] at hs
        have HS := Lib.hid hs
        clear hs hr htk hkn hk hlt HK
        go_wp2_with fail
        refine (summean_any wr g _ _ t HS.out HO.out.2 HO.out.1 tu1 tu2).mono ?_; rintro e w2 ⟨v1, rfl, hv1, hb2⟩
        have HV1 := Lib.hid hv1
        have HS2 := Lib.hid (HS.out.below hb2 (Nat.le_refl _))
        have HR2 := Lib.hid (HRR.out.below hb2 (Nat.le_refl _))
        have HB2 := Lib.hid (HB.out.trans (hb2.mono HB.out.size))
        clear hv1 hb2
        go_wp2_with fail
        refine (rsof_any _ a n c zs HR2.out HW.out).mono ?_; rintro e w3 ⟨ng, a3, l3, c3, rfl, hN3, hb3⟩
        have HN3 := Lib.hid hN3
        have HS3 := Lib.hid (HS2.out.below hb3 (Nat.le_refl _))
        have HR3 := Lib.hid (HR2.out.below hb3 (Nat.le_refl _))
        have HB3 := Lib.hid (HB2.out.trans (hb3.mono HB2.out.size))
        clear hN3 hb3
        go_wp2_with fail
        refine (rsmean_b _ (foldS zs).1 (foldS zs).2 t _ _ _ _ _ ng a3 l3 c3 HN3.out HO.out.2 HO.out.1 HPL.out rfl rfl rfl rfl rfl tu1 tu2).mono ?_; rintro e w4 ⟨v2, rfl, hv2, hb4⟩
        have HV2 := Lib.hid hv2
        have HS4 := Lib.hid (HS3.out.below hb4 (Nat.le_refl _))
        have HR4 := Lib.hid (HR3.out.below hb4 (Nat.le_refl _))
        have HB4 := Lib.hid (HB3.out.trans (hb4.mono HB3.out.size))
        clear hv2 hb4
        go_wp2_with fail
        refine (rsame_key HV1.out.1 HV2.out.1 (HV1.out.one HV2.out) _).mono ?_; rintro e w5 ⟨rfl, hb5⟩
        have HS5 := Lib.hid (HS4.out.below hb5 (Nat.le_refl _))
        have HR5 := Lib.hid (HR4.out.below hb5 (Nat.le_refl _))
        have HB5 := Lib.hid (HB4.out.trans (hb5.mono HB4.out.size))
        clear hb5 HV1 HV2 HN3 HS HS2 HS3 HS4 HR2 HR3 HR4 HB2 HB3 HB4 HRR HB
        obtain ⟨x0, hx0⟩ : ∃ x0, zs.getD 0 0 = x0 := ⟨_, rfl⟩
        have HE0 := Lib.hid hx0
        clear hx0
        go_wp2_with fail
        go_loopg [7] n (fun gg i wr => ∃ (k : Nat), i = .int .i64 (k : Int) ∧ k + gg = n ∧ (∀ j, j < k → zs.getD j 0 = x0 ∧ kindZ x0 = 1) ∧ SumAt wr g (foldS zs).1 (foldS zs).2 ∧ FRow wr a n c zs ∧ Below w.heap.size w wr)
        case atStart => exact ⟨0, rfl, by omega, fun j hj => absurd hj (Nat.not_lt_zero j), HS5.out, HR5.out, HB5.out⟩
        case round =>
          obtain ⟨k, rfl, hk, hall, hs, hR, hB⟩ := hrel
          have HK := Lib.hid hk
          have HALL := Lib.hid hall
          clear HS5 HR5 HB5 hall
          by_cases hlt : k < n
          · have hlk : k < zs.length := by have := HLEN.out; omega
            obtain ⟨ba, oa, rfl, hba, cx⟩ := hR.lt hlt
            have cx0 : wr.cell? ⟨ba, oa, none⟩ = some (.float .f64 x0) := by
              obtain ⟨b', o', he, -, h4⟩ := hR.lt (i := 0) (by omega)
              cases he
              rw [Nat.add_zero] at h4
              rw [h4, HE0.out]
            obtain ⟨x, hx⟩ : ∃ x, zs.getD k 0 = x := ⟨_, rfl⟩
            have HX := Lib.hid hx
            have HXW : Hid (x < 18446744073709551616) := Lib.hid (by
              rw [← hx]
              exact HW.out _ (by simp [hlk]))
            have HX0 : Hid (x0 < 18446744073709551616) := Lib.hid (by
              rw [← HE0.out]
              exact HW.out _ (by have : 0 < zs.length := by omega
                                 simp [this]))
            rw [hx] at cx
            have hki : (k : Int) < (n : Int) := by omega
            have hn0 : 0 < n := by omega
            have hkd : decide (k < n) = true := by simpa using hlt
            have hg1 : 1 ≤ gk := by omega
            obtain ⟨kd, hkd2⟩ : ∃ kd, kindZ x = kd := ⟨_, rfl⟩
            have HKX := Lib.hid hkd2
            clear hx hk hlk hlt
            by_cases hk1 : kd = 1
            · subst hk1
              have hB := hB.drew
              have hs := hs.below (Below.refl _ _).drew (Nat.le_refl _)
              have hR := hR.below (Below.refl _ _).drew (Nat.le_refl _)
              by_cases hk0 : kindZ x0 = 1
              · have hfe := fin_eq HXW.out HX0.out hkd2 hk0
                have HK01 := Lib.hid hk0
                by_cases hxx : x = x0
                · rw [decide_eq_true hxx] at hfe
                  replace hfe : (FloatKind.f64.format.order x x0 != some .eq) = false := by simp only [bne, hfe]; rfl
                  have HXX := Lib.hid hxx
                  clear hkd2 hk0 hxx
                  go_wp2_with fail
                  refine wp_regionN (fun w' => w'.cell? ⟨ba, oa + k, none⟩ = some (.float .f64 x) ∧ w'.cell? ⟨ba, oa, none⟩ = some (.float .f64 x0)) [] (by kernel_rfl) (by exact ⟨cx, cx0⟩) (fun hHeld => ?_)
                  refine wpAnyN_take (i := 0) (oi := ⟨some 49, _, _, _, _, _⟩) (v := ?_) rfl (by kernel_rfl) (by kernel_rfl) (by kernel_rfl) (by kernel_rfl) (by kernel_rfl) (fun _ _ _ h => h) (Or.inl ⟨by rfl, ?_⟩) (by assumption) ?_
                  rotate_left 1
                  · (intro w hSw; (try dsimp only at hSw); go_simp; try with_reducible rfl)
                  try simp only [Act.put, List.setIfInBounds_toArray, List.set_cons_zero, List.set_cons_succ]
                  refine wpAnyN_take (i := 1) (oi := ⟨some 50, _, _, _, _, _⟩) (v := ?_) rfl (by kernel_rfl) (by kernel_rfl) (by kernel_rfl) (by kernel_rfl) (by kernel_rfl) (fun _ _ _ h => h) (Or.inl ⟨by rfl, ?_⟩) (by assumption) ?_
                  rotate_left 1
                  · (intro w hSw; (try dsimp only at hSw); go_simp; try with_reducible rfl)
                  try simp only [Act.put, List.setIfInBounds_toArray, List.set_cons_zero, List.set_cons_succ]
                  refine wpAnyN_take (i := 2) (oi := ⟨some 51, _, _, _, _, _⟩) (v := ?_) rfl (by kernel_rfl) (by kernel_rfl) (by kernel_rfl) (by kernel_rfl) (by kernel_rfl) (fun _ _ _ h => h) (Or.inl ⟨by rfl, ?_⟩) (by assumption) ?_
                  rotate_left 1
                  · (intro w hSw; (try dsimp only at hSw); go_simp; try with_reducible rfl)
                  try simp only [Act.put, List.setIfInBounds_toArray, List.set_cons_zero, List.set_cons_succ]
                  refine wpAnyN_take (i := 3) (oi := ⟨some 52, _, _, _, _, _⟩) (v := ?_) rfl (by kernel_rfl) (by kernel_rfl) (by kernel_rfl) (by kernel_rfl) (by kernel_rfl) (fun _ _ _ h => h) (Or.inl ⟨by rfl, ?_⟩) (by assumption) ?_
                  rotate_left 1
                  · (intro w hSw; (try dsimp only at hSw); go_simp; try with_reducible rfl)
                  try simp only [Act.put, List.setIfInBounds_toArray, List.set_cons_zero, List.set_cons_succ]
                  refine wpAnyN_one (i := 4) (o := ⟨some 53, _, _, _, _, _⟩) (by kernel_rfl) rfl (fun K hK => ?_)
                  go_simp
                  refine (rkind_any x _ HXW.out).mono ?_
                  rintro e w2 ⟨rfl, hbb⟩
                  rw [HKX.out]
                  have hR := hR.below hbb (Nat.le_refl _)
                  have hs := hs.below hbb (Nat.le_refl _)
                  have hB := hB.trans (hbb.mono hB.size)
                  have d0 : w2.cell? ⟨ba, oa + k, none⟩ = some (.float .f64 x) := by rw [(bcell hbb).1 _ _ hba]; exact cx
                  have d1 : w2.cell? ⟨ba, oa, none⟩ = some (.float .f64 x0) := by rw [(bcell hbb).1 _ _ hba]; exact cx0
                  clear hbb
                  refine hK.out _ _ (by exact ⟨d0, d1⟩) ?_
                  clear hK K hHeld
                  intro hHeld
                  try simp only [Act.put, List.setIfInBounds_toArray, List.set_cons_zero, List.set_cons_succ]
                  refine wpAnyN_take (i := 5) (oi := ⟨some 54, _, _, _, _, _⟩) (v := ?_) rfl (by kernel_rfl) (by kernel_rfl) (by kernel_rfl) (by kernel_rfl) (by kernel_rfl) (fun _ _ _ h => h) (Or.inl ⟨by rfl, ?_⟩) (by assumption) ?_
                  rotate_left 1
                  · (intro w hSw; (try dsimp only at hSw); go_simp; try with_reducible rfl)
                  try simp only [Act.put, List.setIfInBounds_toArray, List.set_cons_zero, List.set_cons_succ]
                  refine wpAnyN_take (i := 6) (oi := ⟨some 55, _, _, _, _, _⟩) (v := ?_) rfl (by kernel_rfl) (by kernel_rfl) (by kernel_rfl) (by kernel_rfl) (by kernel_rfl) (fun _ _ _ h => h) (Or.inl ⟨by rfl, ?_⟩) (by assumption) ?_
                  rotate_left 1
                  · (intro w hSw; (try dsimp only at hSw); go_simp; try with_reducible rfl)
                  try simp only [Act.put, List.setIfInBounds_toArray, List.set_cons_zero, List.set_cons_succ]
                  refine wpAnyN_take (i := 7) (oi := ⟨some 56, _, _, _, _, _⟩) (v := ?_) rfl (by kernel_rfl) (by kernel_rfl) (by kernel_rfl) (by kernel_rfl) (by kernel_rfl) (fun _ _ _ h => h) (Or.inl ⟨by rfl, ?_⟩) (by assumption) ?_
                  rotate_left 1
                  · (intro w hSw; (try dsimp only at hSw); go_simp; try with_reducible rfl)
                  try simp only [Act.put, List.setIfInBounds_toArray, List.set_cons_zero, List.set_cons_succ]
                  refine wpAnyN_take (i := 8) (oi := ⟨some 57, _, _, _, _, _⟩) (v := ?_) rfl (by kernel_rfl) (by kernel_rfl) (by kernel_rfl) (by kernel_rfl) (by kernel_rfl) (fun _ _ _ h => h) (Or.inl ⟨by rfl, ?_⟩) (by assumption) ?_
                  rotate_left 1
                  · (intro w hSw; (try dsimp only at hSw); go_simp; try with_reducible rfl)
                  try simp only [Act.put, List.setIfInBounds_toArray, List.set_cons_zero, List.set_cons_succ]
                  refine wpAnyN_take (i := 9) (oi := ⟨some 58, _, _, _, _, _⟩) (v := ?_) rfl (by kernel_rfl) (by kernel_rfl) (by kernel_rfl) (by kernel_rfl) (by kernel_rfl) (fun _ _ _ h => h) (Or.inl ⟨by rfl, ?_⟩) (by assumption) ?_
                  rotate_left 1
                  · (intro w hSw; (try dsimp only at hSw); go_simp; try with_reducible rfl)
                  try simp only [Act.put, List.setIfInBounds_toArray, List.set_cons_zero, List.set_cons_succ]
                  refine wpAnyN_take (i := 10) (oi := ⟨some 59, _, _, _, _, _⟩) (v := ?_) rfl (by kernel_rfl) (by kernel_rfl) (by kernel_rfl) (by kernel_rfl) (by kernel_rfl) (fun _ _ _ h => h) (Or.inl ⟨by rfl, ?_⟩) (by assumption) ?_
                  rotate_left 1
                  · (intro w hSw; (try dsimp only at hSw); go_simp; try with_reducible rfl)
                  try simp only [Act.put, List.setIfInBounds_toArray, List.set_cons_zero, List.set_cons_succ]
                  refine wpAnyN_take (i := 11) (oi := ⟨some 60, _, _, _, _, _⟩) (v := ?_) rfl (by kernel_rfl) (by kernel_rfl) (by kernel_rfl) (by kernel_rfl) (by kernel_rfl) (fun _ _ _ h => h) (Or.inl ⟨by rfl, ?_⟩) (by assumption) ?_
                  rotate_left 1
                  · (intro w hSw; (try dsimp only at hSw); go_simp; try with_reducible rfl)
                  try simp only [Act.put, List.setIfInBounds_toArray, List.set_cons_zero, List.set_cons_succ]
                  refine wpAnyN_take (i := 12) (oi := ⟨some 61, _, _, _, _, _⟩) (v := ?_) rfl (by kernel_rfl) (by kernel_rfl) (by kernel_rfl) (by kernel_rfl) (by kernel_rfl) (fun _ _ _ h => h) (Or.inl ⟨by rfl, ?_⟩) (by assumption) ?_
                  rotate_left 1
                  · (intro w hSw; (try dsimp only at hSw); go_simp; try with_reducible rfl)
                  try simp only [Act.put, List.setIfInBounds_toArray, List.set_cons_zero, List.set_cons_succ]
                  refine wpAnyN_take (i := 13) (oi := ⟨some 62, _, _, _, _, _⟩) (v := ?_) rfl (by kernel_rfl) (by kernel_rfl) (by kernel_rfl) (by kernel_rfl) (by kernel_rfl) (fun _ _ _ h => h) (Or.inl ⟨by rfl, ?_⟩) (by assumption) ?_
                  rotate_left 1
                  · (intro w hSw; (try dsimp only at hSw); go_simp; try with_reducible rfl)
                  try simp only [Act.put, List.setIfInBounds_toArray, List.set_cons_zero, List.set_cons_succ]
                  refine wpAnyN_take (i := 14) (oi := ⟨some 63, _, _, _, _, _⟩) (v := ?_) rfl (by kernel_rfl) (by kernel_rfl) (by kernel_rfl) (by kernel_rfl) (by kernel_rfl) (fun _ _ _ h => h) (Or.inl ⟨by rfl, ?_⟩) (by assumption) ?_
                  rotate_left 1
                  · (intro w hSw; (try dsimp only at hSw); go_simp; try with_reducible rfl)
                  try simp only [Act.put, List.setIfInBounds_toArray, List.set_cons_zero, List.set_cons_succ]
                  refine wpAnyN_take (i := 15) (oi := ⟨some 64, _, _, _, _, _⟩) (v := ?_) rfl (by kernel_rfl) (by kernel_rfl) (by kernel_rfl) (by kernel_rfl) (by kernel_rfl) (fun _ _ _ h => h) (Or.inl ⟨by rfl, ?_⟩) (by assumption) ?_
                  rotate_left 1
                  · (intro w hSw; (try dsimp only at hSw); go_simp; try with_reducible rfl)
                  try simp only [Act.put, List.setIfInBounds_toArray, List.set_cons_zero, List.set_cons_succ]
                  refine wpAnyN_end (by kernel_rfl) ?_
                  go_wp2_with fail
                  go_roundg (gk - 1)
                  case measure => omega
                  case rel => exact ⟨k + 1, by go_num, by have := HK.out; omega, fun j hj => by
                    by_cases h : j = k
                    · rw [h, HX.out, HXX.out]; exact ⟨rfl, HK01.out⟩
                    · exact HALL.out j (by omega), hs, hR, hB⟩
                · rw [decide_eq_false hxx] at hfe
                  replace hfe : (FloatKind.f64.format.order x x0 != some .eq) = true := by simp only [bne, hfe]; rfl
                  clear hkd2 hk0 hxx
                  go_wp2_with fail
                  refine wp_regionN (fun w' => w'.cell? ⟨ba, oa + k, none⟩ = some (.float .f64 x) ∧ w'.cell? ⟨ba, oa, none⟩ = some (.float .f64 x0)) [] (by kernel_rfl) (by exact ⟨cx, cx0⟩) (fun hHeld => ?_)
                  refine wpAnyN_take (i := 0) (oi := ⟨some 49, _, _, _, _, _⟩) (v := ?_) rfl (by kernel_rfl) (by kernel_rfl) (by kernel_rfl) (by kernel_rfl) (by kernel_rfl) (fun _ _ _ h => h) (Or.inl ⟨by rfl, ?_⟩) (by assumption) ?_
                  rotate_left 1
                  · (intro w hSw; (try dsimp only at hSw); go_simp; try with_reducible rfl)
                  try simp only [Act.put, List.setIfInBounds_toArray, List.set_cons_zero, List.set_cons_succ]
                  refine wpAnyN_take (i := 1) (oi := ⟨some 50, _, _, _, _, _⟩) (v := ?_) rfl (by kernel_rfl) (by kernel_rfl) (by kernel_rfl) (by kernel_rfl) (by kernel_rfl) (fun _ _ _ h => h) (Or.inl ⟨by rfl, ?_⟩) (by assumption) ?_
                  rotate_left 1
                  · (intro w hSw; (try dsimp only at hSw); go_simp; try with_reducible rfl)
                  try simp only [Act.put, List.setIfInBounds_toArray, List.set_cons_zero, List.set_cons_succ]
                  refine wpAnyN_take (i := 2) (oi := ⟨some 51, _, _, _, _, _⟩) (v := ?_) rfl (by kernel_rfl) (by kernel_rfl) (by kernel_rfl) (by kernel_rfl) (by kernel_rfl) (fun _ _ _ h => h) (Or.inl ⟨by rfl, ?_⟩) (by assumption) ?_
                  rotate_left 1
                  · (intro w hSw; (try dsimp only at hSw); go_simp; try with_reducible rfl)
                  try simp only [Act.put, List.setIfInBounds_toArray, List.set_cons_zero, List.set_cons_succ]
                  refine wpAnyN_take (i := 3) (oi := ⟨some 52, _, _, _, _, _⟩) (v := ?_) rfl (by kernel_rfl) (by kernel_rfl) (by kernel_rfl) (by kernel_rfl) (by kernel_rfl) (fun _ _ _ h => h) (Or.inl ⟨by rfl, ?_⟩) (by assumption) ?_
                  rotate_left 1
                  · (intro w hSw; (try dsimp only at hSw); go_simp; try with_reducible rfl)
                  try simp only [Act.put, List.setIfInBounds_toArray, List.set_cons_zero, List.set_cons_succ]
                  refine wpAnyN_one (i := 4) (o := ⟨some 53, _, _, _, _, _⟩) (by kernel_rfl) rfl (fun K hK => ?_)
                  go_simp
                  refine (rkind_any x _ HXW.out).mono ?_
                  rintro e w2 ⟨rfl, hbb⟩
                  rw [HKX.out]
                  have hR := hR.below hbb (Nat.le_refl _)
                  have hs := hs.below hbb (Nat.le_refl _)
                  have hB := hB.trans (hbb.mono hB.size)
                  have d0 : w2.cell? ⟨ba, oa + k, none⟩ = some (.float .f64 x) := by rw [(bcell hbb).1 _ _ hba]; exact cx
                  have d1 : w2.cell? ⟨ba, oa, none⟩ = some (.float .f64 x0) := by rw [(bcell hbb).1 _ _ hba]; exact cx0
                  clear hbb
                  refine hK.out _ _ (by exact ⟨d0, d1⟩) ?_
                  clear hK K hHeld
                  intro hHeld
                  try simp only [Act.put, List.setIfInBounds_toArray, List.set_cons_zero, List.set_cons_succ]
                  refine wpAnyN_take (i := 5) (oi := ⟨some 54, _, _, _, _, _⟩) (v := ?_) rfl (by kernel_rfl) (by kernel_rfl) (by kernel_rfl) (by kernel_rfl) (by kernel_rfl) (fun _ _ _ h => h) (Or.inl ⟨by rfl, ?_⟩) (by assumption) ?_
                  rotate_left 1
                  · (intro w hSw; (try dsimp only at hSw); go_simp; try with_reducible rfl)
                  try simp only [Act.put, List.setIfInBounds_toArray, List.set_cons_zero, List.set_cons_succ]
                  refine wpAnyN_take (i := 6) (oi := ⟨some 55, _, _, _, _, _⟩) (v := ?_) rfl (by kernel_rfl) (by kernel_rfl) (by kernel_rfl) (by kernel_rfl) (by kernel_rfl) (fun _ _ _ h => h) (Or.inl ⟨by rfl, ?_⟩) (by assumption) ?_
                  rotate_left 1
                  · (intro w hSw; (try dsimp only at hSw); go_simp; try with_reducible rfl)
                  try simp only [Act.put, List.setIfInBounds_toArray, List.set_cons_zero, List.set_cons_succ]
                  refine wpAnyN_take (i := 7) (oi := ⟨some 56, _, _, _, _, _⟩) (v := ?_) rfl (by kernel_rfl) (by kernel_rfl) (by kernel_rfl) (by kernel_rfl) (by kernel_rfl) (fun _ _ _ h => h) (Or.inl ⟨by rfl, ?_⟩) (by assumption) ?_
                  rotate_left 1
                  · (intro w hSw; (try dsimp only at hSw); go_simp; try with_reducible rfl)
                  try simp only [Act.put, List.setIfInBounds_toArray, List.set_cons_zero, List.set_cons_succ]
                  refine wpAnyN_take (i := 8) (oi := ⟨some 57, _, _, _, _, _⟩) (v := ?_) rfl (by kernel_rfl) (by kernel_rfl) (by kernel_rfl) (by kernel_rfl) (by kernel_rfl) (fun _ _ _ h => h) (Or.inl ⟨by rfl, ?_⟩) (by assumption) ?_
                  rotate_left 1
                  · (intro w hSw; (try dsimp only at hSw); go_simp; try with_reducible rfl)
                  try simp only [Act.put, List.setIfInBounds_toArray, List.set_cons_zero, List.set_cons_succ]
                  refine wpAnyN_take (i := 9) (oi := ⟨some 58, _, _, _, _, _⟩) (v := ?_) rfl (by kernel_rfl) (by kernel_rfl) (by kernel_rfl) (by kernel_rfl) (by kernel_rfl) (fun _ _ _ h => h) (Or.inl ⟨by rfl, ?_⟩) (by assumption) ?_
                  rotate_left 1
                  · (intro w hSw; (try dsimp only at hSw); go_simp; try with_reducible rfl)
                  try simp only [Act.put, List.setIfInBounds_toArray, List.set_cons_zero, List.set_cons_succ]
                  refine wpAnyN_take (i := 10) (oi := ⟨some 59, _, _, _, _, _⟩) (v := ?_) rfl (by kernel_rfl) (by kernel_rfl) (by kernel_rfl) (by kernel_rfl) (by kernel_rfl) (fun _ _ _ h => h) (Or.inl ⟨by rfl, ?_⟩) (by assumption) ?_
                  rotate_left 1
                  · (intro w hSw; (try dsimp only at hSw); go_simp; try with_reducible rfl)
                  try simp only [Act.put, List.setIfInBounds_toArray, List.set_cons_zero, List.set_cons_succ]
                  refine wpAnyN_take (i := 11) (oi := ⟨some 60, _, _, _, _, _⟩) (v := ?_) rfl (by kernel_rfl) (by kernel_rfl) (by kernel_rfl) (by kernel_rfl) (by kernel_rfl) (fun _ _ _ h => h) (Or.inl ⟨by rfl, ?_⟩) (by assumption) ?_
                  rotate_left 1
                  · (intro w hSw; (try dsimp only at hSw); go_simp; try with_reducible rfl)
                  try simp only [Act.put, List.setIfInBounds_toArray, List.set_cons_zero, List.set_cons_succ]
                  refine wpAnyN_take (i := 12) (oi := ⟨some 61, _, _, _, _, _⟩) (v := ?_) rfl (by kernel_rfl) (by kernel_rfl) (by kernel_rfl) (by kernel_rfl) (by kernel_rfl) (fun _ _ _ h => h) (Or.inl ⟨by rfl, ?_⟩) (by assumption) ?_
                  rotate_left 1
                  · (intro w hSw; (try dsimp only at hSw); go_simp; try with_reducible rfl)
                  try simp only [Act.put, List.setIfInBounds_toArray, List.set_cons_zero, List.set_cons_succ]
                  refine wpAnyN_take (i := 13) (oi := ⟨some 62, _, _, _, _, _⟩) (v := ?_) rfl (by kernel_rfl) (by kernel_rfl) (by kernel_rfl) (by kernel_rfl) (by kernel_rfl) (fun _ _ _ h => h) (Or.inl ⟨by rfl, ?_⟩) (by assumption) ?_
                  rotate_left 1
                  · (intro w hSw; (try dsimp only at hSw); go_simp; try with_reducible rfl)
                  try simp only [Act.put, List.setIfInBounds_toArray, List.set_cons_zero, List.set_cons_succ]
                  refine wpAnyN_take (i := 14) (oi := ⟨some 63, _, _, _, _, _⟩) (v := ?_) rfl (by kernel_rfl) (by kernel_rfl) (by kernel_rfl) (by kernel_rfl) (by kernel_rfl) (fun _ _ _ h => h) (Or.inl ⟨by rfl, ?_⟩) (by assumption) ?_
                  rotate_left 1
                  · (intro w hSw; (try dsimp only at hSw); go_simp; try with_reducible rfl)
                  try simp only [Act.put, List.setIfInBounds_toArray, List.set_cons_zero, List.set_cons_succ]
                  refine wpAnyN_take (i := 15) (oi := ⟨some 64, _, _, _, _, _⟩) (v := ?_) rfl (by kernel_rfl) (by kernel_rfl) (by kernel_rfl) (by kernel_rfl) (by kernel_rfl) (fun _ _ _ h => h) (Or.inl ⟨by rfl, ?_⟩) (by assumption) ?_
                  rotate_left 1
                  · (intro w hSw; (try dsimp only at hSw); go_simp; try with_reducible rfl)
                  try simp only [Act.put, List.setIfInBounds_toArray, List.set_cons_zero, List.set_cons_succ]
                  refine wpAnyN_end (by kernel_rfl) ?_
                  go_wp2_with fail
                  refine (awake_ex _).mono ?_; rintro e w6 ⟨rfl, hb6⟩
                  have HB6 := Lib.hid (hB.trans (hb6.mono hB.size))
                  clear hb6
                  go_wp2_with fail
                  go_ret
                  exact ⟨rfl, HB6.out⟩
              · exfalso
                by_cases hkz : k = 0
                · subst hkz
                  rw [HE0.out] at HX
                  rw [HX.out] at hk0
                  exact hk0 hkd2
                · exact hk0 (HALL.out 0 (by omega)).2
            · have hk1b : (kd != 1) = true := by simpa using hk1
              have hB := hB.drew
              have hs := hs.below (Below.refl _ _).drew (Nat.le_refl _)
              have hR := hR.below (Below.refl _ _).drew (Nat.le_refl _)
              clear hkd2 hk1
              go_wp2_with fail
              refine wp_regionN (fun w' => w'.cell? ⟨ba, oa + k, none⟩ = some (.float .f64 x) ∧ w'.cell? ⟨ba, oa, none⟩ = some (.float .f64 x0)) [] (by kernel_rfl) (by exact ⟨cx, cx0⟩) (fun hHeld => ?_)
              refine wpAnyN_take (i := 0) (oi := ⟨some 49, _, _, _, _, _⟩) (v := ?_) rfl (by kernel_rfl) (by kernel_rfl) (by kernel_rfl) (by kernel_rfl) (by kernel_rfl) (fun _ _ _ h => h) (Or.inl ⟨by rfl, ?_⟩) (by assumption) ?_
              rotate_left 1
              · (intro w hSw; (try dsimp only at hSw); go_simp; try with_reducible rfl)
              try simp only [Act.put, List.setIfInBounds_toArray, List.set_cons_zero, List.set_cons_succ]
              refine wpAnyN_take (i := 1) (oi := ⟨some 50, _, _, _, _, _⟩) (v := ?_) rfl (by kernel_rfl) (by kernel_rfl) (by kernel_rfl) (by kernel_rfl) (by kernel_rfl) (fun _ _ _ h => h) (Or.inl ⟨by rfl, ?_⟩) (by assumption) ?_
              rotate_left 1
              · (intro w hSw; (try dsimp only at hSw); go_simp; try with_reducible rfl)
              try simp only [Act.put, List.setIfInBounds_toArray, List.set_cons_zero, List.set_cons_succ]
              refine wpAnyN_take (i := 2) (oi := ⟨some 51, _, _, _, _, _⟩) (v := ?_) rfl (by kernel_rfl) (by kernel_rfl) (by kernel_rfl) (by kernel_rfl) (by kernel_rfl) (fun _ _ _ h => h) (Or.inl ⟨by rfl, ?_⟩) (by assumption) ?_
              rotate_left 1
              · (intro w hSw; (try dsimp only at hSw); go_simp; try with_reducible rfl)
              try simp only [Act.put, List.setIfInBounds_toArray, List.set_cons_zero, List.set_cons_succ]
              refine wpAnyN_take (i := 3) (oi := ⟨some 52, _, _, _, _, _⟩) (v := ?_) rfl (by kernel_rfl) (by kernel_rfl) (by kernel_rfl) (by kernel_rfl) (by kernel_rfl) (fun _ _ _ h => h) (Or.inl ⟨by rfl, ?_⟩) (by assumption) ?_
              rotate_left 1
              · (intro w hSw; (try dsimp only at hSw); go_simp; try with_reducible rfl)
              try simp only [Act.put, List.setIfInBounds_toArray, List.set_cons_zero, List.set_cons_succ]
              refine wpAnyN_one (i := 4) (o := ⟨some 53, _, _, _, _, _⟩) (by kernel_rfl) rfl (fun K hK => ?_)
              go_simp
              refine (rkind_any x _ HXW.out).mono ?_
              rintro e w2 ⟨rfl, hbb⟩
              rw [HKX.out]
              have hR := hR.below hbb (Nat.le_refl _)
              have hs := hs.below hbb (Nat.le_refl _)
              have hB := hB.trans (hbb.mono hB.size)
              have d0 : w2.cell? ⟨ba, oa + k, none⟩ = some (.float .f64 x) := by rw [(bcell hbb).1 _ _ hba]; exact cx
              have d1 : w2.cell? ⟨ba, oa, none⟩ = some (.float .f64 x0) := by rw [(bcell hbb).1 _ _ hba]; exact cx0
              clear hbb
              refine hK.out _ _ (by exact ⟨d0, d1⟩) ?_
              clear hK K hHeld
              intro hHeld
              try simp only [Act.put, List.setIfInBounds_toArray, List.set_cons_zero, List.set_cons_succ]
              refine wpAnyN_take (i := 5) (oi := ⟨some 54, _, _, _, _, _⟩) (v := ?_) rfl (by kernel_rfl) (by kernel_rfl) (by kernel_rfl) (by kernel_rfl) (by kernel_rfl) (fun _ _ _ h => h) (Or.inl ⟨by rfl, ?_⟩) (by assumption) ?_
              rotate_left 1
              · (intro w hSw; (try dsimp only at hSw); go_simp; try with_reducible rfl)
              try simp only [Act.put, List.setIfInBounds_toArray, List.set_cons_zero, List.set_cons_succ]
              refine wpAnyN_take (i := 6) (oi := ⟨some 55, _, _, _, _, _⟩) (v := ?_) rfl (by kernel_rfl) (by kernel_rfl) (by kernel_rfl) (by kernel_rfl) (by kernel_rfl) (fun _ _ _ h => h) (Or.inl ⟨by rfl, ?_⟩) (by assumption) ?_
              rotate_left 1
              · (intro w hSw; (try dsimp only at hSw); go_simp; try with_reducible rfl)
              try simp only [Act.put, List.setIfInBounds_toArray, List.set_cons_zero, List.set_cons_succ]
              refine wpAnyN_take (i := 7) (oi := ⟨some 56, _, _, _, _, _⟩) (v := undef) rfl (by kernel_rfl) (by kernel_rfl) (by kernel_rfl) (by kernel_rfl) (by kernel_rfl) (fun _ _ _ h => h) (Or.inr ⟨by rfl, rfl⟩) (by assumption) ?_
              try simp only [Act.put, List.setIfInBounds_toArray, List.set_cons_zero, List.set_cons_succ]
              refine wpAnyN_take (i := 8) (oi := ⟨some 57, _, _, _, _, _⟩) (v := undef) rfl (by kernel_rfl) (by kernel_rfl) (by kernel_rfl) (by kernel_rfl) (by kernel_rfl) (fun _ _ _ h => h) (Or.inr ⟨by rfl, rfl⟩) (by assumption) ?_
              try simp only [Act.put, List.setIfInBounds_toArray, List.set_cons_zero, List.set_cons_succ]
              refine wpAnyN_take (i := 9) (oi := ⟨some 58, _, _, _, _, _⟩) (v := undef) rfl (by kernel_rfl) (by kernel_rfl) (by kernel_rfl) (by kernel_rfl) (by kernel_rfl) (fun _ _ _ h => h) (Or.inr ⟨by rfl, rfl⟩) (by assumption) ?_
              try simp only [Act.put, List.setIfInBounds_toArray, List.set_cons_zero, List.set_cons_succ]
              refine wpAnyN_take (i := 10) (oi := ⟨some 59, _, _, _, _, _⟩) (v := undef) rfl (by kernel_rfl) (by kernel_rfl) (by kernel_rfl) (by kernel_rfl) (by kernel_rfl) (fun _ _ _ h => h) (Or.inr ⟨by rfl, rfl⟩) (by assumption) ?_
              try simp only [Act.put, List.setIfInBounds_toArray, List.set_cons_zero, List.set_cons_succ]
              refine wpAnyN_take (i := 11) (oi := ⟨some 60, _, _, _, _, _⟩) (v := undef) rfl (by kernel_rfl) (by kernel_rfl) (by kernel_rfl) (by kernel_rfl) (by kernel_rfl) (fun _ _ _ h => h) (Or.inr ⟨by rfl, rfl⟩) (by assumption) ?_
              try simp only [Act.put, List.setIfInBounds_toArray, List.set_cons_zero, List.set_cons_succ]
              refine wpAnyN_take (i := 12) (oi := ⟨some 61, _, _, _, _, _⟩) (v := undef) rfl (by kernel_rfl) (by kernel_rfl) (by kernel_rfl) (by kernel_rfl) (by kernel_rfl) (fun _ _ _ h => h) (Or.inr ⟨by rfl, rfl⟩) (by assumption) ?_
              try simp only [Act.put, List.setIfInBounds_toArray, List.set_cons_zero, List.set_cons_succ]
              refine wpAnyN_take (i := 13) (oi := ⟨some 62, _, _, _, _, _⟩) (v := undef) rfl (by kernel_rfl) (by kernel_rfl) (by kernel_rfl) (by kernel_rfl) (by kernel_rfl) (fun _ _ _ h => h) (Or.inr ⟨by rfl, rfl⟩) (by assumption) ?_
              try simp only [Act.put, List.setIfInBounds_toArray, List.set_cons_zero, List.set_cons_succ]
              refine wpAnyN_take (i := 14) (oi := ⟨some 63, _, _, _, _, _⟩) (v := undef) rfl (by kernel_rfl) (by kernel_rfl) (by kernel_rfl) (by kernel_rfl) (by kernel_rfl) (fun _ _ _ h => h) (Or.inr ⟨by rfl, rfl⟩) (by assumption) ?_
              try simp only [Act.put, List.setIfInBounds_toArray, List.set_cons_zero, List.set_cons_succ]
              refine wpAnyN_take (i := 15) (oi := ⟨some 64, _, _, _, _, _⟩) (v := ?_) rfl (by kernel_rfl) (by kernel_rfl) (by kernel_rfl) (by kernel_rfl) (by kernel_rfl) (fun _ _ _ h => h) (Or.inl ⟨by rfl, ?_⟩) (by assumption) ?_
              rotate_left 1
              · (intro w hSw; (try dsimp only at hSw); go_simp; try with_reducible rfl)
              try simp only [Act.put, List.setIfInBounds_toArray, List.set_cons_zero, List.set_cons_succ]
              refine wpAnyN_end (by kernel_rfl) ?_
              go_wp2_with fail
              refine (awake_ex _).mono ?_; rintro e w6 ⟨rfl, hb6⟩
              have HB6 := Lib.hid (hB.trans (hb6.mono hB.size))
              clear hb6
              go_wp2_with fail
              go_ret
              exact ⟨rfl, HB6.out⟩
          · have hkn : k = n := by omega
            have hkd : decide (k < n) = false := by simpa using hlt
            have hB := hB.drew
            have hs := hs.below (Below.refl _ _).drew (Nat.le_refl _)
            have hR := hR.below (Below.refl _ _).drew (Nat.le_refl _)
            subst hkn
            by_cases hn0 : k = 0
            · have hz : ((k : Int) == 0) = true := by rw [hn0]; rfl
              clear hlt hk hn0
              go_wp2_with fail
              refine wp_regionN (fun _ => True) [] (by kernel_rfl) (by trivial) (fun hHeld => ?_)
              refine wpAnyN_take (i := 0) (oi := ⟨some 66, _, _, _, _, _⟩) (v := ?_) rfl (by kernel_rfl) (by kernel_rfl) (by kernel_rfl) (by kernel_rfl) (by kernel_rfl) (fun _ _ _ h => h) (Or.inl ⟨by rfl, ?_⟩) (by assumption) ?_
              rotate_left 1
              · (intro w hSw; (try dsimp only at hSw); go_simp; try with_reducible rfl)
              try simp only [Act.put, List.setIfInBounds_toArray, List.set_cons_zero, List.set_cons_succ]
              refine wpAnyN_take (i := 1) (oi := ⟨some 67, _, _, _, _, _⟩) (v := ?_) rfl (by kernel_rfl) (by kernel_rfl) (by kernel_rfl) (by kernel_rfl) (by kernel_rfl) (fun _ _ _ h => h) (Or.inl ⟨by rfl, ?_⟩) (by assumption) ?_
              rotate_left 1
              · (intro w hSw; (try dsimp only at hSw); go_simp; try with_reducible rfl)
              try simp only [Act.put, List.setIfInBounds_toArray, List.set_cons_zero, List.set_cons_succ]
              refine wpAnyN_take (i := 2) (oi := ⟨some 68, _, _, _, _, _⟩) (v := ?_) rfl (by kernel_rfl) (by kernel_rfl) (by kernel_rfl) (by kernel_rfl) (by kernel_rfl) (fun _ _ _ h => h) (Or.inl ⟨by rfl, ?_⟩) (by assumption) ?_
              rotate_left 1
              · (intro w hSw; (try dsimp only at hSw); go_simp; try with_reducible rfl)
              try simp only [Act.put, List.setIfInBounds_toArray, List.set_cons_zero, List.set_cons_succ]
              refine wpAnyN_take (i := 3) (oi := ⟨some 69, _, _, _, _, _⟩) (v := ?_) rfl (by kernel_rfl) (by kernel_rfl) (by kernel_rfl) (by kernel_rfl) (by kernel_rfl) (fun _ _ _ h => h) (Or.inl ⟨by rfl, ?_⟩) (by assumption) ?_
              rotate_left 1
              · (intro w hSw; (try dsimp only at hSw); go_simp; try with_reducible rfl)
              try simp only [Act.put, List.setIfInBounds_toArray, List.set_cons_zero, List.set_cons_succ]
              refine wpAnyN_take (i := 4) (oi := ⟨some 70, _, _, _, _, _⟩) (v := undef) rfl (by kernel_rfl) (by kernel_rfl) (by kernel_rfl) (by kernel_rfl) (by kernel_rfl) (fun _ _ _ h => h) (Or.inr ⟨by rfl, rfl⟩) (by assumption) ?_
              try simp only [Act.put, List.setIfInBounds_toArray, List.set_cons_zero, List.set_cons_succ]
              refine wpAnyN_take (i := 5) (oi := ⟨some 71, _, _, _, _, _⟩) (v := undef) rfl (by kernel_rfl) (by kernel_rfl) (by kernel_rfl) (by kernel_rfl) (by kernel_rfl) (fun _ _ _ h => h) (Or.inr ⟨by rfl, rfl⟩) (by assumption) ?_
              try simp only [Act.put, List.setIfInBounds_toArray, List.set_cons_zero, List.set_cons_succ]
              refine wpAnyN_take (i := 6) (oi := ⟨some 72, _, _, _, _, _⟩) (v := undef) rfl (by kernel_rfl) (by kernel_rfl) (by kernel_rfl) (by kernel_rfl) (by kernel_rfl) (fun _ _ _ h => h) (Or.inr ⟨by rfl, rfl⟩) (by assumption) ?_
              try simp only [Act.put, List.setIfInBounds_toArray, List.set_cons_zero, List.set_cons_succ]
              refine wpAnyN_take (i := 7) (oi := ⟨some 73, _, _, _, _, _⟩) (v := undef) rfl (by kernel_rfl) (by kernel_rfl) (by kernel_rfl) (by kernel_rfl) (by kernel_rfl) (fun _ _ _ h => h) (Or.inr ⟨by rfl, rfl⟩) (by assumption) ?_
              try simp only [Act.put, List.setIfInBounds_toArray, List.set_cons_zero, List.set_cons_succ]
              refine wpAnyN_take (i := 8) (oi := ⟨some 74, _, _, _, _, _⟩) (v := undef) rfl (by kernel_rfl) (by kernel_rfl) (by kernel_rfl) (by kernel_rfl) (by kernel_rfl) (fun _ _ _ h => h) (Or.inr ⟨by rfl, rfl⟩) (by assumption) ?_
              try simp only [Act.put, List.setIfInBounds_toArray, List.set_cons_zero, List.set_cons_succ]
              refine wpAnyN_take (i := 9) (oi := ⟨some 75, _, _, _, _, _⟩) (v := undef) rfl (by kernel_rfl) (by kernel_rfl) (by kernel_rfl) (by kernel_rfl) (by kernel_rfl) (fun _ _ _ h => h) (Or.inr ⟨by rfl, rfl⟩) (by assumption) ?_
              try simp only [Act.put, List.setIfInBounds_toArray, List.set_cons_zero, List.set_cons_succ]
              refine wpAnyN_take (i := 10) (oi := ⟨some 76, _, _, _, _, _⟩) (v := undef) rfl (by kernel_rfl) (by kernel_rfl) (by kernel_rfl) (by kernel_rfl) (by kernel_rfl) (fun _ _ _ h => h) (Or.inr ⟨by rfl, rfl⟩) (by assumption) ?_
              try simp only [Act.put, List.setIfInBounds_toArray, List.set_cons_zero, List.set_cons_succ]
              refine wpAnyN_take (i := 11) (oi := ⟨some 77, _, _, _, _, _⟩) (v := undef) rfl (by kernel_rfl) (by kernel_rfl) (by kernel_rfl) (by kernel_rfl) (by kernel_rfl) (fun _ _ _ h => h) (Or.inr ⟨by rfl, rfl⟩) (by assumption) ?_
              try simp only [Act.put, List.setIfInBounds_toArray, List.set_cons_zero, List.set_cons_succ]
              refine wpAnyN_take (i := 12) (oi := ⟨some 78, _, _, _, _, _⟩) (v := ?_) rfl (by kernel_rfl) (by kernel_rfl) (by kernel_rfl) (by kernel_rfl) (by kernel_rfl) (fun _ _ _ h => h) (Or.inl ⟨by rfl, ?_⟩) (by assumption) ?_
              rotate_left 1
              · (intro w hSw; (try dsimp only at hSw); go_simp; try with_reducible rfl)
              try simp only [Act.put, List.setIfInBounds_toArray, List.set_cons_zero, List.set_cons_succ]
              refine wpAnyN_take (i := 13) (oi := ⟨some 79, _, _, _, _, _⟩) (v := ?_) rfl (by kernel_rfl) (by kernel_rfl) (by kernel_rfl) (by kernel_rfl) (by kernel_rfl) (fun _ _ _ h => h) (Or.inl ⟨by rfl, ?_⟩) (by assumption) ?_
              rotate_left 1
              · (intro w hSw; (try dsimp only at hSw); go_simp; try with_reducible rfl)
              try simp only [Act.put, List.setIfInBounds_toArray, List.set_cons_zero, List.set_cons_succ]
              refine wpAnyN_one (i := 14) (o := ⟨some 80, _, _, _, _, _⟩) (by kernel_rfl) rfl (fun K hK => ?_)
              go_simp
              refine (awake_ex _).mono ?_
              rintro e w5 ⟨rfl, hbb⟩
              have hB := hB.trans (hbb.mono hB.size)
              clear hbb
              refine hK.out _ _ (by trivial) ?_
              clear hK K hHeld
              intro hHeld
              try simp only [Act.put, List.setIfInBounds_toArray, List.set_cons_zero, List.set_cons_succ]
              refine wpAnyN_take (i := 15) (oi := ⟨some 81, _, _, _, _, _⟩) (v := ?_) rfl (by kernel_rfl) (by kernel_rfl) (by kernel_rfl) (by kernel_rfl) (by kernel_rfl) (fun _ _ _ h => h) (Or.inl ⟨by rfl, ?_⟩) (by assumption) ?_
              rotate_left 1
              · (intro w hSw; (try dsimp only at hSw); go_simp; try with_reducible rfl)
              try simp only [Act.put, List.setIfInBounds_toArray, List.set_cons_zero, List.set_cons_succ]
              refine wpAnyN_take (i := 16) (oi := ⟨some 4, _, _, _, _, _⟩) (v := ?_) rfl (by kernel_rfl) (by kernel_rfl) (by kernel_rfl) (by kernel_rfl) (by kernel_rfl) (fun _ _ _ h => h) (Or.inl ⟨by rfl, ?_⟩) (by assumption) ?_
              rotate_left 1
              · (intro w hSw; (try dsimp only at hSw); go_simp; try with_reducible rfl)
              try simp only [Act.put, List.setIfInBounds_toArray, List.set_cons_zero, List.set_cons_succ]
              refine wpAnyN_end (by kernel_rfl) ?_
              go_wp2_with fail
              go_ret
              exact ⟨rfl, hB⟩
            · have hz : ((k : Int) == 0) = false := by simpa using hn0
              have HX0 : Hid (x0 < 18446744073709551616) := Lib.hid (by
                rw [← HE0.out]
                exact HW.out _ (by have : 0 < zs.length := by have := HLEN.out; omega
                                   simp [this]))
              have HME : Hid (∀ v, IsMeanS (foldS zs).1 (foldS zs).2 (k : Int) v → x0 = v) := Lib.hid (fun v hv => by
                have e := HLEN.out
                refine mean_same (zs := zs) (by have := HL.out; omega) (by omega) HX0.out (HALL.out 0 (by omega)).2 (fun j hj => (HALL.out j (by omega)).1) ?_
                rw [e]; exact hv)
              obtain ⟨ba, oa, rfl, hba, cx0⟩ := hR.lt (i := 0) (by omega)
              rw [Nat.add_zero, HE0.out] at cx0
              have hn0 : 0 < k := by omega
              clear hlt hk
              go_wp2_with fail
              refine wp_regionN (fun w' => w'.cell? ⟨ba, oa, none⟩ = some (.float .f64 x0)) [] (by kernel_rfl) (by exact cx0) (fun hHeld => ?_)
              refine wpAnyN_take (i := 0) (oi := ⟨some 66, _, _, _, _, _⟩) (v := ?_) rfl (by kernel_rfl) (by kernel_rfl) (by kernel_rfl) (by kernel_rfl) (by kernel_rfl) (fun _ _ _ h => h) (Or.inl ⟨by rfl, ?_⟩) (by assumption) ?_
              rotate_left 1
              · (intro w hSw; (try dsimp only at hSw); go_simp; try with_reducible rfl)
              try simp only [Act.put, List.setIfInBounds_toArray, List.set_cons_zero, List.set_cons_succ]
              refine wpAnyN_take (i := 1) (oi := ⟨some 67, _, _, _, _, _⟩) (v := ?_) rfl (by kernel_rfl) (by kernel_rfl) (by kernel_rfl) (by kernel_rfl) (by kernel_rfl) (fun _ _ _ h => h) (Or.inl ⟨by rfl, ?_⟩) (by assumption) ?_
              rotate_left 1
              · (intro w hSw; (try dsimp only at hSw); go_simp; try with_reducible rfl)
              try simp only [Act.put, List.setIfInBounds_toArray, List.set_cons_zero, List.set_cons_succ]
              refine wpAnyN_take (i := 2) (oi := ⟨some 68, _, _, _, _, _⟩) (v := ?_) rfl (by kernel_rfl) (by kernel_rfl) (by kernel_rfl) (by kernel_rfl) (by kernel_rfl) (fun _ _ _ h => h) (Or.inl ⟨by rfl, ?_⟩) (by assumption) ?_
              rotate_left 1
              · (intro w hSw; (try dsimp only at hSw); go_simp; try with_reducible rfl)
              try simp only [Act.put, List.setIfInBounds_toArray, List.set_cons_zero, List.set_cons_succ]
              refine wpAnyN_take (i := 3) (oi := ⟨some 69, _, _, _, _, _⟩) (v := ?_) rfl (by kernel_rfl) (by kernel_rfl) (by kernel_rfl) (by kernel_rfl) (by kernel_rfl) (fun _ _ _ h => h) (Or.inl ⟨by rfl, ?_⟩) (by assumption) ?_
              rotate_left 1
              · (intro w hSw; (try dsimp only at hSw); go_simp; try with_reducible rfl)
              try simp only [Act.put, List.setIfInBounds_toArray, List.set_cons_zero, List.set_cons_succ]
              refine wpAnyN_take (i := 4) (oi := ⟨some 70, _, _, _, _, _⟩) (v := ?_) rfl (by kernel_rfl) (by kernel_rfl) (by kernel_rfl) (by kernel_rfl) (by kernel_rfl) (fun _ _ _ h => h) (Or.inl ⟨by rfl, ?_⟩) (by assumption) ?_
              rotate_left 1
              · (intro w hSw; (try dsimp only at hSw); go_simp; try with_reducible rfl)
              try simp only [Act.put, List.setIfInBounds_toArray, List.set_cons_zero, List.set_cons_succ]
              refine wpAnyN_take (i := 5) (oi := ⟨some 71, _, _, _, _, _⟩) (v := ?_) rfl (by kernel_rfl) (by kernel_rfl) (by kernel_rfl) (by kernel_rfl) (by kernel_rfl) (fun _ _ _ h => h) (Or.inl ⟨by rfl, ?_⟩) (by assumption) ?_
              rotate_left 1
              · (intro w hSw; (try dsimp only at hSw); go_simp; try with_reducible rfl)
              try simp only [Act.put, List.setIfInBounds_toArray, List.set_cons_zero, List.set_cons_succ]
              refine wpAnyN_take (i := 6) (oi := ⟨some 72, _, _, _, _, _⟩) (v := ?_) rfl (by kernel_rfl) (by kernel_rfl) (by kernel_rfl) (by kernel_rfl) (by kernel_rfl) (fun _ _ _ h => h) (Or.inl ⟨by rfl, ?_⟩) (by assumption) ?_
              rotate_left 1
              · (intro w hSw; (try dsimp only at hSw); go_simp; try with_reducible rfl)
              try simp only [Act.put, List.setIfInBounds_toArray, List.set_cons_zero, List.set_cons_succ]
              refine wpAnyN_take (i := 8) (oi := ⟨some 74, _, _, _, _, _⟩) (v := ?_) rfl (by kernel_rfl) (by kernel_rfl) (by kernel_rfl) (by kernel_rfl) (by kernel_rfl) (fun _ _ _ h => h) (Or.inl ⟨by rfl, ?_⟩) (by assumption) ?_
              rotate_left 1
              · (intro w hSw; (try dsimp only at hSw); go_simp; try with_reducible rfl)
              try simp only [Act.put, List.setIfInBounds_toArray, List.set_cons_zero, List.set_cons_succ]
              refine wpAnyN_take (i := 9) (oi := ⟨some 75, _, _, _, _, _⟩) (v := ?_) rfl (by kernel_rfl) (by kernel_rfl) (by kernel_rfl) (by kernel_rfl) (by kernel_rfl) (fun _ _ _ h => h) (Or.inl ⟨by rfl, ?_⟩) (by assumption) ?_
              rotate_left 1
              · (intro w hSw; (try dsimp only at hSw); go_simp; try with_reducible rfl)
              try simp only [Act.put, List.setIfInBounds_toArray, List.set_cons_zero, List.set_cons_succ]
              refine wpAnyN_take (i := 10) (oi := ⟨some 76, _, _, _, _, _⟩) (v := ?_) rfl (by kernel_rfl) (by kernel_rfl) (by kernel_rfl) (by kernel_rfl) (by kernel_rfl) (fun _ _ _ h => h) (Or.inl ⟨by rfl, ?_⟩) (by assumption) ?_
              rotate_left 1
              · (intro w hSw; (try dsimp only at hSw); go_simp; try with_reducible rfl)
              try simp only [Act.put, List.setIfInBounds_toArray, List.set_cons_zero, List.set_cons_succ]
              refine wpAnyN_one (i := 7) (o := ⟨some 73, _, _, _, _, _⟩) (by kernel_rfl) rfl (fun K hK => ?_)
              go_simp
              refine (summean_any _ g _ _ (k : Int) hs HO.out.2 HO.out.1 (by omega) (by omega)).mono ?_
              rintro e w2 ⟨v, rfl, hv, hbb⟩
              obtain rfl := HME.out v hv
              have hB := hB.trans (hbb.mono hB.size)
              have d0 : w2.cell? ⟨ba, oa, none⟩ = some (.float .f64 x0) := by rw [(bcell hbb).1 _ _ hba]; exact cx0
              have cx0 := d0
              have hba := Nat.lt_of_lt_of_le hba hbb.size
              clear hbb hv
              refine hK.out _ _ (by exact d0) ?_
              clear hK K hHeld
              intro hHeld
              try simp only [Act.put, List.setIfInBounds_toArray, List.set_cons_zero, List.set_cons_succ]
              refine wpAnyN_one (i := 11) (o := ⟨some 77, _, _, _, _, _⟩) (by kernel_rfl) rfl (fun K hK => ?_)
              go_simp
              refine (rsame_key HX0.out HX0.out rfl _).mono ?_
              rintro e w3 ⟨rfl, hbb⟩
              have hB := hB.trans (hbb.mono hB.size)
              clear d0
              have d0 : w3.cell? ⟨ba, oa, none⟩ = some (.float .f64 x0) := by rw [(bcell hbb).1 _ _ hba]; exact cx0
              have cx0 := d0
              have hba := Nat.lt_of_lt_of_le hba hbb.size
              clear hbb
              refine hK.out _ _ (by exact d0) ?_
              clear hK K hHeld
              intro hHeld
              try simp only [Act.put, List.setIfInBounds_toArray, List.set_cons_zero, List.set_cons_succ]
              refine wpAnyN_take (i := 12) (oi := ⟨some 78, _, _, _, _, _⟩) (v := ?_) rfl (by kernel_rfl) (by kernel_rfl) (by kernel_rfl) (by kernel_rfl) (by kernel_rfl) (fun _ _ _ h => h) (Or.inl ⟨by rfl, ?_⟩) (by assumption) ?_
              rotate_left 1
              · (intro w hSw; (try dsimp only at hSw); go_simp; try with_reducible rfl)
              try simp only [Act.put, List.setIfInBounds_toArray, List.set_cons_zero, List.set_cons_succ]
              refine wpAnyN_take (i := 13) (oi := ⟨some 79, _, _, _, _, _⟩) (v := ?_) rfl (by kernel_rfl) (by kernel_rfl) (by kernel_rfl) (by kernel_rfl) (by kernel_rfl) (fun _ _ _ h => h) (Or.inl ⟨by rfl, ?_⟩) (by assumption) ?_
              rotate_left 1
              · (intro w hSw; (try dsimp only at hSw); go_simp; try with_reducible rfl)
              try simp only [Act.put, List.setIfInBounds_toArray, List.set_cons_zero, List.set_cons_succ]
              refine wpAnyN_one (i := 14) (o := ⟨some 80, _, _, _, _, _⟩) (by kernel_rfl) rfl (fun K hK => ?_)
              go_simp
              refine (awake_ex _).mono ?_
              rintro e w5 ⟨rfl, hbb⟩
              have hB := hB.trans (hbb.mono hB.size)
              clear d0
              have d0 : w5.cell? ⟨ba, oa, none⟩ = some (.float .f64 x0) := by rw [(bcell hbb).1 _ _ hba]; exact cx0
              have cx0 := d0
              have hba := Nat.lt_of_lt_of_le hba hbb.size
              clear hbb
              refine hK.out _ _ (by exact d0) ?_
              clear hK K hHeld
              intro hHeld
              try simp only [Act.put, List.setIfInBounds_toArray, List.set_cons_zero, List.set_cons_succ]
              refine wpAnyN_take (i := 15) (oi := ⟨some 81, _, _, _, _, _⟩) (v := ?_) rfl (by kernel_rfl) (by kernel_rfl) (by kernel_rfl) (by kernel_rfl) (by kernel_rfl) (fun _ _ _ h => h) (Or.inl ⟨by rfl, ?_⟩) (by assumption) ?_
              rotate_left 1
              · (intro w hSw; (try dsimp only at hSw); go_simp; try with_reducible rfl)
              try simp only [Act.put, List.setIfInBounds_toArray, List.set_cons_zero, List.set_cons_succ]
              refine wpAnyN_take (i := 16) (oi := ⟨some 4, _, _, _, _, _⟩) (v := ?_) rfl (by kernel_rfl) (by kernel_rfl) (by kernel_rfl) (by kernel_rfl) (by kernel_rfl) (fun _ _ _ h => h) (Or.inl ⟨by rfl, ?_⟩) (by assumption) ?_
              rotate_left 1
              · (intro w hSw; (try dsimp only at hSw); go_simp; try with_reducible rfl)
              try simp only [Act.put, List.setIfInBounds_toArray, List.set_cons_zero, List.set_cons_succ]
              refine wpAnyN_end (by kernel_rfl) ?_
              go_wp2_with fail
              go_ret
              exact ⟨rfl, hB⟩
  · have t1 : decide ((40 : Int) < (n : Int)) = true := by simp; omega
    clear hA hlen hw hmax hl
    go_enter Try.func10, Try.ntmps10
    go_wp2_with fail
    refine (awake_ex _).mono ?_; rintro e w6 ⟨rfl, hb6⟩
    have HB6 := Lib.hid hb6
    clear hb6
    go_wp2_with fail
    go_ret
    exact ⟨rfl, HB6.out⟩
end Go.Proofs.Ytgdddpbdcdheeaa
