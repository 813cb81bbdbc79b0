/- Contract of package bushelref04's Dev. Conditions: squares of at most 8 words. -/
import Derived.Test.YtdbkgpakpadloaaGreatRatJ
import Derived.Test.YtdbkgpakpadloaaGreatMRat2
namespace Go.Proofs.YtdbkgpakpadloaaGreat
open Go.RowKit Ieee

theorem fit_prod {x y : Int} {k l : Nat} (hx : x.natAbs < 2 ^ k) (hy : y.natAbs < 2 ^ l) (h : k + l ≤ 900000) : Fit (x * y) := by
 refine Fit.of_pow2 (k := k + l) ?_ (by omega)
 rw [Int.natAbs_mul, Nat.pow_add]
 exact Nat.mul_lt_mul_of_lt_of_lt hx hy

set_option maxRecDepth 100000 in
set_option maxHeartbeats 40000000 in
theorem rdev_any (n s : Int) (a : Option Addr) (l c S K : Nat) (xs : List Int) (w : World) (ha : RowK .u32 w a l c xs) (hx : Dig 4294967296 xs) (hX : V 4294967296 xs = (S : Int)) (hl : l ≤ 1000) (hS : S < 2 ^ K) (hK : K ≤ 1000)
  (h0 : -9223372036854775808 ≤ s) (h1 : s ≤ 9223372036854775807) (h2 : -9223372036854775808 ≤ n) (h3 : n ≤ 9223372036854775807) :
  Calls Tryz.prog 26 #[.int .i64 n, .int .i64 s, .slice a l c] w (RDev n s S w) := by
 have HNUM := Lib.hid (rnum_any a l c xs w ha hx hl)
 rw [hX] at HNUM
 clear ha hx hX
 by_cases hn : n < 1
 ·have t1 : decide (n < 1) = true := by simpa using hn
  have HN := Lib.hid hn
  clear hn hS
  go_enter Tryz.func26, Tryz.ntmps26
  go_wp2_with fail
  refine HNUM.out.mono ?_; rintro e w1 ⟨n1, a1, l1, c1, rfl, hN1, hb1, -⟩
  go_upto_region 2 with fail
  obtain ⟨hk0, hbw⟩ := one_box w1 74 #[.bool n1, .slice a1 l1 c1]
  have HB1 := Lib.hid (hb1.trans (hbw.mono hb1.size))
  clear hb1 hbw hN1 hk0
  generalize w1.alloc (.cells #[.bool n1, .slice a1 l1 c1] 74) = w2 at *
  go_quiet (fail)
  go_wp2_with fail
  refine (rnone_any _).mono ?_; rintro z w9 ⟨r, rfl, hr1, hr2, hb9⟩
  have HB9 := Lib.hid (HB1.out.trans (((blk_dn (Below.refl w2.heap.size w2) _).trans (hb9.mono (by simp))).mono HB1.out.size))
  have HR1 := Lib.hid hr1
  have HR2 := Lib.hid hr2
  clear hb9 hr1 hr2
  go_wp2_with fail
  go_ret
  exact ⟨_, rfl, ⟨HR1.out, .inl ⟨.inl HN.out, HR2.out⟩⟩, HB9.out⟩
 ·have t1 : decide (n < 1) = false := by simpa using hn
  obtain ⟨N, rfl⟩ : ∃ N : Nat, n = (N : Int) := ⟨n.toNat, by omega⟩
  have hN1 : 1 ≤ N := by omega
  have hN2 : N ≤ 9223372036854775807 := by omega
  obtain ⟨k, hk⟩ : ∃ k : Nat, k = 1000 := ⟨_, rfl⟩
  have HTW : Hid (∀ w, Calls Tryz.prog 58 #[.int .i64 1000] w (RetNum w (2 ^ k))) := Lib.hid (fun w => by
   have h := two_any k w (by omega)
   rw [show (k : Int) = 1000 from by omega] at h
   exact h)
  have HCP := Lib.hid (cmp_small (k := k) hS (by omega))
  have HN1 := Lib.hid hN1
  have HSK := Lib.hid hS
  have hsa : s.natAbs < 2 ^ 64 := by omega
  have hna : ((N : Int)).natAbs < 2 ^ 64 := by omega
  have hSa : ((S : Int)).natAbs < 2 ^ K := hS
  have FN : Hid (Fit (N : Int)) := Lib.hid (Fit.of_pow2 (k := 64) hna (by decide))
  have FS := Lib.hid (fit_nat hS (by omega))
  have Fs : Hid (Fit s) := Lib.hid (Fit.of_pow2 (k := 64) hsa (by decide))
  have FNS := Lib.hid (fit_prod hna hSa (by omega))
  have FSS := Lib.hid (fit_prod hsa hsa (by decide))
  have HON := Lib.hid (fun w => of_any (N : Int) w (by omega) (by omega))
  have HOS := Lib.hid (fun w => of_any s w h0 h1)
  have HDB : Hid (((N : Int) * S - s * s).toNat < 2 ^ (64 + K)) := Lib.hid (by
   have e1 : N * S < 2 ^ (64 + K) := by rw [Nat.pow_add]; exact Nat.mul_lt_mul_of_lt_of_lt hna hS
   have e2 : 0 ≤ s * s := by rw [← sq_abs]; exact Int.natCast_nonneg _
   rw [← Int.natCast_mul]
   omega)
  have HQB : Hid (N * N < 2 ^ (64 + 64)) := Lib.hid (by rw [Nat.pow_add]; exact Nat.mul_lt_mul_of_lt_of_lt hna hna)
  clear hn hS hk h2 hN1 hsa hna hSa
  go_enter Tryz.func26, Tryz.ntmps26
  go_wp2_with fail
  refine HNUM.out.mono ?_; rintro e w1 ⟨n1, a1, l1, c1, rfl, hN1, hb1, -⟩
  go_upto_region 2 with fail
  obtain ⟨hk0, hbw⟩ := one_box w1 74 #[.bool n1, .slice a1 l1 c1]
  have HB1 := Lib.hid (hb1.trans (hbw.mono hb1.size))
  have HS1 := Lib.hid (hN1.below hbw (Nat.le_refl _))
  have HK0 := Lib.hid hk0
  clear hb1 hbw hN1
  generalize w1.alloc (.cells #[.bool n1, .slice a1 l1 c1] 74) = w2 at *
  generalize w1.heap.size = s0 at *
  have x0 : w2.cell? ⟨s0, 0, none⟩ = some (.bool n1) := hk0.cell 0
  have x1 : w2.cell? ⟨s0, 1, none⟩ = some (.slice a1 l1 c1) := hk0.cell 1
  have hs0 : s0 < w2.heap.size := hk0.lt
  clear hk0
  have hbA : Below w2.heap.size w2 w2.drew := (Below.refl _ _).drew
  go_region_held3 (fun w' => w'.cell? ⟨s0, 0, none⟩ = some (.bool n1) ∧ w'.cell? ⟨s0, 1, none⟩ = some (.slice a1 l1 c1)) (go_keep)
   (first
    | (go_at_call 58; refine (HTW.out _).mono ?_; rintro e w8 ⟨m8, b8, l8, d8, rfl, hM8, hb8, -⟩; replace hbA := hbA.trans (hb8.mono (Nat.le_trans (by simp) hbA.size)); clear hb8; (try clear bc8 bf8); obtain ⟨bc8, bf8⟩ := bcell hbA)
    | (go_at_call 57; (with_reducible refine (cmp_at _ _ _ _ _ _ _ _ (S : Int) (2 ^ k) (-1) _ HCP.out (HS1.out.below hbA (Nat.le_refl _)) hM8).mono ?_); rintro e w9 ⟨rfl, hb9⟩; clear hM8 bc8 bf8; replace hbA := hbA.trans (hb9.mono (Nat.le_trans (by simp) hbA.size)); clear hb9; obtain ⟨bc8, bf8⟩ := bcell hbA))
  all_goals
   clear bc8 bf8 x0 x1 hs0
   have HB9 := Lib.hid (HB1.out.trans (hbA.mono HB1.out.size))
   have HS9 := Lib.hid (HS1.out.below hbA (Nat.le_refl _))
   have hk9 := HK0.out.below hbA HK0.out.lt
   clear hbA HB1 HS1 HK0
   go_upto_region 4 with fail
   generalize w9 = wb at *
   have HXb := HS9
   have y0 : wb.cell? ⟨s0, 0, none⟩ = some (.bool n1) := hk9.cell 0
   have y1 : wb.cell? ⟨s0, 1, none⟩ = some (.slice a1 l1 c1) := hk9.cell 1
   have x0 := y0
   have x1 := y1
   have hlt_s : s0 < wb.heap.size := hk9.lt
   have hbA : Below wb.heap.size wb wb.drew := (Below.refl _ _).drew
   clear hk9
   go_cut [8] (fun sB wx => ∃ (t : Nat) (nB : Bool) (pB : Option Addr) (lB cB : Nat), sB = .pointer (some ⟨t, 0, none⟩) ∧ Blk wx t 74 #[.bool nB, .slice pB lB cB] ∧ NumC wx nB pB lB cB ((N : Int) * S - s * s) ∧ Below wb.heap.size wb wx)
   case first =>
    go_region_held3 (fun w' => w'.cell? ⟨s0, 0, none⟩ = some (.bool n1) ∧ w'.cell? ⟨s0, 1, none⟩ = some (.slice a1 l1 c1)) (first | (exact ⟨x0, x1⟩) | go_keep | (refine ⟨?_, ?_⟩ <;> (rw [World.cell?_alloc_lt _ _ _ (by (try simp) <;> omega)]; assumption)) | (refine ⟨?_, ?_⟩ <;> (rw [World.cell?_setCell_other _ _ _ _ (by (try simp) <;> omega), World.cell?_setCell_other _ _ _ _ (by (try simp) <;> omega)]; assumption)))
     (first
   | (go_at_call 60; (with_reducible refine (sub_any _ _ _ _ _ _ _ _ ((N : Int) * (S : Int)) (s * s) _ (by first | assumption | (refine NumC.below ?_ ((Below.refl _ _).alloc (Nat.le_refl _) _) (Nat.le_refl _); assumption)) (by first | assumption | (refine NumC.below ?_ ((Below.refl _ _).alloc (Nat.le_refl _) _) (Nat.le_refl _); assumption)) FNS.out FSS.out).mono ?_); rintro e wN ⟨nhD, phD, lhD, chD, rfl, hD, hb, -⟩; (try (first | replace hON := hON.below hb (Nat.le_refl _) | replace hON := hON.below (((Below.refl _ _).alloc (Nat.le_refl _) _).trans (hb.mono (by simp))) (Nat.le_refl _))); (try (first | replace hS1 := hS1.below hb (Nat.le_refl _) | replace hS1 := hS1.below (((Below.refl _ _).alloc (Nat.le_refl _) _).trans (hb.mono (by simp))) (Nat.le_refl _))); (try (first | replace hS2 := hS2.below hb (Nat.le_refl _) | replace hS2 := hS2.below (((Below.refl _ _).alloc (Nat.le_refl _) _).trans (hb.mono (by simp))) (Nat.le_refl _))); (try (first | replace hM1 := hM1.below hb (Nat.le_refl _) | replace hM1 := hM1.below (((Below.refl _ _).alloc (Nat.le_refl _) _).trans (hb.mono (by simp))) (Nat.le_refl _))); (try (first | replace hM2 := hM2.below hb (Nat.le_refl _) | replace hM2 := hM2.below (((Below.refl _ _).alloc (Nat.le_refl _) _).trans (hb.mono (by simp))) (Nat.le_refl _))); (first | replace hbA := hbA.trans (hb.mono hbA.size) | replace hbA := (hbA.alloc hbA.size _).trans (hb.mono (Nat.le_trans hbA.size (by simp)))); (first | replace HT := HT.below hb HT.lt | have HT := (Blk.new _ 74 #[.bool false, .slice none 0 0]).below hb (by simp) | have HT := (Blk.new _ 74 #[.bool false, .slice none 0 0]).drew.below hb (by simp) | skip); (try clear tt0 tt1 ttf); (try (have tt0 : _ = some (Value.bool false) := HT.cell 0; have tt1 : _ = some (Value.slice none 0 0) := HT.cell 1; have ttf := HT.frozen)); have hsz := hbA.size; clear hb; (try clear x0 x1); have x0 : _ := (bcell hbA).1 _ 0 hlt_s; have x1 : _ := (bcell hbA).1 _ 1 hlt_s; rw [y0] at x0; rw [y1] at x1)
   | (have _t := hON; go_at_call 61; (with_reducible refine (mul_any _ _ _ _ _ _ _ _ (N : Int) (S : Int) _ (by first | assumption | (refine NumC.below ?_ ((Below.refl _ _).alloc (Nat.le_refl _) _) (Nat.le_refl _); assumption)) (HXb.out.below (by first | exact hbA | exact hbA.alloc hbA.size _) (Nat.le_refl _)) FN.out FS.out).mono ?_); rintro e wN ⟨nhM1, phM1, lhM1, chM1, rfl, hM1, hb, -⟩; (try (first | replace hON := hON.below hb (Nat.le_refl _) | replace hON := hON.below (((Below.refl _ _).alloc (Nat.le_refl _) _).trans (hb.mono (by simp))) (Nat.le_refl _))); (try (first | replace hS1 := hS1.below hb (Nat.le_refl _) | replace hS1 := hS1.below (((Below.refl _ _).alloc (Nat.le_refl _) _).trans (hb.mono (by simp))) (Nat.le_refl _))); (try (first | replace hS2 := hS2.below hb (Nat.le_refl _) | replace hS2 := hS2.below (((Below.refl _ _).alloc (Nat.le_refl _) _).trans (hb.mono (by simp))) (Nat.le_refl _))); (try (first | replace hM2 := hM2.below hb (Nat.le_refl _) | replace hM2 := hM2.below (((Below.refl _ _).alloc (Nat.le_refl _) _).trans (hb.mono (by simp))) (Nat.le_refl _))); (first | replace hbA := hbA.trans (hb.mono hbA.size) | replace hbA := (hbA.alloc hbA.size _).trans (hb.mono (Nat.le_trans hbA.size (by simp)))); (first | replace HT := HT.below hb HT.lt | have HT := (Blk.new _ 74 #[.bool false, .slice none 0 0]).below hb (by simp) | have HT := (Blk.new _ 74 #[.bool false, .slice none 0 0]).drew.below hb (by simp) | skip); (try clear tt0 tt1 ttf); (try (have tt0 : _ = some (Value.bool false) := HT.cell 0; have tt1 : _ = some (Value.slice none 0 0) := HT.cell 1; have ttf := HT.frozen)); have hsz := hbA.size; clear hb; (try clear x0 x1); have x0 : _ := (bcell hbA).1 _ 0 hlt_s; have x1 : _ := (bcell hbA).1 _ 1 hlt_s; rw [y0] at x0; rw [y1] at x1)
   | (have _t := hS2; go_at_call 61; (with_reducible refine (mul_any _ _ _ _ _ _ _ _ s s _ (by first | assumption | (refine NumC.below ?_ ((Below.refl _ _).alloc (Nat.le_refl _) _) (Nat.le_refl _); assumption)) (by first | assumption | (refine NumC.below ?_ ((Below.refl _ _).alloc (Nat.le_refl _) _) (Nat.le_refl _); assumption)) Fs.out Fs.out).mono ?_); rintro e wN ⟨nhM2, phM2, lhM2, chM2, rfl, hM2, hb, -⟩; (try (first | replace hON := hON.below hb (Nat.le_refl _) | replace hON := hON.below (((Below.refl _ _).alloc (Nat.le_refl _) _).trans (hb.mono (by simp))) (Nat.le_refl _))); (try (first | replace hS1 := hS1.below hb (Nat.le_refl _) | replace hS1 := hS1.below (((Below.refl _ _).alloc (Nat.le_refl _) _).trans (hb.mono (by simp))) (Nat.le_refl _))); (try (first | replace hS2 := hS2.below hb (Nat.le_refl _) | replace hS2 := hS2.below (((Below.refl _ _).alloc (Nat.le_refl _) _).trans (hb.mono (by simp))) (Nat.le_refl _))); (try (first | replace hM1 := hM1.below hb (Nat.le_refl _) | replace hM1 := hM1.below (((Below.refl _ _).alloc (Nat.le_refl _) _).trans (hb.mono (by simp))) (Nat.le_refl _))); (first | replace hbA := hbA.trans (hb.mono hbA.size) | replace hbA := (hbA.alloc hbA.size _).trans (hb.mono (Nat.le_trans hbA.size (by simp)))); (first | replace HT := HT.below hb HT.lt | have HT := (Blk.new _ 74 #[.bool false, .slice none 0 0]).below hb (by simp) | have HT := (Blk.new _ 74 #[.bool false, .slice none 0 0]).drew.below hb (by simp) | skip); (try clear tt0 tt1 ttf); (try (have tt0 : _ = some (Value.bool false) := HT.cell 0; have tt1 : _ = some (Value.slice none 0 0) := HT.cell 1; have ttf := HT.frozen)); have hsz := hbA.size; clear hb; (try clear x0 x1); have x0 : _ := (bcell hbA).1 _ 0 hlt_s; have x1 : _ := (bcell hbA).1 _ 1 hlt_s; rw [y0] at x0; rw [y1] at x1)
   | (go_at_call 62; (with_reducible refine (HON.out _).mono ?_); rintro e wN ⟨nhON, phON, lhON, chON, rfl, hON, hb, -⟩; (try (first | replace hS1 := hS1.below hb (Nat.le_refl _) | replace hS1 := hS1.below (((Below.refl _ _).alloc (Nat.le_refl _) _).trans (hb.mono (by simp))) (Nat.le_refl _))); (try (first | replace hS2 := hS2.below hb (Nat.le_refl _) | replace hS2 := hS2.below (((Below.refl _ _).alloc (Nat.le_refl _) _).trans (hb.mono (by simp))) (Nat.le_refl _))); (try (first | replace hM1 := hM1.below hb (Nat.le_refl _) | replace hM1 := hM1.below (((Below.refl _ _).alloc (Nat.le_refl _) _).trans (hb.mono (by simp))) (Nat.le_refl _))); (try (first | replace hM2 := hM2.below hb (Nat.le_refl _) | replace hM2 := hM2.below (((Below.refl _ _).alloc (Nat.le_refl _) _).trans (hb.mono (by simp))) (Nat.le_refl _))); (first | replace hbA := hbA.trans (hb.mono hbA.size) | replace hbA := (hbA.alloc hbA.size _).trans (hb.mono (Nat.le_trans hbA.size (by simp)))); (first | replace HT := HT.below hb HT.lt | have HT := (Blk.new _ 74 #[.bool false, .slice none 0 0]).below hb (by simp) | have HT := (Blk.new _ 74 #[.bool false, .slice none 0 0]).drew.below hb (by simp) | skip); (try clear tt0 tt1 ttf); (try (have tt0 : _ = some (Value.bool false) := HT.cell 0; have tt1 : _ = some (Value.slice none 0 0) := HT.cell 1; have ttf := HT.frozen)); have hsz := hbA.size; clear hb; (try clear x0 x1); have x0 : _ := (bcell hbA).1 _ 0 hlt_s; have x1 : _ := (bcell hbA).1 _ 1 hlt_s; rw [y0] at x0; rw [y1] at x1)
   | (have _t := hS1; go_at_call 62; (with_reducible refine (HOS.out _).mono ?_); rintro e wN ⟨nhS2, phS2, lhS2, chS2, rfl, hS2, hb, -⟩; (try (first | replace hON := hON.below hb (Nat.le_refl _) | replace hON := hON.below (((Below.refl _ _).alloc (Nat.le_refl _) _).trans (hb.mono (by simp))) (Nat.le_refl _))); (try (first | replace hS1 := hS1.below hb (Nat.le_refl _) | replace hS1 := hS1.below (((Below.refl _ _).alloc (Nat.le_refl _) _).trans (hb.mono (by simp))) (Nat.le_refl _))); (try (first | replace hM1 := hM1.below hb (Nat.le_refl _) | replace hM1 := hM1.below (((Below.refl _ _).alloc (Nat.le_refl _) _).trans (hb.mono (by simp))) (Nat.le_refl _))); (try (first | replace hM2 := hM2.below hb (Nat.le_refl _) | replace hM2 := hM2.below (((Below.refl _ _).alloc (Nat.le_refl _) _).trans (hb.mono (by simp))) (Nat.le_refl _))); (first | replace hbA := hbA.trans (hb.mono hbA.size) | replace hbA := (hbA.alloc hbA.size _).trans (hb.mono (Nat.le_trans hbA.size (by simp)))); (first | replace HT := HT.below hb HT.lt | have HT := (Blk.new _ 74 #[.bool false, .slice none 0 0]).below hb (by simp) | have HT := (Blk.new _ 74 #[.bool false, .slice none 0 0]).drew.below hb (by simp) | skip); (try clear tt0 tt1 ttf); (try (have tt0 : _ = some (Value.bool false) := HT.cell 0; have tt1 : _ = some (Value.slice none 0 0) := HT.cell 1; have ttf := HT.frozen)); have hsz := hbA.size; clear hb; (try clear x0 x1); have x0 : _ := (bcell hbA).1 _ 0 hlt_s; have x1 : _ := (bcell hbA).1 _ 1 hlt_s; rw [y0] at x0; rw [y1] at x1)
   | (go_at_call 62; (with_reducible refine (HOS.out _).mono ?_); rintro e wN ⟨nhS1, phS1, lhS1, chS1, rfl, hS1, hb, -⟩; (try (first | replace hON := hON.below hb (Nat.le_refl _) | replace hON := hON.below (((Below.refl _ _).alloc (Nat.le_refl _) _).trans (hb.mono (by simp))) (Nat.le_refl _))); (try (first | replace hS2 := hS2.below hb (Nat.le_refl _) | replace hS2 := hS2.below (((Below.refl _ _).alloc (Nat.le_refl _) _).trans (hb.mono (by simp))) (Nat.le_refl _))); (try (first | replace hM1 := hM1.below hb (Nat.le_refl _) | replace hM1 := hM1.below (((Below.refl _ _).alloc (Nat.le_refl _) _).trans (hb.mono (by simp))) (Nat.le_refl _))); (try (first | replace hM2 := hM2.below hb (Nat.le_refl _) | replace hM2 := hM2.below (((Below.refl _ _).alloc (Nat.le_refl _) _).trans (hb.mono (by simp))) (Nat.le_refl _))); (first | replace hbA := hbA.trans (hb.mono hbA.size) | replace hbA := (hbA.alloc hbA.size _).trans (hb.mono (Nat.le_trans hbA.size (by simp)))); (first | replace HT := HT.below hb HT.lt | have HT := (Blk.new _ 74 #[.bool false, .slice none 0 0]).below hb (by simp) | have HT := (Blk.new _ 74 #[.bool false, .slice none 0 0]).drew.below hb (by simp) | skip); (try clear tt0 tt1 ttf); (try (have tt0 : _ = some (Value.bool false) := HT.cell 0; have tt1 : _ = some (Value.slice none 0 0) := HT.cell 1; have ttf := HT.frozen)); have hsz := hbA.size; clear hb; (try clear x0 x1); have x0 : _ := (bcell hbA).1 _ 0 hlt_s; have x1 : _ := (bcell hbA).1 _ 1 hlt_s; rw [y0] at x0; rw [y1] at x1))
    all_goals go_wp2_with fail
    all_goals go_meet
    all_goals first
     | exact ⟨_, nhD, phD, lhD, chD, rfl, Blk.new _ _ _, hD.below ((Below.refl _ _).alloc (Nat.le_refl _) _) (Nat.le_refl _), hbA.alloc hbA.size _⟩
     | exact ⟨_, nhD, phD, lhD, chD, rfl, ((HT.set_ 0 _).set_ 1 _).to rfl, NumC.set2 hD (HT.cell 0) (HT.cell 1) _ _ _ _, (hbA.setCell (by (try simp) <;> omega) _).setCell (by (try simp) <;> omega) _⟩
   case rest =>
    obtain ⟨t, n5, p5, l5, c5, rfl, hkt, hD5, hb5⟩ := hcut
    have HB5 := Lib.hid (HB9.out.trans (hb5.mono HB9.out.size))
    have hsg := hD5.sign
    rcases Int.lt_or_le ((N : Int) * S - s * s) 0 with hng | hps
    ·obtain rfl : n5 = true := by rw [hsg]; simpa using hng
     have f0 : wc.cell? ⟨t, 0, none⟩ = some (.bool true) := hkt.cell 0
     have HNG := Lib.hid hng
     clear hkt hD5 hb5 hsg hng x0 x1 y0 y1 hbA hlt_s HXb
     go_wp2_with fail
     refine (rnone_any _).mono ?_; rintro z w6 ⟨r, rfl, hr1, hr2, hb6⟩
     have HB6 := Lib.hid (HB5.out.trans (hb6.mono HB5.out.size))
     have HR1 := Lib.hid hr1
     have HR2 := Lib.hid hr2
     clear hb6 hr1 hr2
     go_wp2_with fail
     go_ret
     exact ⟨_, rfl, ⟨HR1.out, .inl ⟨.inr HNG.out, HR2.out⟩⟩, HB6.out⟩
    ·obtain rfl : n5 = false := by rw [hsg]; simpa using hps
     have f0 : wc.cell? ⟨t, 0, none⟩ = some (.bool false) := hkt.cell 0
     have f1 : wc.cell? ⟨t, 1, none⟩ = some (.slice p5 l5 c5) := hkt.cell 1
     have hlt_t : t < wc.heap.size := hkt.lt
     obtain ⟨D, hDN⟩ : ∃ D : Nat, (N : Int) * S - s * s = (D : Int) := ⟨((N : Int) * S - s * s).toNat, by omega⟩
     rw [hDN] at hD5
     have HDN := Lib.hid hDN
     have HDD := Lib.hid hD5
     have HDB' : Hid (D < 2 ^ (64 + K)) := Lib.hid (by have h := HDB.out; rw [hDN] at h; exact h)
     have HRT : Hid (∀ (nq : Bool) (q : Option Addr) (lq cq : Nat) (w : World), NumC w false p5 l5 c5 (D : Int) → NumC w nq q lq cq ((N : Int) * (N : Int)) → Calls Tryz.prog 63 #[.agg #[.bool false, .slice p5 l5 c5], .agg #[.bool nq, .slice q lq cq]] w (RRoot D (N * N) w)) := Lib.hid (fun nq q lq cq w g1 g2 => rroot_any false nq p5 q l5 c5 lq cq D (N * N) (128 + K) w g1 (by rw [Int.natCast_mul]; exact g2) (Nat.lt_of_lt_of_le HDB'.out (Nat.pow_le_pow_right (by decide) (by omega))) (Nat.lt_of_lt_of_le HQB.out (Nat.pow_le_pow_right (by decide) (by omega))) (by omega))
     clear hkt hD5 hb5 hsg hps x0 x1 y0 y1 hbA hlt_s HXb hDN
     go_upto_region 7 with fail
     have hbA : Below wc.heap.size wc wc.drew := (Below.refl _ _).drew
     have x0 := f0
     have x1 := f1
     go_region_held3 (fun w' => w'.cell? ⟨t, 0, none⟩ = some (.bool false) ∧ w'.cell? ⟨t, 1, none⟩ = some (.slice p5 l5 c5)) (first | (exact ⟨x0, x1⟩) | go_keep)
      (first
       | (go_at_call 63; (with_reducible refine (HRT.out _ _ _ _ _ (HDD.out.below hbA (Nat.le_refl _)) (by assumption)).mono ?_); rintro e wN ⟨zz, rfl, hzz, hb⟩; replace hbA := hbA.trans (hb.mono hbA.size); clear hb; (try clear x0 x1); have x0 : _ := (bcell hbA).1 _ 0 hlt_t; have x1 : _ := (bcell hbA).1 _ 1 hlt_t; rw [f0] at x0; rw [f1] at x1)
       | (have _t := hA2; go_at_call 61; (with_reducible refine (mul_any _ _ _ _ _ _ _ _ (N : Int) (N : Int) _ (by assumption) (by assumption) FN.out FN.out).mono ?_); rintro e wN ⟨nM, pM, lM, cM, rfl, hM, hb, -⟩; clear hA1 hA2; replace hbA := hbA.trans (hb.mono hbA.size); clear hb; (try clear x0 x1); have x0 : _ := (bcell hbA).1 _ 0 hlt_t; have x1 : _ := (bcell hbA).1 _ 1 hlt_t; rw [f0] at x0; rw [f1] at x1)
       | (have _t := hA1; go_at_call 62; (with_reducible refine (HON.out _).mono ?_); rintro e wN ⟨nA2, pA2, lA2, cA2, rfl, hA2, hb, -⟩; replace hA1 := hA1.below hb (Nat.le_refl _); replace hbA := hbA.trans (hb.mono hbA.size); clear hb; (try clear x0 x1); have x0 : _ := (bcell hbA).1 _ 0 hlt_t; have x1 : _ := (bcell hbA).1 _ 1 hlt_t; rw [f0] at x0; rw [f1] at x1)
       | (go_at_call 62; (with_reducible refine (HON.out _).mono ?_); rintro e wN ⟨nA1, pA1, lA1, cA1, rfl, hA1, hb, -⟩; replace hbA := hbA.trans (hb.mono (Nat.le_trans (by simp) hbA.size)); clear hb; (try clear x0 x1); have x0 : _ := (bcell hbA).1 _ 0 hlt_t; have x1 : _ := (bcell hbA).1 _ 1 hlt_t; rw [f0] at x0; rw [f1] at x1))
     all_goals
      have HBE := Lib.hid (HB5.out.trans (hbA.mono HB5.out.size))
      have HZZ := Lib.hid hzz
      clear hbA hzz x0 x1 f0 f1
      go_wp2_with fail
      go_ret
      refine ⟨zz, rfl, ⟨HZZ.out.1, .inr ⟨by have := HN1.out; omega, by rw [HDN.out]; exact Int.natCast_nonneg _, ?_⟩⟩, HBE.out⟩
      rw [HDN.out, Int.toNat_natCast, Int.toNat_natCast]
      exact HZZ.out
end Go.Proofs.YtdbkgpakpadloaaGreat
