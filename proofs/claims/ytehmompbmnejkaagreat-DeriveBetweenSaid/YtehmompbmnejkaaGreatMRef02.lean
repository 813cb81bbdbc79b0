/- Contract of package bushelref02's Num. Conditions: the words are below 2^32; at most 1000 of them. -/
import Derived.Test.YtehmompbmnejkaaGreatMNatA
import Derived.Test.YtehmompbmnejkaaGreatBlk
import Derived.Test.YtehmompbmnejkaaGreatMReg
import Derived.Test.YtehmompbmnejkaaGreatMDiv
import Derived.Test.YtehmompbmnejkaaGreatMNatB
namespace Go.Proofs.YtehmompbmnejkaaGreat
open Go.RowKit

theorem fit_b32 {z : Int} {k : Nat} (h : z.natAbs < 4294967296 ^ k) (hk : k ≤ 30000) : Fit z := by
 refine Fit.of_pow2 (k := 32 * k) ?_ (by omega)
 rw [Nat.pow_mul]; exact h
theorem natAbs_lt {z : Int} {k : Nat} (h0 : 0 ≤ z) (h : z < 4294967296 ^ k) : z.natAbs < 4294967296 ^ k := by
 have e : ((4294967296 ^ k : Nat) : Int) = 4294967296 ^ k := by rw [Int.natCast_pow]; rfl
 omega
theorem wrap_u64_small {d : Int} (h0 : 0 ≤ d) (h1 : d < 4294967296) : IntKind.u64.wrap d = d := by
 simp only [IntKind.wrap, IntKind.bits, IntKind.signed]
 simp
 omega
theorem NumC.zero {w : World} : NumC w false none 0 0 0 := ⟨[], RowK.nil, Dig.nil, .inl rfl, rfl, fun h => by cases h⟩
/-- one word more -/
theorem num_step {xs : List Int} {X : Int} {k : Nat} (hv : V 4294967296 xs = vf 4294967296 (fun i => xs.getD i 0) (k + 1) + X * 4294967296 ^ (k + 1)) :
  V 4294967296 xs = vf 4294967296 (fun i => xs.getD i 0) k + (X * 4294967296 + xs.getD k 0) * 4294967296 ^ k := by
 have e : vf 4294967296 (fun i => xs.getD i 0) (k + 1) = vf 4294967296 (fun i => xs.getD i 0) k + xs.getD k 0 * 4294967296 ^ k := rfl
 rw [hv, e, Int.add_mul, Int.pow_succ, Int.mul_assoc, Int.mul_comm 4294967296]
 omega
theorem num_bd {X d : Int} {m : Nat} (h1 : X < 4294967296 ^ m) (h2 : d < 4294967296) : X * 4294967296 + d < 4294967296 ^ (m + 1) := by
 rw [Int.pow_succ]
 omega

set_option maxHeartbeats 1000000 in
theorem rnum_any (a : Option Addr) (n cap : Nat) (xs : List Int) (w : World) (h : RowK .u32 w a n cap xs) (hd : Dig 4294967296 xs) (hn : n ≤ 1000) :
  Calls Tryz.prog 54 #[.slice a n cap] w (RetNum w (V 4294967296 xs)) := by
 have H := Lib.hid h
 have HD := Lib.hid hd
 have HL := Lib.hid h.1
 have HVX := Lib.hid (vf_ext (B := 4294967296) (xs := xs) (n := n) (by rw [h.1]; exact Nat.le_refl _))
 obtain ⟨z, hz⟩ : ∃ z, V 4294967296 xs = z := ⟨_, rfl⟩
 have HZ := Lib.hid hz
 rw [hz]
 have FB : Hid (Fit 4294967296) := Lib.hid (fit_b32 (k := 2) (by decide) (by decide))
 clear h hd hz
 go_enter Tryz.func54, Tryz.ntmps54
 go_wp2_with fail
 go_loopg [4] n (fun k u wr => u = .int .i64 ((k : Int) - 1) ∧ k ≤ n ∧ ∃ (nx : Bool) (px : Option Addr) (lx cx : Nat) (X : Int), Blk wr w.heap.size 83 #[.bool false, .slice none 0 0] ∧ Blk wr (w.heap.size + 1) 83 #[.bool nx, .slice px lx cx] ∧ NumC wr nx px lx cx X ∧
  Fresh w.heap.size px ∧ 0 ≤ X ∧ X < 4294967296 ^ (n - k) ∧ z = vf 4294967296 (fun i => xs.getD i 0) k + X * 4294967296 ^ k ∧ Below w.heap.size w wr)
 case atStart => exact ⟨rfl, Nat.le_refl _, false, none, 0, 0, 0, (Blk.new _ _ _).alloc _, (by have h := Blk.new (w.alloc (.cells #[.bool false, .slice none 0 0] 83)) 83 #[.bool false, .slice none 0 0]; simpa using h), NumC.zero, Fresh.nil, Int.le_refl _, by rw [Nat.sub_self]; decide, by rw [Int.zero_mul, Int.add_zero, HVX.out]; exact HZ.out.symm, ((Below.refl _ _).alloc (Nat.le_refl _) _).alloc (by simp) _⟩
 case round =>
  obtain ⟨rfl, hk, nx, px, lx, cx, X, hB0, hB1, hX, hfr, hX0, hX1, hv, hbl⟩ := hrel
  have HB0 := Lib.hid hB0
  have HB1 := Lib.hid hB1
  have HX := Lib.hid hX
  have HFR := Lib.hid hfr
  have HX1 := Lib.hid hX1
  have HV := Lib.hid hv
  have HBL := Lib.hid hbl
  have hs1 : w.heap.size + 1 < wr.heap.size := hB1.lt
  have x0 : wr.cell? ⟨w.heap.size + 1, 0, none⟩ = some (.bool nx) := by rw [hB1.cell]; rfl
  have x1 : wr.cell? ⟨w.heap.size + 1, 1, none⟩ = some (.slice px lx cx) := by rw [hB1.cell]; rfl
  clear hB0 hB1 hX hfr hX1 hv
  by_cases h0 : gk = 0
  ·subst h0
   have hXz : X = z := by have h := HV.out; rw [Int.pow_zero, Int.mul_one] at h; simp only [vf] at h; omega
   have r0 : wr.cell? ⟨w.heap.size, 0, none⟩ = some (.bool false) := by rw [HB0.out.cell]; rfl
   have r1 : wr.cell? ⟨w.heap.size, 1, none⟩ = some (.slice none 0 0) := by rw [HB0.out.cell]; rfl
   have rf : ∀ o, wr.frozen? ⟨w.heap.size, o, none⟩ = false := fun o => HB0.out.frozen o
   have HXZ := Lib.hid hXz
   clear hbl hXz
   go_wp2_with fail
   exact bodyPost_ret (v := .agg #[.bool nx, .slice px lx cx]) (by simp [results, Tryz.results54, go_sem, r0, r1]) rfl
    (RetNum.stored (by rw [← HXZ.out]; exact HX.out) (Nat.le_refl _) HBL.out r0 r1 HFR.out)
  ·obtain ⟨j, hj⟩ : ∃ j, gk = j + 1 := ⟨gk - 1, by omega⟩
   subst hj
   rw [show ((j + 1 : Nat) : Int) - 1 = (j : Int) from by omega]
   obtain ⟨-, -, -, h4⟩ := H.out.below hbl (Nat.le_refl _)
   rcases h4 with hcap0 | ⟨ba, oa, rfl, hba, hc⟩
   ·have := H.out.2.1; omega
   have hc1 := hc j (by omega)
   have hdr := HD.out.at (by decide) j
   obtain ⟨d, hdd⟩ : ∃ d, xs.getD j 0 = d := ⟨_, rfl⟩
   rw [hdd] at hc1 hdr
   have hd0 : 0 ≤ d := hdr.1
   have hd1 : d < 4294967296 := hdr.2
   have HS : Hid (z = vf 4294967296 (fun i => xs.getD i 0) j + (X * 4294967296 + d) * 4294967296 ^ j) := by
    have h := num_step (xs := xs) (X := X) (k := j) (by rw [HZ.out]; exact HV.out)
    rw [HZ.out, hdd] at h
    exact Lib.hid h
   have HNB : Hid (X * 4294967296 + d < 4294967296 ^ (n - j)) := by
    have h := num_bd HX1.out hd1
    rw [show n - (j + 1) + 1 = n - j from by omega] at h
    exact Lib.hid h
   have FX : Hid (Fit X) := Lib.hid (fit_b32 (natAbs_lt hX0 HX1.out) (by omega))
   have FXB : Hid (Fit (X * 4294967296)) := Lib.hid (fit_b32 (natAbs_lt (by omega) (Int.lt_of_le_of_lt (by omega) HNB.out)) (by omega))
   have FD : Hid (Fit d) := Lib.hid (fit_b32 (k := 1) (by omega) (by omega))
   have g0 : (0 : Int) ≤ (j : Int) := by omega
   have g1 : (j : Int) < (n : Int) := by omega
   have hbA : Below wr.heap.size wr wr.drew := (Below.refl _ _).drew
   have hXn : 0 ≤ X * 4294967296 + d := by omega
   have HXN := Lib.hid hXn
   have hwd : IntKind.u64.wrap d = d := wrap_u64_small hd0 hd1
   clear hc hdd hdr hbl h0 hXn
   go_wp2_with fail
   refine wp_regionL (fun w' => w'.cell? ⟨w.heap.size + 1, 0, none⟩ = some (.bool nx) ∧ w'.cell? ⟨w.heap.size + 1, 1, none⟩ = some (.slice px lx cx) ∧ w'.cell? ⟨ba, oa + j, none⟩ = some (.int .u32 d)) 10 (by kernel_rfl) (by exact ⟨x0, x1, hc1⟩) (fun hHeld => ?_)
   refine wpAnyL_take (i := 0) (oi := ⟨some 13, _, _, _, _, _⟩) (v := ?_) rfl (by kernel_rfl) (by kernel_rfl) (by kernel_rfl) (by kernel_rfl) (by kernel_rfl) (fun _ _ _ h => h) (Or.inl ⟨by rfl, ?_⟩) (by assumption) ?_
   rotate_left 1
   ·(intro w hSw; (try dsimp only at hSw); go_simp; try with_reducible rfl)
   try simp only [Act.put, List.setIfInBounds_toArray, List.set_cons_zero, List.set_cons_succ]
   refine wpAnyL_take (i := 3) (oi := ⟨some 16, _, _, _, _, _⟩) (v := ?_) rfl (by kernel_rfl) (by kernel_rfl) (by kernel_rfl) (by kernel_rfl) (by kernel_rfl) (fun _ _ _ h => h) (Or.inl ⟨by rfl, ?_⟩) (by assumption) ?_
   rotate_left 1
   ·(intro w hSw; (try dsimp only at hSw); go_simp; try with_reducible rfl)
   try simp only [Act.put, List.setIfInBounds_toArray, List.set_cons_zero, List.set_cons_succ]
   refine wpAnyL_take (i := 4) (oi := ⟨some 17, _, _, _, _, _⟩) (v := ?_) rfl (by kernel_rfl) (by kernel_rfl) (by kernel_rfl) (by kernel_rfl) (by kernel_rfl) (fun _ _ _ h => h) (Or.inl ⟨by rfl, ?_⟩) (by assumption) ?_
   rotate_left 1
   ·(intro w hSw; (try dsimp only at hSw); go_simp; try with_reducible rfl)
   try simp only [Act.put, List.setIfInBounds_toArray, List.set_cons_zero, List.set_cons_succ]
   refine wpAnyL_take (i := 5) (oi := ⟨some 18, _, _, _, _, _⟩) (v := ?_) rfl (by kernel_rfl) (by kernel_rfl) (by kernel_rfl) (by kernel_rfl) (by kernel_rfl) (fun _ _ _ h => h) (Or.inl ⟨by rfl, ?_⟩) (by assumption) ?_
   rotate_left 1
   ·(intro w hSw; (try dsimp only at hSw); go_simp; try with_reducible rfl)
   try simp only [Act.put, List.setIfInBounds_toArray, List.set_cons_zero, List.set_cons_succ]
   refine wpAnyL_take (i := 6) (oi := ⟨some 19, _, _, _, _, _⟩) (v := ?_) rfl (by kernel_rfl) (by kernel_rfl) (by kernel_rfl) (by kernel_rfl) (by kernel_rfl) (fun _ _ _ h => h) (Or.inl ⟨by rfl, ?_⟩) (by assumption) ?_
   rotate_left 1
   ·(intro w hSw; (try dsimp only at hSw); go_simp; try with_reducible rfl)
   try simp only [Act.put, List.setIfInBounds_toArray, List.set_cons_zero, List.set_cons_succ]
   refine wpAnyL_take (i := 7) (oi := ⟨some 20, _, _, _, _, _⟩) (v := ?_) rfl (by kernel_rfl) (by kernel_rfl) (by kernel_rfl) (by kernel_rfl) (by kernel_rfl) (fun _ _ _ h => h) (Or.inl ⟨by rfl, ?_⟩) (by assumption) ?_
   rotate_left 1
   ·(intro w hSw; (try dsimp only at hSw); go_simp; try with_reducible rfl)
   try simp only [Act.put, List.setIfInBounds_toArray, List.set_cons_zero, List.set_cons_succ]
   refine wpAnyL_one (i := 1) (o := ⟨some 14, _, _, _, _, _⟩) (by kernel_rfl) rfl (fun K hK => ?_)
   go_simp
   refine (nat_any 4294967296 _ (by omega) (by omega)).mono ?_
   rintro e w2 ⟨n2, p2, l2, c2, rfl, hN2, hb2, -⟩
   have hB2 := hbA.trans (hb2.mono (by exact Nat.le_refl _))
   have w20 : w2.cell? ⟨w.heap.size + 1, 0, none⟩ = some (.bool nx) := by rw [(bcell hB2).1 _ _ hs1]; exact x0
   have w21 : w2.cell? ⟨w.heap.size + 1, 1, none⟩ = some (.slice px lx cx) := by rw [(bcell hB2).1 _ _ hs1]; exact x1
   have w22 : w2.cell? ⟨ba, oa + j, none⟩ = some (.int .u32 d) := by rw [(bcell hB2).1 _ _ hba]; exact hc1
   refine hK.out _ _ (by exact ⟨w20, w21, w22⟩) ?_
   clear hK K hHeld
   intro hHeld
   try simp only [Act.put, List.setIfInBounds_toArray, List.set_cons_zero, List.set_cons_succ]
   refine wpAnyL_one (i := 2) (o := ⟨some 15, _, _, _, _, _⟩) (by kernel_rfl) rfl (fun K hK => ?_)
   go_simp
   refine (mul_any _ _ _ _ _ _ _ _ X 4294967296 _ (HX.out.below hB2 (Nat.le_refl _)) hN2 FX.out FB.out).mono ?_
   rintro e w3 ⟨n3, p3, l3, c3, rfl, hN3, hb3, -⟩
   have hB3 := hB2.trans (hb3.mono hB2.size)
   have w30 : w3.cell? ⟨w.heap.size + 1, 0, none⟩ = some (.bool nx) := by rw [(bcell hB3).1 _ _ hs1]; exact x0
   have w31 : w3.cell? ⟨w.heap.size + 1, 1, none⟩ = some (.slice px lx cx) := by rw [(bcell hB3).1 _ _ hs1]; exact x1
   have w32 : w3.cell? ⟨ba, oa + j, none⟩ = some (.int .u32 d) := by rw [(bcell hB3).1 _ _ hba]; exact hc1
   refine hK.out _ _ (by exact ⟨w30, w31, w32⟩) ?_
   clear hK K hHeld
   intro hHeld
   try simp only [Act.put, List.setIfInBounds_toArray, List.set_cons_zero, List.set_cons_succ]
   refine wpAnyL_one (i := 8) (o := ⟨some 21, _, _, _, _, _⟩) (by kernel_rfl) rfl (fun K hK => ?_)
   go_simp
   refine (nat_any d _ hd0 (by omega)).mono ?_
   rintro e w4 ⟨n4, p4, l4, c4, rfl, hN4, hb4, -⟩
   have hB4 := hB3.trans (hb4.mono hB3.size)
   have w40 : w4.cell? ⟨w.heap.size + 1, 0, none⟩ = some (.bool nx) := by rw [(bcell hB4).1 _ _ hs1]; exact x0
   have w41 : w4.cell? ⟨w.heap.size + 1, 1, none⟩ = some (.slice px lx cx) := by rw [(bcell hB4).1 _ _ hs1]; exact x1
   have w42 : w4.cell? ⟨ba, oa + j, none⟩ = some (.int .u32 d) := by rw [(bcell hB4).1 _ _ hba]; exact hc1
   refine hK.out _ _ (by exact ⟨w40, w41, w42⟩) ?_
   clear hK K hHeld
   intro hHeld
   try simp only [Act.put, List.setIfInBounds_toArray, List.set_cons_zero, List.set_cons_succ]
   refine wpAnyL_one (i := 9) (o := ⟨some 22, _, _, _, _, _⟩) (by kernel_rfl) rfl (fun K hK => ?_)
   go_simp
   refine (add_any _ _ _ _ _ _ _ _ (X * 4294967296) d _ (hN3.below hb4 (Nat.le_refl _)) hN4 FXB.out FD.out).mono ?_
   rintro e w5 ⟨n5, p5, l5, c5, rfl, hN5, hb5, hf5⟩
   have hB5 := hB4.trans (hb5.mono hB4.size)
   have hBK := HB1.out.below hB5 hs1
   have xf : ∀ o, w5.frozen? ⟨w.heap.size + 1, o, none⟩ = false := fun o => hBK.frozen o
   have w50 : w5.cell? ⟨w.heap.size + 1, 0, none⟩ = some (.bool nx) := by rw [(bcell hB5).1 _ _ hs1]; exact x0
   have w51 : w5.cell? ⟨w.heap.size + 1, 1, none⟩ = some (.slice px lx cx) := by rw [(bcell hB5).1 _ _ hs1]; exact x1
   have w52 : w5.cell? ⟨ba, oa + j, none⟩ = some (.int .u32 d) := by rw [(bcell hB5).1 _ _ hba]; exact hc1
   refine hK.out _ _ (by exact ⟨w50, w51, w52⟩) ?_
   clear hK K hHeld
   intro hHeld
   try simp only [Act.put, List.setIfInBounds_toArray, List.set_cons_zero, List.set_cons_succ]
   refine wpAnyL_last (o := ⟨none, _, _, _, _, _⟩) (by kernel_rfl) (by kernel_rfl) rfl (fun K hK => ?_)
   go_simp
   refine hK _ _ ?_
   clear hK K hHeld
   try simp only [Act.put, List.setIfInBounds_toArray, List.set_cons_zero, List.set_cons_succ]
   go_wp2_with fail
   go_roundg j
   case measure => omega
   case rel => exact ⟨rfl, by omega, n5, p5, l5, c5, X * 4294967296 + d, (HB0.out.below hB5 (by omega)).far (by simp) _ |>.far (by simp) _, ((hBK.set_ 0 _).set_ 1 _).to rfl, NumC.set2 hN5 w50 w51 _ _ _ _, hf5.mono (by have := hB4.size; omega), HXN.out, HNB.out, HS.out, ((HBL.out.trans (hB5.mono (by omega))).setCell (by simp) _).setCell (by simp) _⟩
end Go.Proofs.YtehmompbmnejkaaGreat
/- Contract of package bushelref02's Is, where it says yes: a trim list of the number that is asked. Condition: at most 1000 words. -/
namespace Go.Proofs.YtehmompbmnejkaaGreat
open Go.RowKit

end Go.Proofs.YtehmompbmnejkaaGreat
/- Contracts of package bushelref01's Two and of package bushelref02's Bits. Conditions: below 2^900000. -/
namespace Go.Proofs.YtehmompbmnejkaaGreat
open Go.RowKit

theorem fit_two {n : Nat} (h : n ≤ 900000) : Fit ((2 : Int) ^ n) := by
 refine Fit.of_pow2 (k := n + 1) ?_ (by omega)
 have e : ((2 : Int) ^ n).natAbs = 2 ^ n := by rw [Int.natAbs_pow]; rfl
 rw [e]
 exact Nat.pow_lt_pow_right (by decide) (by omega)

theorem two_bx (w : World) (t : TypeId) (c1 c2 : Array Value) : Blk ((w.alloc (.cells c1 t)).alloc (.cells c2 t)) w.heap.size t c1 ∧ Blk ((w.alloc (.cells c1 t)).alloc (.cells c2 t)) (w.heap.size + 1) t c2 ∧
  Below w.heap.size w ((w.alloc (.cells c1 t)).alloc (.cells c2 t)) ∧ ((w.alloc (.cells c1 t)).alloc (.cells c2 t)).heap.size = w.heap.size + 1 + 1 := by
 refine ⟨(Blk.new _ _ _).alloc _, ?_, ((Below.refl _ _).alloc (Nat.le_refl _) _).alloc (by simp) _, by simp⟩
 have h := Blk.new (w.alloc (.cells c1 t)) t c2
 simpa using h
theorem one_box (w : World) (t : TypeId) (c1 : Array Value) : Blk (w.alloc (.cells c1 t)) w.heap.size t c1 ∧ Below w.heap.size w (w.alloc (.cells c1 t)) :=
 ⟨Blk.new _ _ _, (Below.refl _ _).alloc (Nat.le_refl _) _⟩
set_option maxHeartbeats 1000000 in
theorem two_any (n : Nat) (w : World) (hn : n ≤ 900000) : Calls Tryz.prog 88 #[.int .i64 n] w (RetNum w (2 ^ n)) := by
 have q0 : w.heap.size < w.heap.size + 1 := by omega
 go_enter Tryz.func88, Tryz.ntmps88
 go_wp2_with fail
 refine (nat_any 2 _ (by omega) (by omega)).mono ?_; rintro e w1 ⟨n1, a1, l1, c1, rfl, hN1, hb1, hf1⟩
 have HN1 := Lib.hid hN1
 clear hN1
 go_wp2_with fail
 refine (power_any n _ _ _ _ 2 _ HN1.out (fun m hm => fit_two (by omega)) (by omega)).mono ?_; rintro e w2 ⟨n2, a2, l2, c2, rfl, hN2, hb2, hf2⟩
 have hb3 := hb1.trans (hb2.mono hb1.size)
 obtain ⟨bc2, bf2⟩ := bcell hb3
 have HN2 := Lib.hid hN2
 clear hN2
 go_wp2_with fail
 have hz := hb1.size
 simp only [World.size_alloc] at hz
 exact bodyPost_ret (v := .agg #[.bool n2, .slice a2 l2 c2]) (by simp [results, Tryz.results88, go_sem, bc2]) rfl
  (RetNum.stored HN2.out (by omega) (((Below.refl _ _).alloc (Nat.le_refl _) _).trans (hb3.mono (by simp))) (by simp [go_sem, bc2]) (by simp [go_sem, bc2]) (hf2.mono (by omega)))

end Go.Proofs.YtehmompbmnejkaaGreat
