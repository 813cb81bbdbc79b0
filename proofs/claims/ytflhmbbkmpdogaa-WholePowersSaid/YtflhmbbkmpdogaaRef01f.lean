/- Contracts of package bushelref01's Uint, Int, Fits, Is. Conditions: the numbers have room in 64 bits, or lie below 1000^1000000, where that is said. -/
import Derived.Test.YtflhmbbkmpdogaaRef01e
namespace Go.Proofs.Ytflhmbbkmpdogaa
open Go.RowKit

theorem uint_step {xs : List Int} {t : Int} {k : Nat} (hd : Dig 1000 xs) (h0 : 0 ≤ t) (hv : V 1000 xs = vf 1000 (fun i => xs.getD i 0) (k + 1) + t * 1000 ^ (k + 1)) (hl : V 1000 xs ≤ 18446744073709551615) :
    V 1000 xs = vf 1000 (fun i => xs.getD i 0) k + (t * 1000 + xs.getD k 0) * 1000 ^ k ∧ 0 ≤ t * 1000 ∧ t * 1000 + xs.getD k 0 ≤ 18446744073709551615 := by
  have e : vf 1000 (fun i => xs.getD i 0) (k + 1) = vf 1000 (fun i => xs.getD i 0) k + xs.getD k 0 * 1000 ^ k := rfl
  have h1 := (vf_bd (B := 1000) (by decide) (f := fun i => xs.getD i 0) k (fun i _ => hd.at (by decide) i)).1
  have h2 := (hd.at (B := 1000) (by decide) k).1
  have hp : (0 : Int) < 1000 ^ k := Int.pow_pos (by decide)
  have hv' : V 1000 xs = vf 1000 (fun i => xs.getD i 0) k + (t * 1000 + xs.getD k 0) * 1000 ^ k := by
    rw [hv, e, Int.add_mul, Int.pow_succ, Int.mul_assoc, Int.mul_comm 1000]; omega
  refine ⟨hv', by omega, ?_⟩
  have h3 : (t * 1000 + xs.getD k 0) * 1 ≤ (t * 1000 + xs.getD k 0) * 1000 ^ k := Int.mul_le_mul_of_nonneg_left (by omega) (by omega)
  omega

theorem uint_any (na : Bool) (a : Option Addr) (n c : Nat) (x : Int) (w : World) (hx : NumC w na a n c x) (hl : x.natAbs ≤ 18446744073709551615) :
    Calls Try.prog 26 #[.agg #[.bool na, .slice a n c]] w fun e w' => e = .returned (.int .u64 (x.natAbs : Int)) ∧ Below w.heap.size w w' := by
  have hn := hx.len (Fit.i64 (by omega) (by omega))
  obtain ⟨xs, hr, hd, ht, hz, hg⟩ := hx
  have hv : V 1000 xs = x.natAbs := by
    have := (V_bd (B := 1000) (by decide) hd).1
    rw [hz]; split <;> omega
  have hvl : V 1000 xs ≤ 18446744073709551615 := by omega
  have HR := Lib.hid hr
  have HD := Lib.hid hd
  have HV := Lib.hid hv
  have HVL := Lib.hid hvl
  have HB : Hid (Below w.heap.size w (w.alloc (.cells #[.bool na, .slice a n c] 26))) := Lib.hid ((Below.refl _ _).alloc (Nat.le_refl _) _)
  have hl' := hr.1
  have HL := Lib.hid hl'
  clear hr hd ht hz hg hv hvl hl hl'
  go_enter Try.func26, Try.ntmps26
  go_wp2_with fail
  go_loopg [3, 4] n (fun k u i wr => wr = w.alloc (.cells #[.bool na, .slice a n c] 26) ∧ i = .int .i64 ((k : Int) - 1) ∧ k ≤ n ∧ ∃ t : Int, u = .int .u64 t ∧ 0 ≤ t ∧ V 1000 xs = vf 1000 (fun i => xs.getD i 0) k + t * 1000 ^ k)
  case atStart => exact ⟨rfl, rfl, Nat.le_refl _, 0, rfl, by omega, by rw [Int.zero_mul, Int.add_zero, vf_ext (by rw [HL.out]; exact Nat.le_refl _)]⟩
  case round =>
    obtain ⟨rfl, rfl, hk, t, rfl, ht0, hv⟩ := hrel
    by_cases h0 : gk = 0
    · subst h0
      have HT : Hid (t = x.natAbs) := by
        have h : t = x.natAbs := by rw [← HV.out, hv, Int.pow_zero]; simp [vf]
        exact Lib.hid h
      clear hv
      go_wp2_with fail
      go_ret
      exact ⟨ret_int HT.out, HB.out⟩
    · obtain ⟨k, rfl⟩ : ∃ k, gk = k + 1 := ⟨gk - 1, by omega⟩
      obtain ⟨u1, u2, u3⟩ := uint_step HD.out ht0 hv HVL.out
      have hdr := (HD.out.at (B := 1000) (by decide) k)
      obtain ⟨-, -, -, ha4⟩ := HR.out
      rcases ha4 with hcap0 | ⟨ba, oa, rfl, hba, hca⟩
      · have := HR.out.2.1; omega
      have hc1 := hca k (by omega)
      obtain ⟨d, hd⟩ : ∃ d, xs.getD k 0 = d := ⟨_, rfl⟩
      have HD1 := Lib.hid hd
      rw [hd] at hc1 hdr u1 u3
      have U1 := Lib.hid u1
      clear hca hd hv u1
      have e5 : (((k + 1 : Nat) : Int) - 1).toNat = k := by omega
      have e6 : ((k + 1 : Nat) : Int) - 1 = (k : Int) := by omega
      rw [e6]
      clear e5 e6
      go_wp2_with fail
      go_roundg k
      case measure => omega
      case rel => exact ⟨rfl, rfl, by omega, _, rfl, by omega, U1.out⟩

theorem int_any (na : Bool) (a : Option Addr) (n c : Nat) (x : Int) (w : World) (hx : NumC w na a n c x) (h0 : -9223372036854775808 ≤ x) (h1 : x ≤ 9223372036854775807) :
    Calls Try.prog 20 #[.agg #[.bool na, .slice a n c]] w fun e w' => e = .returned (.int .i64 x) ∧ Below w.heap.size w w' := by
  have hs := hx.sign
  have HX := Lib.hid hx
  have hb0 : Below w.heap.size w (w.alloc (.cells #[.bool na, .slice a n c] 26)) := (Below.refl _ _).alloc (Nat.le_refl _) _
  have HB := Lib.hid hb0
  clear hx hb0
  cases na
  · have hx0 : 0 ≤ x := by have := of_decide_eq_false hs.symm; omega
    clear hs
    go_enter Try.func20, Try.ntmps20
    go_wp2_with fail
    refine (uint_any _ _ _ _ x _ (HX.out.below HB.out (Nat.le_refl _)) (by omega)).mono ?_; rintro e w1 ⟨rfl, hb1⟩
    have hb2 := HB.out.trans (hb1.mono (by simp))
    clear hb1
    go_wp2_with fail
    go_ret
    exact ⟨ret_int (by omega), hb2⟩
  · have hx0 : x < 0 := of_decide_eq_true hs.symm
    clear hs
    go_enter Try.func20, Try.ntmps20
    go_wp2_with fail
    go_region_held3 (fun w' => w'.cell? ⟨w.heap.size, 0, none⟩ = some (.bool true) ∧ w'.cell? ⟨w.heap.size, 1, none⟩ = some (.slice a n c)) (go_keep)
      (first
        | (go_at_call 23; refine (nat_any 1 _ (by omega) (by omega)).mono ?_; rintro e w1 ⟨neg1, a1, n1, c1, rfl, hN1, hb1, hf1⟩; simp only [World.size_drew, World.size_alloc] at hb1; obtain ⟨bc1, bf1⟩ := bcell hb1)
        | (go_at_call 9; refine (add_any _ _ _ _ _ _ _ _ x 1 _ (by exact HX.out.below (HB.out.drew.trans (hb1.mono (by omega))) (Nat.le_refl _)) hN1 (by exact Fit.i64 (by omega) (by omega)) (by exact Fit.i64 (by omega) (by omega))).mono ?_; rintro e w2 ⟨neg2, a2, n2, c2, rfl, hN2, hb2, hf2⟩; have hb3 := hb1.trans (hb2.mono (by have := hb1.size; simpa using this)); clear bc1 bf1; obtain ⟨bc2, bf2⟩ := bcell hb3)
        | (go_at_call 26; refine (uint_any _ _ _ _ (x + 1) _ hN2 (by omega)).mono ?_; rintro e w3 ⟨rfl, hb4⟩; have hb5 := hb3.trans (hb4.mono (by have := hb3.size; simpa using this)); clear bc2 bf2; obtain ⟨bc3, bf3⟩ := bcell hb5))
    go_wp2_with fail
    go_ret
    exact ⟨ret_int (by rw [IntWalk.i64_in ((x + 1).natAbs : Int) (by omega), IntWalk.i64_in (-((x + 1).natAbs : Int)) (by omega), IntWalk.i64_in _ (by omega)]; omega), HB.out.drew.trans (hb5.mono (by omega))⟩

theorem cmp_at (na nb : Bool) (a b : Option Addr) (n c m d : Nat) (x y r : Int) (w : World) (hr : cmpZ x y = r) (hx : NumC w na a n c x) (hy : NumC w nb b m d y) :
    Calls Try.prog 29 #[.agg #[.bool na, .slice a n c], .agg #[.bool nb, .slice b m d]] w fun e w' => e = .returned (.int .i64 r) ∧ Below w.heap.size w w' := by
  subst hr; exact cmp_any na nb a b n c m d x y w hx hy

theorem fits_any (na : Bool) (a : Option Addr) (n c : Nat) (x : Int) (w : World) (hx : NumC w na a n c x) :
    Calls Try.prog 19 #[.agg #[.bool na, .slice a n c]] w fun e w' => e = .returned (.bool (fits x)) ∧ Below w.heap.size w w' := by
  have HX := Lib.hid hx
  have hb0 : Below w.heap.size w (w.alloc (.cells #[.bool na, .slice a n c] 26)) := (Below.refl _ _).alloc (Nat.le_refl _) _
  have HB := Lib.hid hb0
  have hbA : Below (w.heap.size + 1) (w.alloc (.cells #[.bool na, .slice a n c] 26)) (w.alloc (.cells #[.bool na, .slice a n c] 26)).drew := (Below.refl _ _).drew
  clear hx hb0
  obtain ⟨r1, hr1⟩ : ∃ r, cmpZ x (-9223372036854775808) = r := ⟨_, rfl⟩
  obtain ⟨r2, hr2⟩ : ∃ r, cmpZ x 9223372036854775807 = r := ⟨_, rfl⟩
  have R1 := Lib.hid hr1
  have R2 := Lib.hid hr2
  clear hr1 hr2
  by_cases h1 : -9223372036854775808 ≤ x
  · have g1 : 0 ≤ r1 := by rw [← R1.out]; exact cmpZ_ge h1
    by_cases h2 : x ≤ 9223372036854775807
    · have g2 : r2 ≤ 0 := by rw [← R2.out]; unfold cmpZ; split <;> (try split) <;> omega
      rw [fits_yes ⟨h1, h2⟩]
      go_enter Try.func19, Try.ntmps19
      go_wp2_with fail
      go_region_held3 (fun w' => w'.cell? ⟨w.heap.size, 0, none⟩ = some (.bool na) ∧ w'.cell? ⟨w.heap.size, 1, none⟩ = some (.slice a n c)) (go_keep)
        (first
          | (go_at_call 10; refine (of_any _ _ (by omega) (by omega)).mono ?_; rintro e w1 ⟨neg1, a1, n1, c1, rfl, hN1, hb1, hf1⟩; replace hbA := hbA.trans (hb1.mono (Nat.le_trans (by simp) hbA.size)); obtain ⟨bc1, bf1⟩ := bcell hbA)
          | (go_at_call 29; refine (cmp_at _ _ _ _ _ _ _ _ x _ _ _ R1.out (by exact HX.out.below (HB.out.trans (hbA.mono (by omega))) (Nat.le_refl _)) hN1).mono ?_; rintro e w1 ⟨rfl, hb1⟩; replace hbA := hbA.trans (hb1.mono (Nat.le_trans (by simp) hbA.size)); obtain ⟨bc1, bf1⟩ := bcell hbA; clear hN1)
          | (go_at_call 29; refine (cmp_at _ _ _ _ _ _ _ _ x _ _ _ R2.out (by exact HX.out.below (HB.out.trans (hbA.mono (by omega))) (Nat.le_refl _)) hN1).mono ?_; rintro e w1 ⟨rfl, hb1⟩; replace hbA := hbA.trans (hb1.mono (Nat.le_trans (by simp) hbA.size)); obtain ⟨bc1, bf1⟩ := bcell hbA; clear hN1))
      go_wp2_with fail
      go_ret
      exact ⟨rfl, HB.out.trans (hbA.mono (by omega))⟩
    · have g2 : 0 < r2 := by rw [← R2.out, cmpZ_gt (by omega)]; omega
      rw [fits_no (by omega)]
      go_enter Try.func19, Try.ntmps19
      go_wp2_with fail
      go_region_held3 (fun w' => w'.cell? ⟨w.heap.size, 0, none⟩ = some (.bool na) ∧ w'.cell? ⟨w.heap.size, 1, none⟩ = some (.slice a n c)) (go_keep)
        (first
          | (go_at_call 10; refine (of_any _ _ (by omega) (by omega)).mono ?_; rintro e w1 ⟨neg1, a1, n1, c1, rfl, hN1, hb1, hf1⟩; replace hbA := hbA.trans (hb1.mono (Nat.le_trans (by simp) hbA.size)); obtain ⟨bc1, bf1⟩ := bcell hbA)
          | (go_at_call 29; refine (cmp_at _ _ _ _ _ _ _ _ x _ _ _ R1.out (by exact HX.out.below (HB.out.trans (hbA.mono (by omega))) (Nat.le_refl _)) hN1).mono ?_; rintro e w1 ⟨rfl, hb1⟩; replace hbA := hbA.trans (hb1.mono (Nat.le_trans (by simp) hbA.size)); obtain ⟨bc1, bf1⟩ := bcell hbA; clear hN1)
          | (go_at_call 29; refine (cmp_at _ _ _ _ _ _ _ _ x _ _ _ R2.out (by exact HX.out.below (HB.out.trans (hbA.mono (by omega))) (Nat.le_refl _)) hN1).mono ?_; rintro e w1 ⟨rfl, hb1⟩; replace hbA := hbA.trans (hb1.mono (Nat.le_trans (by simp) hbA.size)); obtain ⟨bc1, bf1⟩ := bcell hbA; clear hN1))
      go_wp2_with fail
      go_ret
      exact ⟨ret_bool (by simp; omega), HB.out.trans (hbA.mono (by omega))⟩
  · have g1 : r1 < 0 := by rw [← R1.out, cmpZ_lt (by omega)]; omega
    have g3 : decide (0 ≤ r1) = false := by simp; omega
    rw [fits_no (by omega)]
    go_enter Try.func19, Try.ntmps19
    go_wp2_with fail
    refine wp_region_held_drew (S := (fun w' => w'.cell? ⟨w.heap.size, 0, none⟩ = some (.bool na) ∧ w'.cell? ⟨w.heap.size, 1, none⟩ = some (.slice a n c))) (by kernel_rfl) (by go_keep) (fun hHeld => ?_)
    refine wpAnyH_take (i := 0) (oi := ⟨some 3, _, _, _, _, _⟩) (v := ?_) rfl (by kernel_rfl) (by kernel_rfl) (by kernel_rfl) (fun _ _ _ h => h) (Or.inl ⟨by rfl, ?_⟩) (by assumption) ?_
    rotate_left 1
    · (intro w hSw; (try dsimp only at hSw); go_simp; try with_reducible rfl)
    try simp only [Act.put, List.setIfInBounds_toArray, List.set_cons_zero, List.set_cons_succ]
    refine wpAnyH_ready (rs := [1]) (by kernel_rfl) (by simp) ?_
    refine AllReadyH.cons (o := _) rfl (fun K hK => ?_) AllReadyH.nil
    go_simp
    refine (of_any _ _ (by omega) (by omega)).mono ?_; rintro e w1 ⟨neg1, a1, n1, c1, rfl, hN1, hb1, hf1⟩; replace hbA := hbA.trans (hb1.mono (Nat.le_trans (by simp) hbA.size)); obtain ⟨bc1, bf1⟩ := bcell hbA
    refine hK.out _ _ (by go_keep) (fun hHeld => ?_)
    clear hK K
    try simp only [Act.put, List.setIfInBounds_toArray, List.set_cons_zero, List.set_cons_succ]
    refine wpAnyH_ready (rs := [2]) (by kernel_rfl) (by simp) ?_
    refine AllReadyH.cons (o := _) rfl (fun K hK => ?_) AllReadyH.nil
    go_simp
    refine (cmp_at _ _ _ _ _ _ _ _ x _ _ _ R1.out (by exact HX.out.below (HB.out.trans (hbA.mono (by omega))) (Nat.le_refl _)) hN1).mono ?_; rintro e w1 ⟨rfl, hb1⟩; replace hbA := hbA.trans (hb1.mono (Nat.le_trans (by simp) hbA.size)); obtain ⟨bc1, bf1⟩ := bcell hbA; clear hN1
    refine hK.out _ _ (by go_keep) (fun hHeld => ?_)
    clear hK K
    try simp only [Act.put, List.setIfInBounds_toArray, List.set_cons_zero, List.set_cons_succ]
    refine wpAnyH_take (i := 3) (oi := ⟨some 6, _, _, _, _, _⟩) (v := ?_) rfl (by kernel_rfl) (by kernel_rfl) (by kernel_rfl) (fun _ _ _ h => h) (Or.inl ⟨by rfl, ?_⟩) (by assumption) ?_
    rotate_left 1
    · (intro w hSw; (try dsimp only at hSw); go_simp; try with_reducible rfl)
    try simp only [Act.put, List.setIfInBounds_toArray, List.set_cons_zero, List.set_cons_succ]
    refine wpAnyH_take (i := 4) (oi := ⟨some 7, _, _, _, _, _⟩) (v := ?_) rfl (by kernel_rfl) (by kernel_rfl) (by kernel_rfl) (fun _ _ _ h => h) (Or.inl ⟨by rfl, ?_⟩) (by assumption) ?_
    rotate_left 1
    · (intro w hSw; (try dsimp only at hSw); go_simp; try with_reducible rfl)
    try simp only [Act.put, List.setIfInBounds_toArray, List.set_cons_zero, List.set_cons_succ]
    refine wpAnyH_take (i := 5) (oi := ⟨some 8, _, _, _, _, _⟩) (v := undef) rfl (by kernel_rfl) (by kernel_rfl) (by kernel_rfl) (fun _ _ _ h => h) (Or.inr ⟨by rfl, rfl⟩) (by assumption) ?_
    try simp only [Act.put, List.setIfInBounds_toArray, List.set_cons_zero, List.set_cons_succ]
    refine wpAnyH_take (i := 6) (oi := ⟨some 9, _, _, _, _, _⟩) (v := undef) rfl (by kernel_rfl) (by kernel_rfl) (by kernel_rfl) (fun _ _ _ h => h) (Or.inr ⟨by rfl, rfl⟩) (by assumption) ?_
    try simp only [Act.put, List.setIfInBounds_toArray, List.set_cons_zero, List.set_cons_succ]
    refine wpAnyH_take (i := 7) (oi := ⟨some 10, _, _, _, _, _⟩) (v := undef) rfl (by kernel_rfl) (by kernel_rfl) (by kernel_rfl) (fun _ _ _ h => h) (Or.inr ⟨by rfl, rfl⟩) (by assumption) ?_
    try simp only [Act.put, List.setIfInBounds_toArray, List.set_cons_zero, List.set_cons_succ]
    refine wpAnyH_take (i := 8) (oi := ⟨some 11, _, _, _, _, _⟩) (v := undef) rfl (by kernel_rfl) (by kernel_rfl) (by kernel_rfl) (fun _ _ _ h => h) (Or.inr ⟨by rfl, rfl⟩) (by assumption) ?_
    try simp only [Act.put, List.setIfInBounds_toArray, List.set_cons_zero, List.set_cons_succ]
    refine wpAnyH_take (i := 9) (oi := ⟨some 12, _, _, _, _, _⟩) (v := ?_) rfl (by kernel_rfl) (by kernel_rfl) (by kernel_rfl) (fun _ _ _ h => h) (Or.inl ⟨by rfl, ?_⟩) (by assumption) ?_
    rotate_left 1
    · (intro w hSw; (try dsimp only at hSw); go_simp; try with_reducible rfl)
    try simp only [Act.put, List.setIfInBounds_toArray, List.set_cons_zero, List.set_cons_succ]
    refine wpAnyH_take (i := 10) (oi := ⟨some 2, _, _, _, _, _⟩) (v := ?_) rfl (by kernel_rfl) (by kernel_rfl) (by kernel_rfl) (fun _ _ _ h => h) (Or.inl ⟨by rfl, ?_⟩) (by assumption) ?_
    rotate_left 1
    · (intro w hSw; (try dsimp only at hSw); go_simp; try with_reducible rfl)
    try simp only [Act.put, List.setIfInBounds_toArray, List.set_cons_zero, List.set_cons_succ]
    refine wpAnyH_done (by kernel_rfl) ?_ _
    all_goals go_wp2_with fail
    all_goals go_ret
    all_goals exact ⟨ret_bool (by first | rfl | (simp; omega)), HB.out.trans (hbA.mono (by omega))⟩

theorem is_any (na : Bool) (a : Option Addr) (n c : Nat) (x : Int) (w : World) (hx : NumC w na a n c x) :
    Calls Try.prog 12 #[.int .i64 (clip x), .bool (fits x), .agg #[.bool na, .slice a n c]] w fun e w' => e = .returned (.bool true) ∧ Below w.heap.size w w' := by
  have HX := Lib.hid hx
  have hb0 : Below w.heap.size w (w.alloc (.cells #[.bool na, .slice a n c] 26)) := (Below.refl _ _).alloc (Nat.le_refl _) _
  have HB := Lib.hid hb0
  clear hx hb0
  have HF := Lib.hid (fits_any na a n c x _ (HX.out.below HB.out (Nat.le_refl _)))
  by_cases hf : fits x = true
  · rw [clip_yes hf]
    rw [hf] at HF ⊢
    obtain ⟨h1, h2⟩ := fits_iff.1 hf
    clear hf
    go_enter Try.func12, Try.ntmps12
    go_wp2_with fail
    refine HF.out.mono ?_; rintro e w1 ⟨rfl, hb1⟩
    simp only [World.size_alloc] at hb1
    obtain ⟨bc, bf⟩ := bcell hb1
    have hb2 := HB.out.trans (hb1.mono (by omega))
    go_wp2_with fail
    refine (int_any _ _ _ _ x _ (HX.out.below hb2 (Nat.le_refl _)) h1 h2).mono ?_; rintro e w2 ⟨rfl, hb3⟩
    have hb4 := hb2.trans (hb3.mono (by have := hb2.size; omega))
    have hxx : (x == x) = true := by simp
    go_wp2_with fail
    go_ret
    exact ⟨rfl, hb4⟩
  · have hf' : fits x = false := by simpa using hf
    rw [clip_no hf']
    rw [hf'] at HF ⊢
    clear hf hf'
    go_enter Try.func12, Try.ntmps12
    go_wp2_with fail
    refine HF.out.mono ?_; rintro e w1 ⟨rfl, hb1⟩
    simp only [World.size_alloc] at hb1
    obtain ⟨bc, bf⟩ := bcell hb1
    have hb2 := HB.out.trans (hb1.mono (by omega))
    go_wp2_with fail
    go_ret
    exact ⟨rfl, hb2⟩
end Go.Proofs.Ytflhmbbkmpdogaa
