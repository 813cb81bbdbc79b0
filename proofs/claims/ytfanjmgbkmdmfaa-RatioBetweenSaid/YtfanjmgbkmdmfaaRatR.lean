/- The walk of the law RatioBetween. No conditions. -/
import Derived.Test.YtfanjmgbkmdmfaaRatQ
import Derived.Test.YtfanjmgbkmdmfaaRatL
import Derived.Test.YtfanjmgbkmdmfaaRegL
import Derived.Test.YtfanjmgbkmdmfaaRef02f
import Derived.Deep.QuietTactic
import Derived.BigQuiet
import Derived.IntWalk
import Derived.Outline
namespace Go.Proofs.Ytfanjmgbkmdmfaa
open Go.RowKit Ieee

theorem IsRow.range32 {w : World} {a : Option Addr} {n c : Nat} {zs : List Int} (h : IsRow .i32 w a n c zs) (i : Nat) (hi : i < n) : -2147483648 ≤ (zs.take n).getD i 0 ∧ (zs.take n).getD i 0 ≤ 2147483647 := by
  rw [getD_take hi]
  rcases h with ⟨-, h, -, -⟩ | ⟨x, -, h1, -, h2, -, h4⟩
  · omega
  · have := h4 _ (getD_mem (xs := zs) (i := i) (by omega))
    simpa [Lit.wf, IntKind.min, IntKind.max, IntKind.bits, IntKind.signed] using this

theorem NumC.short {w : World} {neg : Bool} {a : Option Addr} {n c k : Nat} {z : Int} (h : NumC w neg a n c z) (hf : z.natAbs < 1000 ^ k) : n ≤ k := by
  obtain ⟨xs, hr, hd, ht, hz, _⟩ := h
  by_cases h0 : xs = []
  · have := hr.1; rw [h0] at this; simp at this; omega
  · have h1 := V_ge (by decide) hd ht h0
    have h2 : V 1000 xs = z.natAbs := by
      have := (V_bd (B := 1000) (by decide) hd).1
      rw [hz]; split <;> omega
    rw [h2] at h1
    have h3 : (1000 : Nat) ^ (xs.length - 1) < 1000 ^ k := by
      have : ((1000 ^ (xs.length - 1) : Nat) : Int) = 1000 ^ (xs.length - 1) := by rw [Int.natCast_pow]; rfl
      omega
    have := (Nat.pow_lt_pow_iff_right (a := 1000) (by decide)).1 h3
    have := hr.1
    omega
theorem order_ge {z f : Nat} (hz : z < 18446744073709551616) (hf : f < 18446744073709551616) (nz : z % S63 ≤ INF) (nf : f % S63 ≤ INF) (h : sk f ≤ sk z) : FloatKind.f64.format.order z f = some Ordering.gt ∨ FloatKind.f64.format.order z f = some Ordering.eq := by
  have h1 : FloatKind.f64.format.order z f = some (compare (sk z) (sk f)) := order_num hz hf nz nf
  rw [h1]
  rcases Int.lt_or_le (sk f) (sk z) with h2 | h2
  · left; rw [cmp_gt h2]
  · right; rw [cmp_same (by omega)]
theorem order_le {z f : Nat} (hz : z < 18446744073709551616) (hf : f < 18446744073709551616) (nz : z % S63 ≤ INF) (nf : f % S63 ≤ INF) (h : sk z ≤ sk f) : FloatKind.f64.format.order z f = some Ordering.lt ∨ FloatKind.f64.format.order z f = some Ordering.eq := by
  have h1 : FloatKind.f64.format.order z f = some (compare (sk z) (sk f)) := order_num hz hf nz nf
  rw [h1]
  rcases Int.lt_or_le (sk z) (sk f) with h2 | h2
  · left; rw [cmp_lt h2]
  · right; rw [cmp_same (by omega)]
theorem order_le_pos {z f : Nat} (hz : z ≤ INF) (hf : f ≤ INF) (h : z ≤ f) : FloatKind.f64.format.order z f = some Ordering.lt ∨ FloatKind.f64.format.order z f = some Ordering.eq := by
  rw [order_pos hz hf]
  rcases Nat.lt_or_ge z f with h2 | h2
  · left; rw [cmp_lt (by omega)]
  · right; rw [cmp_same (by omega)]
theorem order_nul {z : Nat} {m M : Int} (hz : z ≤ INF) (h : z = 0 ↔ m = M) : (FloatKind.f64.format.order z 0 == some Ordering.eq) = (m == M) := by
  rw [order_pos hz (by decide)]
  by_cases h0 : z = 0
  · rw [h0, cmp_same rfl, (h.1 h0)]
    simp
  · rw [cmp_gt (by omega)]
    have : m ≠ M := fun e => h0 (h.2 e)
    have h2 : (m == M) = false := by simpa using this
    rw [h2]
    rfl
theorem sq_32 {x : Int} (h1 : -2147483648 ≤ x) (h2 : x ≤ 2147483647) : 0 ≤ x * x ∧ x * x ≤ 4611686018427387904 := by
  refine ⟨sq_nn x, ?_⟩
  have h3 : x.natAbs * x.natAbs ≤ 2147483648 * 2147483648 := Nat.mul_le_mul (by omega) (by omega)
  have h4 := sq_abs x
  omega

set_option maxRecDepth 100000 in
set_option maxHeartbeats 8000000 in
theorem walk_between (a : Option Addr) (n c : Nat) (zs : List Int) (w : World) (hA : IsRow .i32 w a n c zs) :
    Calls Try.prog 5 #[.slice a n c] w fun e w' => e = .returned (.bool true) ∧ Below w.heap.size w w' := by
  have ha := hA.row
  have hr := hA.range32
  clear hA
  generalize zs.take n = xs at *
  have hn : n ≤ 9223372036854775807 := by have := ha.2.1; have := ha.2.2.1; unfold maxLen at this; omega
  by_cases hl : 0 < n ∧ n ≤ 100
  · obtain ⟨hl1, hl2⟩ := hl
    obtain ⟨hlen, hcap, -, hcell⟩ := ha
    rcases hcell with h0 | ⟨ba, oa, rfl, hba, hcell⟩
    · omega
    have t1 : ((n : Int) == 0) = false := by simp; omega
    have t2 : decide ((100 : Int) < (n : Int)) = false := by simp; omega
    have HC := Lib.hid hcell
    have HR := Lib.hid hr
    have c0 := hcell 0 hl1
    obtain ⟨x0, hx0⟩ : ∃ x0, xs.getD 0 0 = x0 := ⟨_, rfl⟩
    have hx0r := hr 0 hl1
    rw [hx0] at c0 hx0r
    have HX0 := Lib.hid hx0
    obtain ⟨e1, e2⟩ := hx0r
    have hcv : IntKind.i64.wrap x0 = x0 := IntWalk.i64_in _ (by omega)
    have g0 : (0 : Int) < (n : Int) := by omega
    clear hcell hr hx0
    go_enter Try.func5, Try.ntmps5
    go_wp2_with fail
    have c0q : w.cell? ⟨ba, oa, none⟩ = some (.int .i32 x0) := c0
    go_quiet (fail)
    have hbq := blk_dn (Below.refl w.heap.size w) nq
    generalize w.drewN nq = w2 at *
    have HBQ := Lib.hid hbq
    have hba2 : ba < w2.heap.size := Nat.lt_of_lt_of_le hba hbq.size
    have HC2 : Hid (∀ i, i < n → w2.cell? ⟨ba, oa + i, none⟩ = some (.int .i32 (xs.getD i 0))) := Lib.hid (fun i hi => by rw [(bcell hbq).1 _ _ hba]; exact HC.out i hi)
    clear c0 c0q hbq HC
    go_wp2_with fail
    have hk0 := Blk.new w2 30 #[.bool false, .slice none 0 0]
    have hb3 : Below w2.heap.size w2 (w2.alloc (.cells #[.bool false, .slice none 0 0] 30)) := (Below.refl _ _).alloc (Nat.le_refl _) _
    have HB3 := Lib.hid (HBQ.out.trans (hb3.mono HBQ.out.size))
    have HC3 : Hid (∀ i, i < n → (w2.alloc (.cells #[.bool false, .slice none 0 0] 30)).cell? ⟨ba, oa + i, none⟩ = some (.int .i32 (xs.getD i 0))) := Lib.hid (fun i hi => by rw [(bcell hb3).1 _ _ hba2]; exact HC2.out i hi)
    have hq0 : ba < w2.heap.size := hba2
    generalize (w2.alloc (.cells #[.bool false, .slice none 0 0] 30)) = w3 at *
    have HSQ := Lib.hid HBQ.out.size
    generalize w2.heap.size = sq at *
    have HK0 := Lib.hid hk0
    clear hk0 hb3 HC2 HBQ hba2
    go_loopg [3, 4, 5, 7] n (fun g s m M i wr => ∃ (k : Nat) (s' m' M' S : Int) (neg : Bool) (p : Option Addr) (l q : Nat), s = .int .i64 s' ∧ m = .int .i64 m' ∧ M = .int .i64 M' ∧ i = .int .i64 (k : Int) ∧ k + g = n ∧ Blk wr sq 30 #[.bool neg, .slice p l q] ∧ NumC wr neg p l q S ∧
      ((k = 0 ∧ s' = 0 ∧ m' = x0 ∧ M' = x0 ∧ S = 0) ∨ (0 < k ∧ Stat k s' m' M' S)) ∧ -2147483648 ≤ m' ∧ m' ≤ M' ∧ M' ≤ 2147483647 ∧ -(2147483648 * (k : Int)) ≤ s' ∧ s' ≤ 2147483648 * (k : Int) ∧ 0 ≤ S ∧ S ≤ 4611686018427387904 * (k : Int) ∧ Below w.heap.size w wr ∧ Below sq w3 wr)
    case atStart => exact ⟨0, 0, x0, x0, 0, false, none, 0, 0, rfl, rfl, rfl, rfl, by omega, HK0.out, NumC.zero, .inl ⟨rfl, rfl, rfl, rfl, rfl⟩, by omega, by omega, by omega, by omega, by omega, by omega, by omega, HB3.out, Below.refl _ _⟩
    case round =>
      obtain ⟨k, s, m, M, S, neg, p, l, q, rfl, rfl, rfl, rfl, hkg, hkb, hS, hst, hm1, hmM, hM1, hs1, hs2, hS0, hS1, hb, hb3⟩ := hrel
      have HST := Lib.hid hst
      have HKB := Lib.hid hkb
      have HSN := Lib.hid hS
      have HB := Lib.hid hb
      have HBS := Lib.hid hb3
      have y0 : wr.cell? ⟨sq, 0, none⟩ = some (.bool neg) := hkb.cell 0
      have y1 : wr.cell? ⟨sq, 1, none⟩ = some (.slice p l q) := hkb.cell 1
      have hsq : sq < wr.heap.size := hkb.lt
      clear hst hkb hS hb hb3
      by_cases hlt : k < n
      · have cx : wr.cell? ⟨ba, oa + k, none⟩ = some (.int .i32 (xs.getD k 0)) := by rw [(bcell HBS.out).1 _ _ hq0]; exact HC3.out k hlt
        have hxr := HR.out k hlt
        obtain ⟨x, hx⟩ : ∃ x, xs.getD k 0 = x := ⟨_, rfl⟩
        rw [hx] at cx hxr
        obtain ⟨x1, x2⟩ := hxr
        have HX := Lib.hid hx
        have hcx : IntKind.i64.wrap x = x := IntWalk.i64_in _ (by omega)
        have hki : (k : Int) < (n : Int) := by omega
        have hk9 : (k : Int) ≤ 100 := by omega
        clear hx hcv
        have hxx : 0 ≤ x * x ∧ x * x ≤ 4611686018427387904 := sq_32 x1 x2
        obtain ⟨xx1, xx2⟩ := hxx
        have FX : Hid (Fit x) := Lib.hid (Fit.i64 (by omega) (by omega))
        have FXX : Hid (Fit (x * x)) := Lib.hid (Fit.i64 (by omega) (by omega))
        have FS : Hid (Fit S) := Lib.hid (Fit.of_pow2 (k := 100) (by omega) (by decide))
        have HOF := Lib.hid (fun w => of_any x w (by omega) (by omega))
        have HSN2 : Hid (((k + 1 : Nat) = 0 ∧ s + x = 0 ∧ min m x = x0 ∧ max M x = x0 ∧ S + x * x = 0) ∨ (0 < k + 1 ∧ Stat ((k + 1 : Nat) : Int) (s + x) (min m x) (max M x) (S + x * x))) := Lib.hid (.inr ⟨by omega, by
          rcases HST.out with ⟨h1, h2, h3, h4, h5⟩ | ⟨h1, h2⟩
          · subst h1
            have hxe : x = x0 := by rw [← HX.out]; exact HX0.out
            subst h2 h3 h4 h5 hxe
            rw [Int.zero_add, Int.zero_add, Int.min_eq_left (Int.le_refl _), Int.max_eq_left (Int.le_refl _)]
            exact Stat.one _
          · exact h2.next x⟩)
        have hsw : w.heap.size ≤ sq := HSQ.out
        have hss : sq ≤ sq := Nat.le_refl _
        have hbA : Below wr.heap.size wr wr.drew := (Below.refl _ _).drew
        go_upto_region 12 with fail
        refine wp_regionL (fun w' => w'.cell? ⟨sq, 0, none⟩ = some (.bool neg) ∧ w'.cell? ⟨sq, 1, none⟩ = some (.slice p l q)) 7 (by kernel_rfl) (by exact ⟨y0, y1⟩) (fun hHeld => ?_)
        refine wpAnyL_take (i := 0) (oi := ⟨some 49, _, _, _, _, _⟩) (v := ?_) rfl (by kernel_rfl) (by kernel_rfl) (by kernel_rfl) (by kernel_rfl) (by kernel_rfl) (fun _ _ _ h => h) (Or.inl ⟨by rfl, ?_⟩) (by assumption) ?_
        rotate_left 1
        · (intro w hSw; (try dsimp only at hSw); go_simp; try with_reducible rfl)
        try simp only [Act.put, List.setIfInBounds_toArray, List.set_cons_zero, List.set_cons_succ]
        refine wpAnyL_take (i := 1) (oi := ⟨some 50, _, _, _, _, _⟩) (v := ?_) rfl (by kernel_rfl) (by kernel_rfl) (by kernel_rfl) (by kernel_rfl) (by kernel_rfl) (fun _ _ _ h => h) (Or.inl ⟨by rfl, ?_⟩) (by assumption) ?_
        rotate_left 1
        · (intro w hSw; (try dsimp only at hSw); go_simp; try with_reducible rfl)
        try simp only [Act.put, List.setIfInBounds_toArray, List.set_cons_zero, List.set_cons_succ]
        refine wpAnyL_take (i := 3) (oi := ⟨some 52, _, _, _, _, _⟩) (v := ?_) rfl (by kernel_rfl) (by kernel_rfl) (by kernel_rfl) (by kernel_rfl) (by kernel_rfl) (fun _ _ _ h => h) (Or.inl ⟨by rfl, ?_⟩) (by assumption) ?_
        rotate_left 1
        · (intro w hSw; (try dsimp only at hSw); go_simp; try with_reducible rfl)
        try simp only [Act.put, List.setIfInBounds_toArray, List.set_cons_zero, List.set_cons_succ]
        refine wpAnyL_one (i := 2) (o := ⟨some 51, _, _, _, _, _⟩) (by kernel_rfl) rfl (fun K hK => ?_)
        go_simp
        refine (HOF.out _).mono ?_
        rintro e w4 ⟨n4, p4, l4, c4, rfl, hN4, hb4, -⟩
        have hB4 := hbA.trans (hb4.mono (by exact Nat.le_refl _))
        have w40 : w4.cell? ⟨sq, 0, none⟩ = some (.bool neg) := by rw [(bcell hB4).1 _ _ hsq]; exact y0
        have w41 : w4.cell? ⟨sq, 1, none⟩ = some (.slice p l q) := by rw [(bcell hB4).1 _ _ hsq]; exact y1
        refine hK.out _ _ (by exact ⟨w40, w41⟩) ?_
        clear hK K hHeld
        intro hHeld
        try simp only [Act.put, List.setIfInBounds_toArray, List.set_cons_zero, List.set_cons_succ]
        refine wpAnyL_one (i := 4) (o := ⟨some 53, _, _, _, _, _⟩) (by kernel_rfl) rfl (fun K hK => ?_)
        go_simp
        refine (HOF.out _).mono ?_
        rintro e w5 ⟨n5, p5, l5, c5, rfl, hN5, hb5, -⟩
        have hB5 := hB4.trans (hb5.mono hB4.size)
        have hN45 := hN4.below hb5 (Nat.le_refl _)
        have w50 : w5.cell? ⟨sq, 0, none⟩ = some (.bool neg) := by rw [(bcell hB5).1 _ _ hsq]; exact y0
        have w51 : w5.cell? ⟨sq, 1, none⟩ = some (.slice p l q) := by rw [(bcell hB5).1 _ _ hsq]; exact y1
        refine hK.out _ _ (by exact ⟨w50, w51⟩) ?_
        clear hK K hHeld
        intro hHeld
        try simp only [Act.put, List.setIfInBounds_toArray, List.set_cons_zero, List.set_cons_succ]
        refine wpAnyL_one (i := 5) (o := ⟨some 54, _, _, _, _, _⟩) (by kernel_rfl) rfl (fun K hK => ?_)
        go_simp
        refine (mul_any _ _ _ _ _ _ _ _ x x _ hN45 hN5 FX.out FX.out).mono ?_
        rintro e w6 ⟨n6, p6, l6, c6, rfl, hN6, hb6, -⟩
        have hB6 := hB5.trans (hb6.mono hB5.size)
        have w60 : w6.cell? ⟨sq, 0, none⟩ = some (.bool neg) := by rw [(bcell hB6).1 _ _ hsq]; exact y0
        have w61 : w6.cell? ⟨sq, 1, none⟩ = some (.slice p l q) := by rw [(bcell hB6).1 _ _ hsq]; exact y1
        refine hK.out _ _ (by exact ⟨w60, w61⟩) ?_
        clear hK K hHeld
        intro hHeld
        try simp only [Act.put, List.setIfInBounds_toArray, List.set_cons_zero, List.set_cons_succ]
        refine wpAnyL_one (i := 6) (o := ⟨some 55, _, _, _, _, _⟩) (by kernel_rfl) rfl (fun K hK => ?_)
        go_simp
        refine (add_any _ _ _ _ _ _ _ _ S (x * x) _ (HSN.out.below hB6 (Nat.le_refl _)) hN6 FS.out FXX.out).mono ?_
        rintro e w7 ⟨n7, p7, l7, c7, rfl, hN7, hb7, hf7⟩
        have hB7 := hB6.trans (hb7.mono hB6.size)
        have hBK := HKB.out.below hB7 hsq
        have xf : ∀ o, w7.frozen? ⟨sq, o, none⟩ = false := fun o => hBK.frozen o
        have w70 : w7.cell? ⟨sq, 0, none⟩ = some (.bool neg) := by rw [(bcell hB7).1 _ _ hsq]; exact y0
        have w71 : w7.cell? ⟨sq, 1, none⟩ = some (.slice p l q) := by rw [(bcell hB7).1 _ _ hsq]; exact y1
        refine hK.out _ _ (by exact ⟨w70, w71⟩) ?_
        clear hK K hHeld
        intro hHeld
        try simp only [Act.put, List.setIfInBounds_toArray, List.set_cons_zero, List.set_cons_succ]
        refine wpAnyL_last (o := ⟨none, _, _, _, _, _⟩) (by kernel_rfl) (by kernel_rfl) rfl (fun K hK => ?_)
        go_simp
        refine hK _ _ ?_
        clear hK K hHeld
        try simp only [Act.put, List.setIfInBounds_toArray, List.set_cons_zero, List.set_cons_succ]
        have HN7 := Lib.hid hN7
        have HBK7 := Lib.hid hBK
        have HB7 := Lib.hid hB7
        clear hbA hB4 hN4 hb4 hB5 hN5 hb5 hN45 hB6 hN6 hb6 hB7 hN7 hb7 hBK w40 w41 w50 w51 w60 w61
        go_wp2_with fail
        all_goals
          go_roundg (gk - 1)
          case measure => omega
          case rel => exact ⟨k + 1, s + x, min m x, max M x, S + x * x, n7, p7, l7, c7, rfl, congrArg (Value.int .i64) (by omega), congrArg (Value.int .i64) (by omega), by go_num, by omega, ((HBK7.out.set_ 0 _).set_ 1 _).to rfl, NumC.set2 HN7.out w70 w71 _ _ _ _, HSN2.out, by omega, by omega, by omega, by omega, by omega, by omega, by omega, ((HB.out.trans (HB7.out.mono HB.out.size)).setCell hsw _).setCell hsw _, ((HBS.out.trans (HB7.out.mono (by omega))).setCell hss _).setCell hss _⟩
      · obtain rfl : k = n := by omega
        have HStat : Hid (Stat (k : Int) s m M S) := Lib.hid (by
          rcases HST.out with ⟨h1, -⟩ | ⟨-, h⟩
          · omega
          · exact h)
        have hk9 : (k : Int) ≤ 100 := by omega
        have hkd : decide ((k : Int) < (k : Int)) = false := by simp
        obtain ⟨T, hT⟩ : ∃ T : Nat, S = (T : Int) := ⟨S.toNat, by omega⟩
        have HT := Lib.hid hT
        have hTb : T < 2 ^ 70 := by omega
        have HTB := Lib.hid hTb
        have FS : Hid (Fit S) := Lib.hid (Fit.of_pow2 (k := 100) (by omega) (by decide))
        have HMN := Lib.hid (fun w => fmean_any s (k : Int) w (by omega) (by omega) (by omega) (by omega))
        have HDV := Lib.hid (fun (a : Option Addr) (l c : Nat) (xs : List Int) (w : World) (g1 : RowK .u32 w a l c xs) (g2 : Dig 4294967296 xs) (g3 : V 4294967296 xs = (T : Int)) (g4 : l ≤ 80000) => fdev_any (k : Int) s a l c T 70 xs w g1 g2 g3 g4 hTb (by omega) (by omega) (by omega) (by omega) (by omega))
        clear hT hTb HST HC3
        go_wp2_with fail
        refine (HMN.out _).mono ?_; rintro e w4 ⟨z, rfl, hz, hb4⟩
        have HB4 := Lib.hid (HB.out.trans (hb4.mono HB.out.size))
        have hk4 := HKB.out.below hb4 hsq
        have HS4 := Lib.hid (HSN.out.below hb4 (Nat.le_refl _))
        have HZ := Lib.hid hz
        clear hb4 hz y0 y1
        have y0 : w4.cell? ⟨sq, 0, none⟩ = some (.bool neg) := hk4.cell 0
        have y1 : w4.cell? ⟨sq, 1, none⟩ = some (.slice p l q) := hk4.cell 1
        have hlS := HS4.out.short (k := 50) (by omega)
        clear hk4
        go_wp2_with fail
        refine (rof_any neg p l q S w4 HS4.out hS0 (by omega)).mono ?_; rintro e w5 ⟨a5, l5, c5, rfl, hN5, hb5, -⟩
        have HB5 := Lib.hid (HB4.out.trans (hb5.mono HB4.out.size))
        rw [HT.out] at hN5
        have hl5 := hN5.short HTB.out
        obtain ⟨us, u1, u2, u3⟩ := hN5.row
        have HD5 := Lib.hid (HDV.out a5 l5 c5 us w5 u1 u2 u3 (by omega))
        clear hN5 hb5 hlS hl5 u1 u2 u3 y0 y1
        go_wp2_with fail
        refine HD5.out.mono ?_; rintro e w6 ⟨d, rfl, hd, hb6⟩
        have HB6 := Lib.hid (HB5.out.trans (hb6.mono HB5.out.size))
        have HDD := Lib.hid hd
        clear hb6 hd
        clear hs1 hs2 hS0 hS1 hkg hlt hkd
        have hmb : m.natAbs ≤ 9007199254740992 := by omega
        have hMb : M.natAbs ≤ 9007199254740992 := by omega
        obtain ⟨v1, v2, v3, v4, v5, -⟩ := mean_vs HStat.out.k1 hmb HZ.out
        obtain ⟨-, -, V3, V4, -, V6⟩ := mean_vs HStat.out.k1 hMb HZ.out
        obtain ⟨d1, d2, d3, d4⟩ := dev_vs HStat.out HT.out (by omega) (by omega) HDD.out
        have HO1 : Hid (FloatKind.f64.format.order z (floatOfInt FloatKind.f64 m) = some Ordering.gt ∨ FloatKind.f64.format.order z (floatOfInt FloatKind.f64 m) = some Ordering.eq) := Lib.hid (order_ge v1 v3 v2 v4 (v5 HStat.out.lo))
        have HO2 : Hid (FloatKind.f64.format.order z (floatOfInt FloatKind.f64 M) = some Ordering.lt ∨ FloatKind.f64.format.order z (floatOfInt FloatKind.f64 M) = some Ordering.eq) := Lib.hid (order_le v1 V3 v2 V4 (V6 HStat.out.hi))
        have HO3 : Hid ((FloatKind.f64.format.order d 0 == some Ordering.eq) = (m == M)) := Lib.hid (order_nul d1 d2)
        have HO4 : Hid (FloatKind.f64.format.order d (floatOfInt FloatKind.f64 (M - m)) = some Ordering.lt ∨ FloatKind.f64.format.order d (floatOfInt FloatKind.f64 (M - m)) = some Ordering.eq) := Lib.hid (order_le_pos d1 d3 d4)
        clear v1 v2 v3 v4 v5 V3 V4 V6 d1 d2 d3 d4 hmb hMb
        have hb1 : (FloatKind.f64.format.order z (floatOfInt FloatKind.f64 m) == some Ordering.gt || FloatKind.f64.format.order z (floatOfInt FloatKind.f64 m) == some Ordering.eq) = true := by rcases HO1.out with h | h <;> rw [h] <;> rfl
        have hb2 : (FloatKind.f64.format.order z (floatOfInt FloatKind.f64 M) == some Ordering.lt || FloatKind.f64.format.order z (floatOfInt FloatKind.f64 M) == some Ordering.eq) = true := by rcases HO2.out with h | h <;> rw [h] <;> rfl
        have hb3 : ((FloatKind.f64.format.order d 0 == some Ordering.eq) == (m == M)) = true := by rw [HO3.out]; simp
        have hb4 : (FloatKind.f64.format.order d (floatOfInt FloatKind.f64 (M - m)) == some Ordering.lt || FloatKind.f64.format.order d (floatOfInt FloatKind.f64 (M - m)) == some Ordering.eq) = true := by rcases HO4.out with h | h <;> rw [h] <;> rfl
        clear HO1 HO2 HO3 HO4
        go_wp2_with fail
        refine (awake_rat _).mono ?_; rintro e w7 ⟨rfl, hb7⟩
        have HB7 := Lib.hid (HB6.out.trans (hb7.mono HB6.out.size))
        clear hb7
        go_wp2_with fail
        go_ret
        exact ⟨rfl, HB7.out⟩
  · have ht : ((n : Int) == 0) = true ∨ (((n : Int) == 0) = false ∧ decide ((100 : Int) < (n : Int)) = true) := by
      rcases Nat.eq_zero_or_pos n with h | h
      · left; simpa using h
      · right; exact ⟨by simp; omega, by simp; omega⟩
    clear ha hr hl
    rcases ht with t1 | ⟨t1, t2⟩
    all_goals
      go_enter Try.func5, Try.ntmps5
      go_wp2_with fail
      refine (awake_rat _).mono ?_; rintro e w6 ⟨rfl, hb6⟩
      have HB6 := Lib.hid hb6
      clear hb6
      go_wp2_with fail
      go_ret
      exact ⟨rfl, HB6.out⟩
end Go.Proofs.Ytfanjmgbkmdmfaa
