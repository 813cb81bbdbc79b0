/- The walk of the law NatShifts. No conditions. -/
import Derived.Test.YtnbhcemgoifkgaaNatU
import Derived.Test.YtnbhcemgoifkgaaRef02c
import Derived.Deep.DeepCutAuto
namespace Go.Proofs.Ytnbhcemgoifkgaa
open Go.RowKit

theorem Blk.keep {w w' : World} {g : Nat} {t : TypeId} {cs : Array Value} (h : Blk w g t cs) (hb : Below w.heap.size w w') : Blk w' g t cs := h.below hb h.lt
theorem Blk.new2 (w : World) (o : Obj) (t : TypeId) (cs : Array Value) : Blk ((w.alloc o).alloc (.cells cs t)) (w.heap.size + 1) t cs := by
  have h := Blk.new (w.alloc o) t cs
  simpa using h
/-- a box holds the number Z; nothing that was there has changed -/
def BoxOut (w0 : World) (Z : Int) (sB : Value) (wx : World) : Prop := ∃ (t : Nat) (n : Bool) (p : Option Addr) (l c : Nat), sB = .pointer (some ⟨t, 0, none⟩) ∧ Blk wx t 27 #[.bool n, .slice p l c] ∧ NumC wx n p l c Z ∧ Below w0.heap.size w0 wx
section
variable {w0 w6 : World} {n m : Bool} {p q : Option Addr} {l c k d u v : Nat} {Z : Int}
theorem leafA1 (h : NumC w6 n p l c Z) (hb : Below w0.heap.size w0 w6) : BoxOut w0 Z (.pointer (some ⟨w6.heap.size, 0, none⟩)) ((w6.alloc (.cells #[.bool n, .slice p l c] 27)).alloc (.cells #[.bool m, .slice q k d] 27)) :=
  ⟨_, n, p, l, c, rfl, (Blk.new _ _ _).alloc _, (h.below ((Below.refl _ _).alloc (Nat.le_refl _) _) (Nat.le_refl _)).below ((Below.refl _ _).alloc (Nat.le_refl _) _) (Nat.le_refl _), (hb.alloc hb.size _).alloc (Nat.le_trans hb.size (by simp)) _⟩
theorem leafA2 (h : NumC w6 n p l c Z) (hb : Below w0.heap.size w0 w6) : BoxOut w0 Z (.pointer (some ⟨w6.heap.size + 1, 0, none⟩)) ((w6.alloc (.cells #[.bool m, .slice q k d] 27)).alloc (.cells #[.bool n, .slice p l c] 27)) :=
  ⟨_, n, p, l, c, rfl, Blk.new2 _ _ _ _, (h.below ((Below.refl _ _).alloc (Nat.le_refl _) _) (Nat.le_refl _)).below ((Below.refl _ _).alloc (Nat.le_refl _) _) (Nat.le_refl _), (hb.alloc hb.size _).alloc (Nat.le_trans hb.size (by simp)) _⟩
theorem leafB1 (h : NumC w6 n p l c Z) (hb : Below w0.heap.size w0 w6) (hu : Blk w6 u 27 #[.bool false, .slice none 0 0]) (hu0 : w0.heap.size ≤ u) :
    BoxOut w0 Z (.pointer (some ⟨u, 0, none⟩)) (((w6.setCell ⟨u, 0, none⟩ (.bool n)).setCell ⟨u, 1, none⟩ (.slice p l c)).alloc (.cells #[.bool m, .slice q k d] 27)) :=
  ⟨_, n, p, l, c, rfl, (((hu.set_ 0 _).set_ 1 _).to rfl).alloc _, (NumC.set2 h (hu.cell 0) (hu.cell 1) _ _ _ _).below ((Below.refl _ _).alloc (Nat.le_refl _) _) (Nat.le_refl _), ((hb.setCell hu0 _).setCell hu0 _).alloc (by have := hb.size; simpa using this) _⟩
theorem leafB2 (h : NumC w6 n p l c Z) (hb : Below w0.heap.size w0 w6) (hu : Blk w6 u 27 #[.bool false, .slice none 0 0]) (hu0 : w0.heap.size ≤ u) :
    BoxOut w0 Z (.pointer (some ⟨w6.heap.size, 0, none⟩)) (((w6.setCell ⟨u, 0, none⟩ (.bool m)).setCell ⟨u, 1, none⟩ (.slice q k d)).alloc (.cells #[.bool n, .slice p l c] 27)) := by
  have hx := Blk.new ((w6.setCell ⟨u, 0, none⟩ (.bool m)).setCell ⟨u, 1, none⟩ (.slice q k d)) 27 #[.bool n, .slice p l c]
  have e : ((w6.setCell ⟨u, 0, none⟩ (.bool m)).setCell ⟨u, 1, none⟩ (.slice q k d)).heap.size = w6.heap.size := by simp
  rw [e] at hx
  exact ⟨_, n, p, l, c, rfl, hx, (NumC.set2 h (hu.cell 0) (hu.cell 1) _ _ _ _).below ((Below.refl _ _).alloc (Nat.le_refl _) _) (Nat.le_refl _), ((hb.setCell hu0 _).setCell hu0 _).alloc (by have := hb.size; simpa using this) _⟩
theorem leafC (h : NumC w6 n p l c Z) (hb : Below w0.heap.size w0 w6) (hu : Blk w6 u 27 #[.bool false, .slice none 0 0]) (hv : Blk w6 v 27 #[.bool false, .slice none 0 0]) (hu0 : w0.heap.size ≤ u) (hv0 : w0.heap.size ≤ v) (hne : u ≠ v) :
    BoxOut w0 Z (.pointer (some ⟨u, 0, none⟩)) ((((w6.setCell ⟨u, 0, none⟩ (.bool n)).setCell ⟨u, 1, none⟩ (.slice p l c)).setCell ⟨v, 0, none⟩ (.bool m)).setCell ⟨v, 1, none⟩ (.slice q k d)) := by
  have h1 := ((hu.set_ 0 (.bool n)).set_ 1 (.slice p l c)).to rfl
  have h2 := (hv.far (p := ⟨u, 0, none⟩) (fun e => hne e.symm) (.bool n)).far (p := ⟨u, 1, none⟩) (fun e => hne e.symm) (.slice p l c)
  exact ⟨_, n, p, l, c, rfl, (h1.far (p := ⟨v, 0, none⟩) hne _).far (p := ⟨v, 1, none⟩) hne _, NumC.set2 (NumC.set2 h (hu.cell 0) (hu.cell 1) _ _ _ _) (h2.cell 0) (h2.cell 1) _ _ _ _, (((hb.setCell hu0 _).setCell hu0 _).setCell hv0 _).setCell hv0 _⟩
end
/-- what the two shifts answer -/
def ShlOut (X : Int) (n : Int) (w : World) (e : Ending) (w' : World) : Prop :=
  ((n < 0 ∨ 8192 < n) ∧ e = .returned (.tuple #[.slice none 0 0, .bool false]) ∧ w = w') ∨ (∃ N : Nat, n = N ∧ N ≤ 8192 ∧ RetNatB w (X * 2 ^ N) e w')
theorem shl_all (a : Option Addr) (n c : Nat) (s : Int) (xs : List Int) (w : World) (ha : RowK .u32 w a n c xs) (hx : Dig 4294967296 xs) (hn0 : n ≤ 80000) :
    Calls Try.prog 34 #[.slice a n c, .int .i64 s] w (ShlOut (V 4294967296 xs) s w) := by
  by_cases h : s < 0 ∨ 8192 < s
  · refine (shl_no a n c s w h).mono ?_
    rintro e w' ⟨rfl, rfl⟩
    exact .inl ⟨h, rfl, rfl⟩
  · obtain ⟨N, rfl⟩ : ∃ N : Nat, s = N := ⟨s.toNat, by omega⟩
    refine (shl_any a n c N (N / 32) (N % 32) xs w ha hx hn0 (by omega) (by omega) (by omega)).mono ?_
    intro e w' h1
    exact .inr ⟨N, rfl, by omega, h1⟩
theorem shr_all (a : Option Addr) (n c : Nat) (s : Int) (xs : List Int) (w : World) (ha : RowK .u32 w a n c xs) (hx : Dig 4294967296 xs) (hn0 : n ≤ 80000) (hs : s ≤ 9223372036854775807) :
    Calls Try.prog 35 #[.slice a n c, .int .i64 s] w (RetNat w (V 4294967296 xs / 2 ^ s.toNat)) :=
  shr_any a n c s s.toNat (s.toNat / 32) (s.toNat % 32) xs w ha hx (by omega) rfl (by omega) (by omega) hs
theorem two_big {X : Int} {k : Nat} (h0 : 0 ≤ X) (h1 : X < 4294967296 ^ 20) (hk : 640 ≤ k) : X / 2 ^ k = 0 := by
  refine Int.ediv_eq_zero_of_lt h0 (Int.lt_of_lt_of_le h1 ?_)
  rw [show (4294967296 : Int) = 2 ^ 32 from rfl, ← Int.pow_mul]
  exact ipow_le (by decide) hk
theorem wf_i64n {n : Int} (h : (Lit.int .i64 n).wf = true) : -9223372036854775808 ≤ n ∧ n ≤ 9223372036854775807 := by
  simpa [Lit.wf, IntKind.min, IntKind.max, IntKind.bits, IntKind.signed] using h
theorem shl_bd {X : Int} {N : Nat} (h0 : 0 ≤ X) (h1 : X < 4294967296 ^ 20) (hN : N ≤ 8192) : X * 2 ^ N < 4294967296 ^ 276 := by
  have e : (4294967296 : Int) ^ 276 = 4294967296 ^ 20 * 4294967296 ^ 256 := by rw [← Int.pow_add]
  have h2 : (2 : Int) ^ N ≤ 4294967296 ^ 256 := by
    have e2 : (4294967296 : Int) ^ 256 = 2 ^ (32 * 256) := by rw [Int.pow_mul]; rfl
    rw [e2]
    exact ipow_le (by decide) hN
  have p : (0 : Int) < 4294967296 ^ 256 := Int.pow_pos (by decide)
  rw [e]
  exact Int.lt_of_le_of_lt (Int.mul_le_mul_of_nonneg_left h2 h0) (Int.mul_lt_mul_of_pos_right h1 p)
theorem shl_bits {X : Int} {b N : Nat} (h : IsBits X b) (h0 : X ≠ 0) : IsBits (X * 2 ^ N) (b + N) := by
  rcases h with ⟨h1, -⟩ | ⟨h1, h2, h3⟩
  · exact absurd h1 h0
  · have p : (0 : Int) < 2 ^ N := Int.pow_pos (by decide)
    refine .inr ⟨by omega, ?_, ?_⟩
    · rw [show b + N - 1 = b - 1 + N from by omega, Int.pow_add]
      exact Int.mul_le_mul_of_nonneg_right h2 (Int.le_of_lt p)
    · rw [Int.pow_add]
      exact Int.mul_lt_mul_of_pos_right h3 p
theorem shl_half {X : Int} {b N : Nat} (h : IsHalf X b) (h0 : X ≠ 0) : IsHalf (X * 2 ^ N) (b + N) := by
  rcases h with ⟨h1, -⟩ | ⟨o, ho⟩
  · exact absurd h1 h0
  · refine .inr ⟨o, ?_⟩
    rw [ho, Int.pow_add, Int.mul_assoc, Int.mul_comm (2 * o + 1), ← Int.mul_assoc]
/-- the count of the reference's shift -/
def cutK (n : Int) : Nat := min n.toNat 2000
theorem low_eq {X n : Int} (h0 : 0 ≤ X) (h1 : X < 4294967296 ^ 20) : X / 2 ^ n.toNat = X / 2 ^ cutK n := by
  unfold cutK
  rcases Nat.lt_or_ge n.toNat 2000 with h | h
  · rw [Nat.min_eq_left (by omega)]
  · rw [two_big h0 h1 (by omega), two_big h0 h1 (by omega)]

set_option maxRecDepth 100000 in
set_option maxHeartbeats 8000000 in
theorem walk_shifts (a : Option Addr) (n c : Nat) (xs : List Int) (s : Int) (w : World) (hA : IsRow .u32 w a n c xs) (w1 : (Lit.int .i64 s).wf = true) :
    Calls Try.prog 7 #[.slice a n c, .int .i64 s] w fun e w' => e = .returned (.bool true) ∧ Below w.heap.size w w' := by
  have hs := wf_i64n w1
  obtain ⟨s1, s2⟩ := hs
  have ha := hA.row
  have hx := hA.dig
  clear hA w1
  generalize xs.take n = xs at *
  have hn : n ≤ 9223372036854775807 := by have := ha.2.1; have := ha.2.2.1; unfold maxLen at this; omega
  have HA := Lib.hid ha
  have HX := Lib.hid hx
  by_cases hl : n ≤ 20
  · have VX := V_bd (B := 4294967296) (by decide) hx
    rw [ha.1] at VX
    have X1 := Int.lt_of_lt_of_le VX.2 (ipow_le (by decide) hl)
    have HX0 := Lib.hid VX.1
    have HX1 := Lib.hid X1
    have FX := Lib.hid (fit_b32 (natAbs_lt VX.1 X1) (by decide))
    have HLOW := Lib.hid (low_eq (n := s) VX.1 X1)
    have HNum := Lib.hid (rnum_any a n c xs w ha hx (by omega))
    have HShl := Lib.hid (fun (w1 : World) (hw : Below w.heap.size w w1) => shl_all a n c s xs w1 (ha.below hw (Nat.le_refl _)) hx (by omega))
    have HShr := Lib.hid (fun (w1 : World) (hw : Below w.heap.size w w1) => shr_all a n c s xs w1 (ha.below hw (Nat.le_refl _)) hx (by omega) s2)
    have FD : Hid (Fit (((V 4294967296 xs).natAbs : Int) + 1000 * (((2 : Int) ^ cutK s).natAbs : Int) + 1000)) := Lib.hid (div_fit (k := 100) VX.1 (Int.lt_of_lt_of_le X1 (ipow_le (by decide) (by decide))) (Int.le_of_lt (Int.pow_pos (by decide))) (by
      rw [show (4294967296 : Int) = 2 ^ 32 from rfl, ← Int.pow_mul]
      have h1 : (2 : Int) ^ cutK s ≤ 2 ^ 2000 := ipow_le (by decide) (by unfold cutK; omega)
      have h2 : (2 : Int) ^ 2001 = 2 * 2 ^ 2000 := by rw [Int.pow_succ, Int.mul_comm]
      have h3 : (2 : Int) ^ 2001 ≤ 2 ^ (32 * 100) := ipow_le (by decide) (by decide)
      have h4 : (0 : Int) < 2 ^ 2000 := Int.pow_pos (by decide)
      generalize (2 : Int) ^ 2000 = P at *
      omega) (by decide))
    have HSB := Lib.hid (fun (N : Nat) (hN : N ≤ 8192) => shl_bd (N := N) VX.1 X1 hN)
    clear ha hx VX X1
    generalize hVX : V 4294967296 xs = X at *
    have HVX := Lib.hid hVX
    clear hVX
    have hk0 : (0 : Int) ≤ (cutK s : Int) := by omega
    go_enter Try.func7, Try.ntmps7
    go_wp2_with fail
    refine HNum.out.mono ?_; rintro e w1 ⟨np, pp, lp, cp, rfl, hP, hb1, -⟩
    have HP1 := Lib.hid hP
    have HB1 := Lib.hid hb1
    clear hP hb1
    go_upto_region 4 with fail
    obtain ⟨hk, hbw⟩ := one_box w1 27 #[.bool np, .slice pp lp cp]
    have HB2 := Lib.hid (HB1.out.trans (hbw.mono HB1.out.size))
    have HP2 := Lib.hid (HP1.out.below hbw (Nat.le_refl _))
    have HK2 := Lib.hid hk
    clear hk hbw HP1 HB1
    generalize w1.alloc (.cells #[.bool np, .slice pp lp cp] 27) = w2 at *
    generalize w1.heap.size = p at *
    clear w1
    go_wp2_with fail
    refine (HShl.out w2 HB2.out).mono ?_; rintro e w3 hsl
    have hsl2 : ∃ (al : Option Addr) (nl cl : Nat) (ok : Bool), e = .returned (.tuple #[.slice al nl cl, .bool ok]) ∧ Below w2.heap.size w2 w3 ∧ ((ok = false ∧ (s < 0 ∨ 8192 < s) ∧ nl = 0) ∨ (ok = true ∧ ∃ N : Nat, s = N ∧ N ≤ 8192 ∧ NatC w3 al nl cl (X * 2 ^ N))) := by
      rcases hsl with ⟨h1, h2, rfl⟩ | ⟨N, h1, h2, al, nl, cl, h3, h4, h5, -⟩
      · exact ⟨none, 0, 0, false, h2, Below.refl _ _, .inl ⟨rfl, h1, rfl⟩⟩
      · exact ⟨al, nl, cl, true, h3, h5, .inr ⟨rfl, N, h1, h2, h4⟩⟩
    obtain ⟨al, nl, cl, ok, rfl, hb3, hok⟩ := hsl2
    have HOK := Lib.hid hok
    have HB3 := Lib.hid (HB2.out.trans (hb3.mono HB2.out.size))
    have HP3 := Lib.hid (HP2.out.below hb3 (Nat.le_refl _))
    have HK3 := Lib.hid (HK2.out.below hb3 HK2.out.lt)
    clear hok hb3 HB2 HP2 HK2
    go_wp2_with fail
    refine (HShr.out w3 HB3.out).mono ?_; rintro e w4 ⟨ar, nr, cr, rfl, hR, hb4, -⟩
    rw [HLOW.out] at hR
    have HR4 := Lib.hid hR
    have HB4 := Lib.hid (HB3.out.trans (hb4.mono HB3.out.size))
    have HP4 := Lib.hid (HP3.out.below hb4 (Nat.le_refl _))
    have HK4 := Lib.hid (HK3.out.below hb4 HK3.out.lt)
    have HL34 := Lib.hid hb4
    clear hR hb4
    go_upto_region 6 with fail
    go_cut [9] (fun v wx => v = .int .i64 (cutK s : Int) ∧ w4 = wx)
    case first =>
      by_cases hs0 : s < 0
      · have e1 : (cutK s : Int) = 0 := by unfold cutK; omega
        go_wp2_with fail
        go_meet
        exact ⟨congrArg (Value.int .i64) e1.symm, rfl⟩
      · by_cases hs2 : s ≤ 2000
        · have e1 : (cutK s : Int) = s := by unfold cutK; omega
          go_wp2_with fail
          go_meet
          exact ⟨congrArg (Value.int .i64) e1.symm, rfl⟩
        · have e1 : (cutK s : Int) = 2000 := by unfold cutK; omega
          go_wp2_with fail
          go_meet
          exact ⟨congrArg (Value.int .i64) e1.symm, rfl⟩
    case rest =>
      obtain ⟨rfl, rfl⟩ := hcut
      have x0 : w4.cell? ⟨p, 0, none⟩ = some (.bool np) := HK4.out.cell 0
      have x1 : w4.cell? ⟨p, 1, none⟩ = some (.slice pp lp cp) := HK4.out.cell 1
      have hlt_p : p < w4.heap.size := HK4.out.lt
      have hkb : cutK s ≤ 900000 := by unfold cutK; omega
      have hp2 : (2 : Int) ^ cutK s ≠ 0 := Int.ne_of_gt (Int.pow_pos (by decide))
      have HP2N := Lib.hid hp2
      have HFD := Lib.hid (show X.fdiv (2 ^ cutK s) = X / 2 ^ cutK s from Int.fdiv_eq_ediv_of_nonneg _ (Int.le_of_lt (Int.pow_pos (by decide))))
      clear hp2
      have hbA : Below w4.heap.size w4 w4.drew := (Below.refl _ _).drew
      go_upto_region 7 with fail
      go_cut [10] (fun sB wx => BoxOut w4 (X / 2 ^ cutK s) sB wx)
      case first =>
        go_region_held3 (fun w' => w'.cell? ⟨p, 0, none⟩ = some (.bool np) ∧ w'.cell? ⟨p, 1, none⟩ = some (.slice pp lp cp)) (first | (with_reducible exact ⟨x0, x1⟩) | (with_reducible exact ⟨s60, s61⟩) | (with_reducible exact ⟨s50, s51⟩) | go_keep | (refine ⟨?_, ?_⟩ <;> (repeat (first | (with_reducible exact x0) | (with_reducible exact x1) | (with_reducible exact s50) | (with_reducible exact s51) | (with_reducible exact s60) | (with_reducible exact s61) | (with_reducible refine (World.cell?_alloc_lt _ _ _ ?_).trans ?_; focus ((try simp) <;> omega)) | (with_reducible refine (World.cell?_setCell_other _ _ _ _ ?_).trans ?_; focus ((try simp) <;> omega))))))
          (first
            | (go_at_call 36; refine (two_any (cutK s) _ hkb).mono ?_; rintro e w5 ⟨n5, p5, l5, c5, rfl, hN5, hb5, -⟩; have hbR1 : Below w4.heap.size w4 w5 := (by first | exact hbA.trans (hb5.mono hbA.size) | exact (hbA.alloc hbA.size _).trans (hb5.mono (Nat.le_trans hbA.size (by simp))) | exact ((hbA.alloc hbA.size _).alloc (Nat.le_trans hbA.size (by simp)) _).trans (hb5.mono (Nat.le_trans hbA.size (by simp; omega)))); have hsR1 := hbR1.size; have s50 : w5.cell? ⟨p, 0, none⟩ = some (.bool np) := (by rw [(bcell hbR1).1 _ _ hlt_p]; exact x0); have s51 : w5.cell? ⟨p, 1, none⟩ = some (.slice pp lp cp) := (by rw [(bcell hbR1).1 _ _ hlt_p]; exact x1); (first | (have HTa := Blk.keep (Blk.new w4 27 #[.bool false, .slice none 0 0]).drew hb5) | (have HTa := Blk.keep ((Blk.new w4 27 #[.bool false, .slice none 0 0]).alloc _).drew hb5) | skip); (first | (have HTb := Blk.keep (Blk.new2 w4 _ 27 #[.bool false, .slice none 0 0]).drew hb5) | skip); (try (have la5 := HTa.lt; have na5 : w4.heap.size ≠ w5.heap.size := Nat.ne_of_lt la5; have ma5 := na5.symm)); (try (have lb5 := HTb.lt)))
            | (go_at_call 19; refine (div_any _ _ _ _ _ _ _ _ X (2 ^ cutK s) _ (by first | exact HP4.out.below hbR1 (Nat.le_refl _) | exact HP4.out.below (hbR1.alloc hbR1.size _) (Nat.le_refl _) | exact HP4.out.below ((hbR1.alloc hbR1.size _).alloc (Nat.le_trans hbR1.size (by simp)) _) (Nat.le_refl _)) (by first | exact hN5 | exact hN5.below ((Below.refl _ _).alloc (Nat.le_refl _) _) (Nat.le_refl _) | exact hN5.below (((Below.refl _ _).alloc (Nat.le_refl _) _).alloc (by simp) _) (Nat.le_refl _)) HP2N.out FD.out).mono ?_; rintro e w6 ⟨n6, p6, l6, c6, n7, p7, l7, c7, rfl, hN6, -, hb6⟩; have hbR2 : Below w4.heap.size w4 w6 := (by first | exact hbR1.trans (hb6.mono hbR1.size) | exact (hbR1.alloc hbR1.size _).trans (hb6.mono (Nat.le_trans hbR1.size (by simp))) | exact ((hbR1.alloc hbR1.size _).alloc (Nat.le_trans hbR1.size (by simp)) _).trans (hb6.mono (Nat.le_trans hbR1.size (by simp; omega)))); have hsR2 := hbR2.size; have s60 : w6.cell? ⟨p, 0, none⟩ = some (.bool np) := (by rw [(bcell hbR2).1 _ _ hlt_p]; exact x0); have s61 : w6.cell? ⟨p, 1, none⟩ = some (.slice pp lp cp) := (by rw [(bcell hbR2).1 _ _ hlt_p]; exact x1); (first | (have HTa := Blk.keep HTa hb6) | (have HTa := Blk.keep (HTa.alloc _) hb6) | (have HTa := Blk.keep ((HTa.alloc _).alloc _) hb6) | skip); (first | (have HTb := Blk.keep HTb hb6) | (have HTb := Blk.keep (HTb.alloc _) hb6) | skip); (first | (have HTc := Blk.keep (Blk.new w5 27 #[.bool false, .slice none 0 0]) hb6) | (have HTc := Blk.keep ((Blk.new w5 27 #[.bool false, .slice none 0 0]).alloc _) hb6) | skip); (first | (have HTd := Blk.keep (Blk.new2 w5 _ 27 #[.bool false, .slice none 0 0]) hb6) | skip); (try (have ta0 : w6.cell? ⟨_, 0, none⟩ = some (.bool false) := HTa.cell 0; have ta1 : w6.cell? ⟨_, 1, none⟩ = some (.slice none 0 0) := HTa.cell 1; have taf := HTa.frozen; have la6 := HTa.lt)); (try (have tb0 : w6.cell? ⟨_, 0, none⟩ = some (.bool false) := HTb.cell 0; have tb1 : w6.cell? ⟨_, 1, none⟩ = some (.slice none 0 0) := HTb.cell 1; have tbf := HTb.frozen; have lb6 := HTb.lt)); (try (have tc0 : w6.cell? ⟨_, 0, none⟩ = some (.bool false) := HTc.cell 0; have tc1 : w6.cell? ⟨_, 1, none⟩ = some (.slice none 0 0) := HTc.cell 1; have tcf := HTc.frozen; have lc6 := HTc.lt)); (try (have td0 : w6.cell? ⟨_, 0, none⟩ = some (.bool false) := HTd.cell 0; have td1 : w6.cell? ⟨_, 1, none⟩ = some (.slice none 0 0) := HTd.cell 1; have tdf := HTd.frozen; have ld6 := HTd.lt))))
        all_goals go_wp2_with fail
        all_goals go_meet
        all_goals (rw [HFD.out] at hN6)
        all_goals (first | (with_reducible exact leafA1 hN6 hbR2) | (with_reducible exact leafA2 hN6 hbR2) | (with_reducible exact leafB1 hN6 hbR2 HTa (by omega)) | (with_reducible exact leafB2 hN6 hbR2 HTa (by omega)) | (with_reducible exact leafB1 hN6 hbR2 HTb (by omega)) | (with_reducible exact leafB2 hN6 hbR2 HTb (by omega)) | (with_reducible exact leafB1 hN6 hbR2 HTc (by omega)) | (with_reducible exact leafB2 hN6 hbR2 HTc (by omega)) | (with_reducible exact leafB1 hN6 hbR2 HTd (by omega)) | (with_reducible exact leafB2 hN6 hbR2 HTd (by omega)) | (with_reducible exact leafC hN6 hbR2 HTa HTb (by omega) (by omega) (by omega)) | (with_reducible exact leafC hN6 hbR2 HTb HTa (by omega) (by omega) (by omega)) | (with_reducible exact leafC hN6 hbR2 HTa HTc (by omega) (by omega) (by omega)) | (with_reducible exact leafC hN6 hbR2 HTc HTa (by omega) (by omega) (by omega)) | (with_reducible exact leafC hN6 hbR2 HTc HTd (by omega) (by omega) (by omega)) | (with_reducible exact leafC hN6 hbR2 HTd HTc (by omega) (by omega) (by omega)))
      case rest =>
        obtain ⟨t, n6, p6, l6, c6, rfl, hk, hN6, hb6⟩ := hcut
        have HB6 := Lib.hid (HB4.out.trans (hb6.mono HB4.out.size))
        have HP6 := Lib.hid (HP4.out.below hb6 (Nat.le_refl _))
        have HR6 := Lib.hid (HR4.out.below hb6 (Nat.le_refl _))
        have HK6 := Lib.hid (HK4.out.below hb6 HK4.out.lt)
        have hL36 := HL34.out.trans (hb6.mono HL34.out.size)
        have HOK6 : Hid ((ok = false ∧ (s < 0 ∨ 8192 < s) ∧ nl = 0) ∨ (ok = true ∧ ∃ N : Nat, s = N ∧ N ≤ 8192 ∧ NatC wc al nl cl (X * 2 ^ N))) := Lib.hid (by
          rcases HOK.out with h | ⟨h1, N, h2, h3, h4⟩
          · exact .inl h
          · exact .inr ⟨h1, N, h2, h3, h4.below hL36 (Nat.le_refl _)⟩)
        have hnr : nr ≤ 1000 := Nat.le_trans (HR4.out.len (k := 20) (Int.lt_of_le_of_lt (Int.ediv_le_self _ HX0.out) HX1.out)) (by decide)
        have x0' : wc.cell? ⟨t, 0, none⟩ = some (.bool n6) := hk.cell 0
        have x1' : wc.cell? ⟨t, 1, none⟩ = some (.slice p6 l6 c6) := hk.cell 1
        have HN6 := Lib.hid hN6
        clear hk hN6 hb6 hL36 HOK HR4 HP4 HK4 HB4 HL34 HK3 HP3 HB3 x0 x1 hlt_p hbA hkb HNum HShl HShr FD HLOW HFD HP2N
        go_wp2_with fail
        refine (ris2_any _ _ _ _ _ _ _ _ wc HR6.out HN6.out hnr).mono ?_; rintro e w7 ⟨rfl, hb7⟩
        have HB7 := Lib.hid (HB6.out.trans (hb7.mono HB6.out.size))
        have HP7 := Lib.hid (HP6.out.below hb7 (Nat.le_refl _))
        have HK7 := Lib.hid (HK6.out.below hb7 HK6.out.lt)
        have HOK7 : Hid ((ok = false ∧ (s < 0 ∨ 8192 < s) ∧ nl = 0) ∨ (ok = true ∧ ∃ N : Nat, s = N ∧ N ≤ 8192 ∧ NatC w7 al nl cl (X * 2 ^ N))) := Lib.hid (by
          rcases HOK6.out with h | ⟨h1, N, h2, h3, h4⟩
          · exact .inl h
          · exact .inr ⟨h1, N, h2, h3, h4.below hb7 (Nat.le_refl _)⟩)
        clear hb7 HOK6 HB6 HP6 HR6 HK6 HN6 x0' x1'
        rcases HOK7.out with ⟨rfl, hsr, rfl⟩ | ⟨rfl, N, rfl, hN, hNL⟩
        · clear HOK7
          rcases hsr with hsr | hsr
          · go_wp2_with fail
            refine (awake_nat w7).mono ?_; rintro e w8 ⟨rfl, hb8⟩
            have HB8 := Lib.hid (HB7.out.trans (hb8.mono HB7.out.size))
            clear hb8
            go_wp2_with fail
            go_ret
            exact ⟨rfl, HB8.out⟩
          · have hsr2 : ¬ s < 0 := by omega
            go_wp2_with fail
            refine (awake_nat w7).mono ?_; rintro e w8 ⟨rfl, hb8⟩
            have HB8 := Lib.hid (HB7.out.trans (hb8.mono HB7.out.size))
            clear hb8
            go_wp2_with fail
            go_ret
            exact ⟨rfl, HB8.out⟩
        · clear HOK7
          have hN1 : ¬ ((N : Int) < 0) := by omega
          have hN2 : ¬ ((8192 : Int) < N) := by omega
          have hnl : nl ≤ 276 := hNL.len (HSB.out N hN)
          have HNL := Lib.hid hNL
          clear hNL
          by_cases hbig : 2000 < N
          · have hbig1 : (2000 : Int) < N := by omega
            obtain ⟨ls, hlr, hld, hlv, -⟩ := HNL.out.tl
            have hshr := shr_all al nl cl (N : Int) ls w7 hlr hld (by omega) (by omega)
            rw [hlv, show (N : Int).toNat = N from rfl, Int.mul_ediv_cancel _ (Int.ne_of_gt (Int.pow_pos (by decide)))] at hshr
            have HSHR := Lib.hid hshr
            have HLD := Lib.hid hld
            have HLV := Lib.hid hlv
            have HLR := Lib.hid hlr
            clear hlr hld hlv hshr
            go_wp2_with fail
            refine HSHR.out.mono ?_; rintro e w8 ⟨a8, n8, c8, rfl, hN8, hb8, -⟩
            have HB8 := Lib.hid (HB7.out.trans (hb8.mono HB7.out.size))
            have HP8 := Lib.hid (HP7.out.below hb8 (Nat.le_refl _))
            have HK8 := Lib.hid (HK7.out.below hb8 HK7.out.lt)
            have HLR8 := Lib.hid (HLR.out.below hb8 (Nat.le_refl _))
            obtain ⟨es, her, hed, hev, -⟩ := hN8.tl
            have hcm := ncmp_any a8 a n8 c8 n c es xs w8 her (HA.out.below HB8.out (Nat.le_refl _)) hed HX.out
            rw [hev, HVX.out, cmpZ_eq rfl] at hcm
            have HCM := Lib.hid hcm
            clear hb8 hN8 her hed hev hcm HP7 HK7 HLR HB7 HSHR
            go_wp2_with fail
            refine HCM.out.mono ?_; rintro e w9 ⟨rfl, hb9⟩
            have HB9 := Lib.hid (HB8.out.trans (hb9.mono HB8.out.size))
            have HP9 := Lib.hid (HP8.out.below hb9 (Nat.le_refl _))
            have HK9 := Lib.hid (HK8.out.below hb9 HK8.out.lt)
            have HLR9 := Lib.hid (HLR8.out.below hb9 (Nat.le_refl _))
            clear hb9 HP8 HK8 HLR8 HB8 HCM
            have z1 : w9.cell? ⟨p, 1, none⟩ = some (.slice pp lp cp) := HK9.out.cell 1
            by_cases hX0 : X = 0
            · rw [hX0] at HP9
              have hlp := HP9.out.none0
              subst hlp
              clear hX0
              go_wp2_with fail
              refine (awake_nat w9).mono ?_; rintro e w10 ⟨rfl, hb10⟩
              have HB10 := Lib.hid (HB9.out.trans (hb10.mono HB9.out.size))
              clear hb10
              go_wp2_with fail
              go_ret
              exact ⟨rfl, HB10.out⟩
            · have hlp := HP9.out.some0 hX0
              have hlp1 : ((lp : Int) == 0) = false := by simp; omega
              have hb1 := bits_any al nl cl ls w9 HLR9.out HLD.out (by omega)
              have hb2 := bits_any a n c xs w9 (HA.out.below HB9.out (Nat.le_refl _)) HX.out (by omega)
              have hh1 := noughts_any al nl cl ls w9 HLR9.out HLD.out (by omega)
              have hh2 := noughts_any a n c xs w9 (HA.out.below HB9.out (Nat.le_refl _)) HX.out (by omega)
              rw [HLV.out] at hb1 hh1
              rw [HVX.out] at hb2 hh2
              have HB1 := Lib.hid hb1
              have HB2 := Lib.hid hb2
              have HH1 := Lib.hid hh1
              have HH2 := Lib.hid hh2
              have HX0' := Lib.hid hX0
              clear hb1 hb2 hh1 hh2 hX0
              go_wp2_with fail
              refine HB1.out.mono ?_; rintro e w10 ⟨b1, rfl, rfl, hbb1⟩
              have HBB1 := Lib.hid hbb1
              clear hbb1
              go_wp2_with fail
              refine HB2.out.mono ?_; rintro e w10 ⟨b2, rfl, rfl, hbb2⟩
              have hbe : b1 = b2 + N := HBB1.out.unique (shl_bits hbb2 HX0'.out)
              subst hbe
              have hbw : ((b2 + N : Nat) : Int) ≤ 9223372036854775807 := by
                have h1 := shl_bits (N := N) hbb2 HX0'.out
                rcases h1 with ⟨h2, h3⟩ | ⟨h2, h3, h4⟩
                · omega
                · have h5 := HSB.out N hN
                  have h6 : b2 + N ≤ 8832 := by
                    rcases Nat.lt_or_ge 8832 (b2 + N) with h7 | h7
                    · have h8 : (2 : Int) ^ 8832 ≤ 2 ^ (b2 + N - 1) := ipow_le (by decide) (by omega)
                      have e2 : (4294967296 : Int) ^ 276 = 2 ^ (32 * 276) := by rw [Int.pow_mul]; rfl
                      rw [e2] at h5
                      omega
                    · exact h7
                  omega
              clear hbb2 HBB1
              go_wp2_with fail
              refine HH1.out.mono ?_; rintro e w10 ⟨h1, rfl, rfl, hhb1⟩
              have HHB1 := Lib.hid hhb1
              clear hhb1
              go_wp2_with fail
              refine HH2.out.mono ?_; rintro e w10 ⟨h2, rfl, rfl, hhb2⟩
              have hhe : h1 = h2 + N := HHB1.out.unique (shl_half hhb2 HX0'.out)
              subst hhe
              have hhw : ((h2 + N : Nat) : Int) ≤ 9223372036854775807 := by
                rcases hhb2 with ⟨h3, -⟩ | ⟨o, ho⟩
                · exact absurd h3 HX0'.out
                · have h5 := HX1.out
                  have h6 : h2 < 640 := by
                    rcases Nat.lt_or_ge h2 640 with h7 | h7
                    · exact h7
                    · have h8 : (2 : Int) ^ 640 ≤ 2 ^ h2 := ipow_le (by decide) h7
                      have h9 := HX0.out
                      have h10 : (0 : Int) < 2 ^ h2 := Int.pow_pos (by decide)
                      have h11 : 0 < 2 * o + 1 := by
                        rcases Int.lt_or_le 0 (2 * o + 1) with h12 | h12
                        · exact h12
                        · have := Int.mul_nonneg (Int.le_of_lt h10) (show 0 ≤ -(2 * o + 1) by omega)
                          rw [Int.mul_neg, ← ho] at this
                          exact absurd (show X = 0 by omega) HX0'.out
                      have h13 := Int.mul_le_mul_of_nonneg_left (show 1 ≤ 2 * o + 1 by omega) (Int.le_of_lt h10)
                      rw [← ho, Int.mul_one] at h13
                      have e2 : (4294967296 : Int) ^ 20 = 2 ^ (32 * 20) := by rw [Int.pow_mul]; rfl
                      rw [e2] at h5
                      exact absurd h5 (by have := Int.le_trans h8 h13; omega)
                  omega
              clear hhb2 HHB1
              go_wp2_with fail
              refine (awake_nat w9).mono ?_; rintro e w10 ⟨rfl, hb10⟩
              have HB10 := Lib.hid (HB9.out.trans (hb10.mono HB9.out.size))
              clear hb10
              go_wp2_with fail
              go_ret
              exact ⟨rfl, HB10.out⟩
          · have hbig1 : ¬ ((2000 : Int) < N) := by omega
            have y0 : w7.cell? ⟨p, 0, none⟩ = some (.bool np) := HK7.out.cell 0
            have y1 : w7.cell? ⟨p, 1, none⟩ = some (.slice pp lp cp) := HK7.out.cell 1
            have hlt_p : p < w7.heap.size := HK7.out.lt
            have hbA : Below w7.heap.size w7 w7.drew := (Below.refl _ _).drew
            have hkb : N ≤ 900000 := by omega
            have F2 := Lib.hid (fit_two hkb)
            have hnl2 : nl ≤ 1000 := by omega
            go_wp2_with fail
            go_region_held3 (fun w' => w'.cell? ⟨p, 0, none⟩ = some (.bool np) ∧ w'.cell? ⟨p, 1, none⟩ = some (.slice pp lp cp)) (go_keep)
              (first
                | (go_at_call 36; refine (two_any N _ hkb).mono ?_; rintro e w8 ⟨n8, a8, l8, c8, rfl, hM8, hb8, -⟩; replace hbA := hbA.trans (hb8.mono (Nat.le_trans (by simp) hbA.size)); clear hb8; obtain ⟨bc8, bf8⟩ := bcell hbA)
                | (go_at_call 29; refine (mul_any _ _ _ _ _ _ _ _ X (2 ^ N) _ (HP7.out.below hbA (Nat.le_refl _)) hM8 FX.out F2.out).mono ?_; rintro e w8 ⟨m8, b8, l8, d8, rfl, hS8, hb8, -⟩; replace hbA := hbA.trans (hb8.mono (Nat.le_trans (by simp) hbA.size)); clear hb8 bc8 bf8; obtain ⟨bc8, bf8⟩ := bcell hbA)
                | (go_at_call 20; refine (ris2_any _ _ _ _ _ _ _ _ _ (HNL.out.below hbA (Nat.le_refl _)) hS8 hnl2).mono ?_; rintro e w9 ⟨rfl, hb9⟩; clear hM8 hS8; replace hbA := hbA.trans (hb9.mono (Nat.le_trans (by simp) hbA.size)); clear hb9 bc8 bf8; obtain ⟨bc8, bf8⟩ := bcell hbA)
                | (go_at_call 16; refine (awake_nat _).mono ?_; rintro e w9 ⟨rfl, hb9⟩; replace hbA := hbA.trans (hb9.mono (Nat.le_trans (by simp) hbA.size)); clear hb9 bc8 bf8; obtain ⟨bc8, bf8⟩ := bcell hbA))
            all_goals
              clear bc8 bf8
              have HBE := Lib.hid (HB7.out.trans (hbA.mono HB7.out.size))
              clear hbA
              go_wp2_with fail
              go_ret
              exact ⟨rfl, HBE.out⟩
  · clear ha hx
    go_enter Try.func7, Try.ntmps7
    go_wp2_with fail
    refine (awake_nat w).mono ?_; rintro e w1 ⟨rfl, hb1⟩
    have HB1 := Lib.hid hb1
    clear hb1
    go_wp2_with fail
    go_ret
    exact ⟨rfl, HB1.out⟩
end Go.Proofs.Ytnbhcemgoifkgaa
