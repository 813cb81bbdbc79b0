/- The contract of package bushelref44's Parse. Condition: a text of at most 100000 bytes. -/
import Derived.Test.YtdbkgpakpadloaaGreatDoorRpG
namespace Go.Proofs.YtdbkgpakpadloaaGreatDoor
open Go.RowKit Ieee

theorem tv_small {s : ByteArray} (h : OkText s) (h4 : s.size ≤ 4) : ∀ i, i ≤ s.size → 0 ≤ tv s i ∧ tv s i < 10000 := by
  have key : ∀ i, i ≤ s.size → 0 ≤ tv s i ∧ tv s i < 10 ^ i := by
    intro i
    induction i with
    | zero => intro _; exact ⟨Int.le_refl _, by show (0 : Int) < 10 ^ 0; decide⟩
    | succ i ih =>
      intro hi
      obtain ⟨h0, h1⟩ := ih (by omega)
      have h2 := h.2.2.2 i (by omega)
      rw [Int.pow_succ]
      show 0 ≤ tv s i * 10 + (sb s i - 48) ∧ tv s i * 10 + (sb s i - 48) < _
      omega
  intro i hi
  obtain ⟨h0, h1⟩ := key i hi
  have h2 : (10 : Int) ^ i ≤ 10 ^ 4 := ipow_le (by decide) (by omega)
  have h3 : (10 : Int) ^ 4 = 10000 := by decide
  omega
def C64 : ByteArray → Nat → Prop := fun _ x => x < 18446744073709551616
set_option maxRecDepth 100000 in
set_option maxHeartbeats 8000000 in
theorem rparse_any (s : ByteArray) (w : World) (hs : s.size ≤ 100000) : Calls Tryz.prog 7 #[.string s] w (RParse C64 s w) := by
  by_cases hn : s = txNone
  · subst hn
    have t0 : (txNone.toList == [110, 111, 110, 101]) = true := by rw [Lib.toList_data]; rfl
    obtain ⟨r, hr, hr2, hrun⟩ := run_float_nan .quo 22 0 0 (by rfl) (.inr (.inr (.inr rfl))) w
    go_enter Tryz.func7, Tryz.ntmps7
    go_wp2_with fail
    go_ret2
    exact ⟨_, true, rfl, hr, .inl ⟨rfl, rfl, kind3.2 hr2⟩, blk_dn (Below.refl _ _) 1⟩
  have t0 : (s.toList == [110, 111, 110, 101]) = false := eq_list fun h => hn (lb_inj h)
  have HN := Lib.hid hn
  have HS := Lib.hid hs
  have HBP := Lib.hid (bdy_plain (s := s))
  have HBM := Lib.hid (bdy_minus (s := s))
  have HR0 := Lib.hid (real_zero (s := s))
  have HRI := Lib.hid (real_infi (s := s))
  have HSH := Lib.hid (fun x (h : IsReal x s) (hx : x < 18446744073709551616) hz hi => real_shape h hx hn hz hi)
  clear hn
  by_cases hp0 : 0 < s.size
  · have v0 : decide ((0 : Int) < (s.size : Int)) = true := decide_eq_true (by omega)
    have v0' : decide (0 < s.size) = true := decide_eq_true hp0
    have hc := sb_at hp0
    obtain ⟨c, hce⟩ : ∃ c : Int, ((s[0]'hp0).toNat : Int) = c := ⟨_, rfl⟩
    rw [hce] at hc
    by_cases h45 : c = 45
    · have hq : (((s[0]'hp0).toNat : Int) == 45) = true := by rw [hce, h45]; rfl
      have hbd := HBM.out hp0 (by rw [hc]; exact h45)
      have hsz : (s.extract 1 s.size).size = s.size - 1 := by rw [ByteArray.size_extract]; omega
      obtain ⟨BD, hBD⟩ : ∃ b, s.extract 1 s.size = b := ⟨_, rfl⟩
      rw [hBD] at hsz hbd
      have hlt : decide ((BD.size : Int) < (s.size : Int)) = true := decide_eq_true (by omega)
      have hlt' : decide (BD.size < s.size) = true := decide_eq_true (by omega)
      have HSZ : Hid (BD.size ≤ 100000) := Lib.hid (by omega)
      clear hc hce h45 HBP HBM hsz
      go_enter Tryz.func7, Tryz.ntmps7
      have HBD : Hid (bdy s = lb BD ∧ ngB s = true) := Lib.hid hbd
      clear hbd
      by_cases hz : lb BD = [48]
      · have t1 : (BD.toList == [48]) = true := by rw [Lib.toList_data, beq_iff_eq]; exact hz
        have HX := HR0.out (by rw [HBD.out.1]; exact hz)
        rw [HBD.out.2] at HX
        have HX := Lib.hid HX
        have HSG := Lib.hid (fun w => rsign_any true 0 w (by decide))
        clear hz
        go_wp2_with fail
        refine (HSG.out _).mono ?_; rintro e w7 ⟨rfl, rfl⟩
        go_wp2_with fail
        go_ret2
        exact PO.yes HN.out HX.out (by decide) (Below.refl _ _)
      have t1 : (BD.toList == [48]) = false := eq_list hz
      by_cases hi : lb BD = [105, 110, 102, 105, 110, 105, 116, 121]
      · have t2 : (BD.toList == [105, 110, 102, 105, 110, 105, 116, 121]) = true := by rw [Lib.toList_data, beq_iff_eq]; exact hi
        have HX := HRI.out (by rw [HBD.out.1]; exact hi)
        rw [HBD.out.2] at HX
        have HX := Lib.hid HX
        have HSG := Lib.hid (fun w => rsign_any true INF w (by decide))
        have hqb : floatBits .quo .f64 4607182418800017408 0 = some INF := by rw [quo_zero (b := 0) (by decide) (by decide)]; rfl
        have hq := run_float_arith (P := Tryz.prog) w .quo 22 .f64 4607182418800017408 0 _ hqb
        clear hz hi
        go_wp2_with fail
        refine (HSG.out _).mono ?_; rintro e w7 ⟨rfl, rfl⟩
        go_wp2_with fail
        go_ret2
        exact PO.yes HN.out HX.out (by decide) (Below.refl _ _)
      have t2 : (BD.toList == [105, 110, 102, 105, 110, 105, 116, 121]) = false := eq_list hi
      have HSH2 : Hid (∀ x, x < 18446744073709551616 → IsReal x s → ∃ t u e, lb BD = lb t ++ 112 :: lb u ∧ OkText t ∧ t.size ≤ 16 ∧ IsNum e u ∧ -1074 ≤ e ∧ e ≤ 1023 ∧ x = joinN true (tv t t.size).toNat e) := Lib.hid (fun x hx h => by
        have := HSH.out x h hx (by rw [HBD.out.1]; exact hz) (by rw [HBD.out.1]; exact hi)
        rw [HBD.out.1, HBD.out.2] at this
        exact this)
      clear hz hi
      have HDG := Lib.hid (fun w => rdigits_any BD 16 w (by have := HSZ.out; omega))
      obtain ⟨R, hR⟩ : ∃ r, dgt BD 16 = r := ⟨_, rfl⟩
      rw [hR] at HDG
      have HRR := Lib.hid hR
      clear hR
      go_wp2_with fail
      refine (HDG.out _).mono ?_; rintro e w2 ⟨rfl, rfl⟩
      by_cases r0 : R < 0
      · have u0 : decide (R < 0) = true := decide_eq_true r0
        have HX := Lib.hid r0
        clear r0
        go_wp2_with fail
        go_ret2
        exact PO.no HN.out (fun x hx hxr => by
          obtain ⟨t, u, e, h1, h2, h3, -⟩ := HSH2.out x hx hxr
          have h4 := shape_dgt h1 h2 h3
          rw [HRR.out] at h4
          have := HX.out; omega) (Below.refl _ _)
      have u0 : decide (R < 0) = false := decide_eq_false r0
      have hp := dgt_pos (s := BD) (most := 16) (by rw [HRR.out]; exact r0)
      have hpre := pre_ok (s := BD) (most := 16) (by rw [HRR.out]; exact r0) (by decide)
      clear r0
      obtain ⟨n, hnd⟩ : ∃ n, nd BD = n := ⟨_, rfl⟩
      rw [hnd] at hp hpre
      obtain ⟨hp1, hp2, hp3, -⟩ := hp
      rw [HRR.out] at hp1
      subst hp1
      have HND := Lib.hid hnd
      have HPRE := Lib.hid hpre
      have HP := Lib.hid (And.intro hp2 hp3)
      clear hnd hpre hp2 hp3
      by_cases r1 : BD.size ≤ n
      · have u1 : decide ((BD.size : Int) ≤ (n : Int)) = true := decide_eq_true (by omega)
        have u1' : decide (BD.size ≤ n) = true := decide_eq_true r1
        have HX := Lib.hid r1
        clear r1
        go_wp2_with fail
        go_ret2
        exact PO.no HN.out (fun x hx hxr => by
          obtain ⟨t, u, e, h1, h2, h3, -⟩ := HSH2.out x hx hxr
          obtain ⟨h4, h5, -⟩ := shape_digits h1 h2
          rw [HND.out] at h4
          have := HX.out; omega) (Below.refl _ _)
      have u1 : decide ((BD.size : Int) ≤ (n : Int)) = false := decide_eq_false (by omega)
      have u1' : decide (BD.size ≤ n) = false := decide_eq_false r1
      have r1' : n < BD.size := by omega
      have hc := sb_at r1'
      obtain ⟨c, hce⟩ : ∃ c : Int, ((BD[n]'r1').toNat : Int) = c := ⟨_, rfl⟩
      rw [hce] at hc
      have HC := Lib.hid hc
      clear hc
      by_cases hcp : c = 112
      rotate_left
      · have hq : (((BD[n]'r1').toNat : Int) == 112) = false := by rw [hce]; simpa using hcp
        have HX := Lib.hid hcp
        clear hcp r1 hce
        go_wp2_with fail
        go_ret2
        exact PO.no HN.out (fun x hx hxr => by
          obtain ⟨t, u, e, h1, h2, h3, -⟩ := HSH2.out x hx hxr
          obtain ⟨h4, h5, h6, -⟩ := shape_digits h1 h2
          rw [HND.out] at h4
          rw [← h4, HC.out] at h6
          exact HX.out h6) (Below.refl _ _)
      have hq : (((BD[n]'r1').toNat : Int) == 112) = true := by rw [hce, hcp]; rfl
      clear hcp hce
      obtain ⟨T, hT⟩ : ∃ t, BD.extract 0 n = t := ⟨_, rfl⟩
      obtain ⟨U, hU⟩ : ∃ t, BD.extract (n + 1) BD.size = t := ⟨_, rfl⟩
      rw [hT] at HPRE
      have HUS : Hid (U.size ≤ 100000) := Lib.hid (by rw [← hU, ByteArray.size_extract]; have := HSZ.out; omega)
      have HSH3 : Hid (∀ x, x < 18446744073709551616 → IsReal x s → ∃ e, IsNum e U ∧ -1074 ≤ e ∧ e ≤ 1023 ∧ x = joinN true (tv T T.size).toNat e) := Lib.hid (fun x hx h => by
        obtain ⟨t, u, e, h1, h2, h3, h4, h5, h6, h7⟩ := HSH2.out x hx h
        obtain ⟨k1, -, -, k4, k5⟩ := shape_digits h1 h2
        rw [HND.out] at k1
        obtain rfl : u = U := lb_inj (by rw [← hU, lb_from, k1, k5])
        obtain rfl : t = T := lb_inj (by rw [← hT, lb_pre, k1, k4])
        exact ⟨e, h4, h5, h6, h7⟩)
      have hw1 : wrap64 ((n : Int) + 1) = ((n + 1 : Nat) : Int) := by have := HP.out; unfold wrap64; omega
      have HRE := Lib.hid (fun w => rread_any T w (by have := HPRE.out.2; have := HP.out; omega))
      have hTT := tv_bound HPRE.out.1 (k := 16) (by rw [HPRE.out.2]; exact HP.out.2)
      have HTT := Lib.hid hTT
      clear hTT
      go_wp2_with fail
      refine (HRE.out _).mono ?_; rintro e w3 ⟨nn, a3, l3, c3, hcs, hb3⟩
      rcases hcs with ⟨-, rfl, hN⟩ | ⟨hno, -⟩
      rotate_left
      · exact absurd HPRE.out.1 hno
      obtain ⟨hbx, hbw, hsz⟩ := boxed44 w3 61 #[.bool nn, .slice a3 l3 c3]
      have e0 := hbx 0
      have e1 := hbx 1
      simp only [List.getElem?_toArray, List.getElem?_cons_zero, List.getElem?_cons_succ] at e0 e1
      obtain ⟨M, hM⟩ : ∃ M : Nat, tv T T.size = (M : Int) := ⟨(tv T T.size).toNat, by have := HTT.out.1; omega⟩
      rw [hM] at hN HTT
      have HSH4 : Hid (∀ x, x < 18446744073709551616 → IsReal x s → ∃ e, IsNum e U ∧ -1074 ≤ e ∧ e ≤ 1023 ∧ x = joinN true M e) := Lib.hid (fun x hx h => by
        have := HSH3.out x hx h
        rw [hM, Int.toNat_natCast] at this
        exact this)
      have HM2 : Hid (M < 2 ^ 64) := Lib.hid (by
        have h1 := HTT.out.2
        have h2 : (10 : Int) ^ 16 = 10000000000000000 := by decide
        have h3 : (2 : Nat) ^ 64 = 18446744073709551616 := by decide
        omega)
      have HN3 := Lib.hid (hN.below hbw (Nat.le_refl _))
      have HB3 := Lib.hid (hb3.trans (hbw.mono hb3.size))
      have HE01 := Lib.hid (And.intro e0 e1)
      clear hbx hbw hsz hM hN hb3
      by_cases hu : 0 < U.size
      rotate_left
      · have ub : ngB U = false ∧ bdy U = lb U := (bdy_plain (.inl (by omega))).symm
        have z0 : decide ((0 : Int) < (U.size : Int)) = false := decide_eq_false (by omega)
        have z0' : decide (0 < U.size) = false := decide_eq_false hu
        have HEX : Hid (∀ x, x < 18446744073709551616 → IsReal x s → ∃ e, ExpOf U false e ∧ -1074 ≤ e ∧ e ≤ 1023 ∧ x = joinN true M e) := Lib.hid (fun x hx h => by
          obtain ⟨e, h1, h2, h3, h4⟩ := HSH4.out x hx h
          have := exp_of (V := U) h1 h2 h3 ub.2.symm
          rw [ub.1] at this
          exact ⟨e, this, h2, h3, h4⟩)
        clear ub
        have HDG2 := Lib.hid (fun w => rdigits_any U 4 w (by have := HUS.out; omega))
        obtain ⟨R2, hR2⟩ : ∃ r, dgt U 4 = r := ⟨_, rfl⟩
        rw [hR2] at HDG2
        have HRR2 := Lib.hid hR2
        clear hR2
        go_upto_region 1 with fail
        generalize (w3.alloc (.cells #[.bool nn, .slice a3 l3 c3] 61)) = w4 at *
        generalize w3.heap.size = g at *
        clear e0 e1
        go_wp2_with fail
        refine (HDG2.out _).mono ?_; rintro e w5 ⟨rfl, rfl⟩
        by_cases s0 : R2 < 0
        · have u2 : decide (R2 < 0) = true := decide_eq_true s0
          have HX := Lib.hid s0
          clear s0
          go_wp2_with fail
          go_ret2
          exact PO.no HN.out (fun x hx hxr => by
            obtain ⟨e, ⟨k1, k2, k3⟩, k4, k5, k6⟩ := HEX.out x hx hxr
            have k7 := ok_dgt k1 k2
            rw [HRR2.out] at k7
            have := HX.out; omega) HB3.out
        have u2 : decide (R2 < 0) = false := decide_eq_false s0
        have hp := dgt_pos (s := U) (most := 4) (by rw [HRR2.out]; exact s0)
        have hpre := pre_ok (s := U) (most := 4) (by rw [HRR2.out]; exact s0) (by decide)
        clear s0
        obtain ⟨k, hnd⟩ : ∃ n, nd U = n := ⟨_, rfl⟩
        have hkz := (nd_all U).1
        rw [hnd] at hp hpre hkz
        obtain ⟨hp1, hp2, hp3, -⟩ := hp
        rw [HRR2.out] at hp1
        subst hp1
        by_cases s1 : k < U.size
        · have u3 : decide ((k : Int) < (U.size : Int)) = true := decide_eq_true (by omega)
          have u3' : decide (k < U.size) = true := decide_eq_true s1
          have HX := Lib.hid s1
          clear s1 hp2 hp3 hpre hnd hkz
          go_wp2_with fail
          go_ret2
          exact PO.no HN.out (fun x hx hxr => by
            obtain ⟨e, ⟨k1, k2, k3⟩, k4, k5, k6⟩ := HEX.out x hx hxr
            have k7 := ok_dgt k1 k2
            rw [HRR2.out] at k7
            have := HX.out; omega) HB3.out
        have u3 : decide ((k : Int) < (U.size : Int)) = false := decide_eq_false (by omega)
        have u3' : decide (k < U.size) = false := decide_eq_false s1
        have hkv : k = U.size := by omega
        have hok : OkText U := by
          have : U.extract 0 k = U := lb_inj (by rw [lb_pre, hkv, ← lb_size, List.take_length])
          rw [this] at hpre
          exact hpre.1
        have HTS := Lib.hid (tv_small hok (by omega))
        have HK4 : Hid (k ≤ 4) := Lib.hid hp3
        have HKV := Lib.hid hkv
        have HOK := Lib.hid hok
        clear s1 hp2 hp3 hpre hnd hkz hok hkv
        go_wp2_with fail
        go_loopg [12, 13] U.size (fun g2 e i wr => wr = w4 ∧ ∃ j : Nat, i = .int .i64 (j : Int) ∧ j + g2 = U.size ∧ e = .int .i64 (tv U j))
        case atStart => exact ⟨rfl, 0, rfl, by omega, rfl⟩
        case round =>
          obtain ⟨rfl, j, rfl, hj, rfl⟩ := hrel
          by_cases hlt : j < k
          · have hjV : j < U.size := by have := HKV.out; omega
            obtain ⟨hb0, hb1⟩ := HTS.out j (by omega)
            have hsd := HOK.out.2.2.2 j hjV
            have hc2 := sb_at hjV
            obtain ⟨c2, hc2e⟩ : ∃ c : Int, ((U[j]'hjV).toNat : Int) = c := ⟨_, rfl⟩
            rw [hc2e] at hc2
            rw [hc2] at hsd
            have HTN : Hid (tv U (j + 1) = 10 * tv U j + c2 - 48) := Lib.hid (by show tv U j * 10 + (sb U j - 48) = _; rw [hc2]; omega)
            obtain ⟨y, hy⟩ : ∃ y, tv U j = y := ⟨_, rfl⟩
            rw [hy] at hb0 hb1 HTN
            rw [hy]
            obtain ⟨hs1, hs2⟩ := hsd
            have HJ := Lib.hid hj
            have l0 : decide ((j : Int) < (k : Int)) = true := decide_eq_true (by omega)
            have l0' : decide (j < k) = true := decide_eq_true hlt
            have hk4 := HK4.out
            have hg1 : 1 ≤ gk := by omega
            clear hj hc2 hy
            go_wp2_with fail
            go_roundg (gk - 1)
            case measure => omega
            case rel => exact ⟨rfl, j + 1, by go_num, by have := HJ.out; omega, by rw [HTN.out]⟩
          · obtain rfl : j = k := by have := HKV.out; omega
            obtain ⟨hb0, hb1⟩ := HTS.out j (by omega)
            obtain ⟨E, hE⟩ : ∃ E, tv U j = E := ⟨_, rfl⟩
            rw [hE] at hb0 hb1
            rw [hE]
            have HEE : Hid (tv U U.size = E) := Lib.hid (by rw [← HKV.out]; exact hE)
            have HEV : Hid (∀ e, ExpOf U false e → e = E) := Lib.hid (fun e h => by rw [h.2.2, HEE.out, if_neg (by decide)])
            clear hE hj hlt
            have l0 : decide ((j : Int) < (j : Int)) = false := decide_eq_false (by omega)
            have en0 : (0 : Int) ≤ E := hb0
            by_cases x1 : E < -1074
            · exfalso; omega
            have y1 : decide (E < -1074) = false := decide_eq_false x1
            by_cases x2 : 1023 < E
            · have y2 : decide (1023 < E) = true := decide_eq_true x2
              have HX := Lib.hid x2
              clear x1 x2
              go_wp2_with fail
              go_ret2
              exact PO.no HN.out (fun x hx hxr => by
                obtain ⟨e, h1, h2, h3, -⟩ := HEX.out x hx hxr
                have := HEV.out e h1
                have := HX.out; omega) HB3.out
            have y2 : decide (1023 < E) = false := decide_eq_false x2
            clear x1 x2
            have HJN := Lib.hid (rjoin_any true nn a3 l3 c3 M 64 E wr HN3.out HM2.out (by decide))
            obtain ⟨f0, f1⟩ := HE01.out
            obtain ⟨X, hX⟩ : ∃ x, joinN true M E = x := ⟨_, rfl⟩
            have hXl : X < 18446744073709551616 := by rw [← hX]; exact join_lt44 _ _ _
            rw [hX] at HJN
            have HXE := Lib.hid hX
            have HXL := Lib.hid hXl
            clear hX hXl
            go_wp2_with fail
            refine (HJN.out).mono ?_; rintro e w7 ⟨rfl, hb7⟩
            have HB7 := Lib.hid (HB3.out.trans (hb7.mono HB3.out.size))
            clear hb7 f0 f1
            go_wp2_with fail
            refine (rreal_txt X _ HXL.out).mono ?_; rintro e w8 ⟨r, rfl, hr, hb8⟩
            have HR := Lib.hid hr
            have HB8 := Lib.hid (HB7.out.trans (hb8.mono HB7.out.size))
            clear hr hb8
            by_cases hrs : r = s
            · subst hrs
              go_wp2_with fail
              go_ret2
              exact PO.yes HN.out HR.out HXL.out HB8.out
            · have t9 : (r.toList == s.toList) = false := by rw [Lib.toList_data s]; exact eq_list fun h => hrs (lb_inj h)
              have HRS := Lib.hid hrs
              clear hrs
              go_wp2_with fail
              go_ret2
              exact PO.no HN.out (fun x hx hxr => HRS.out (by
                obtain ⟨e, h1, -, -, h4⟩ := HEX.out x hx hxr
                rw [HEV.out e h1, HXE.out] at h4
                rw [h4] at hxr
                exact HR.out.one hxr)) HB8.out
      have z0 : decide ((0 : Int) < (U.size : Int)) = true := decide_eq_true (by omega)
      have z0' : decide (0 < U.size) = true := decide_eq_true hu
      have hd := sb_at hu
      obtain ⟨d, hde⟩ : ∃ d : Int, ((U[0]'hu).toNat : Int) = d := ⟨_, rfl⟩
      rw [hde] at hd
      by_cases hd45 : d = 45
      · have ub := (bdy_minus hu (by rw [hd]; exact hd45)).symm
        have qd : (((U[0]'hu).toNat : Int) == 45) = true := by rw [hde, hd45]; rfl
        obtain ⟨V, hV⟩ : ∃ v, U.extract 1 U.size = v := ⟨_, rfl⟩
        rw [hV] at ub
        have HVS : Hid (V.size ≤ 100000) := Lib.hid (by rw [← hV, ByteArray.size_extract]; have := HUS.out; omega)
        clear hd45 hde
        have HEX : Hid (∀ x, x < 18446744073709551616 → IsReal x s → ∃ e, ExpOf V true e ∧ -1074 ≤ e ∧ e ≤ 1023 ∧ x = joinN true M e) := Lib.hid (fun x hx h => by
          obtain ⟨e, h1, h2, h3, h4⟩ := HSH4.out x hx h
          have := exp_of (V := V) h1 h2 h3 ub.2.symm
          rw [ub.1] at this
          exact ⟨e, this, h2, h3, h4⟩)
        clear ub
        have HDG2 := Lib.hid (fun w => rdigits_any V 4 w (by have := HVS.out; omega))
        obtain ⟨R2, hR2⟩ : ∃ r, dgt V 4 = r := ⟨_, rfl⟩
        rw [hR2] at HDG2
        have HRR2 := Lib.hid hR2
        clear hR2
        go_upto_region 1 with fail
        generalize (w3.alloc (.cells #[.bool nn, .slice a3 l3 c3] 61)) = w4 at *
        generalize w3.heap.size = g at *
        clear e0 e1
        go_wp2_with fail
        refine (HDG2.out _).mono ?_; rintro e w5 ⟨rfl, rfl⟩
        by_cases s0 : R2 < 0
        · have u2 : decide (R2 < 0) = true := decide_eq_true s0
          have HX := Lib.hid s0
          clear s0
          go_wp2_with fail
          go_ret2
          exact PO.no HN.out (fun x hx hxr => by
            obtain ⟨e, ⟨k1, k2, k3⟩, k4, k5, k6⟩ := HEX.out x hx hxr
            have k7 := ok_dgt k1 k2
            rw [HRR2.out] at k7
            have := HX.out; omega) HB3.out
        have u2 : decide (R2 < 0) = false := decide_eq_false s0
        have hp := dgt_pos (s := V) (most := 4) (by rw [HRR2.out]; exact s0)
        have hpre := pre_ok (s := V) (most := 4) (by rw [HRR2.out]; exact s0) (by decide)
        clear s0
        obtain ⟨k, hnd⟩ : ∃ n, nd V = n := ⟨_, rfl⟩
        have hkz := (nd_all V).1
        rw [hnd] at hp hpre hkz
        obtain ⟨hp1, hp2, hp3, -⟩ := hp
        rw [HRR2.out] at hp1
        subst hp1
        by_cases s1 : k < V.size
        · have u3 : decide ((k : Int) < (V.size : Int)) = true := decide_eq_true (by omega)
          have u3' : decide (k < V.size) = true := decide_eq_true s1
          have HX := Lib.hid s1
          clear s1 hp2 hp3 hpre hnd hkz
          go_wp2_with fail
          go_ret2
          exact PO.no HN.out (fun x hx hxr => by
            obtain ⟨e, ⟨k1, k2, k3⟩, k4, k5, k6⟩ := HEX.out x hx hxr
            have k7 := ok_dgt k1 k2
            rw [HRR2.out] at k7
            have := HX.out; omega) HB3.out
        have u3 : decide ((k : Int) < (V.size : Int)) = false := decide_eq_false (by omega)
        have u3' : decide (k < V.size) = false := decide_eq_false s1
        have hkv : k = V.size := by omega
        have hok : OkText V := by
          have : V.extract 0 k = V := lb_inj (by rw [lb_pre, hkv, ← lb_size, List.take_length])
          rw [this] at hpre
          exact hpre.1
        have HTS := Lib.hid (tv_small hok (by omega))
        have HK4 : Hid (k ≤ 4) := Lib.hid hp3
        have HKV := Lib.hid hkv
        have HOK := Lib.hid hok
        clear s1 hp2 hp3 hpre hnd hkz hok hkv
        go_wp2_with fail
        go_loopg [12, 13] V.size (fun g2 e i wr => wr = w4 ∧ ∃ j : Nat, i = .int .i64 (j : Int) ∧ j + g2 = V.size ∧ e = .int .i64 (tv V j))
        case atStart => exact ⟨rfl, 0, rfl, by omega, rfl⟩
        case round =>
          obtain ⟨rfl, j, rfl, hj, rfl⟩ := hrel
          by_cases hlt : j < k
          · have hjV : j < V.size := by have := HKV.out; omega
            obtain ⟨hb0, hb1⟩ := HTS.out j (by omega)
            have hsd := HOK.out.2.2.2 j hjV
            have hc2 := sb_at hjV
            obtain ⟨c2, hc2e⟩ : ∃ c : Int, ((V[j]'hjV).toNat : Int) = c := ⟨_, rfl⟩
            rw [hc2e] at hc2
            rw [hc2] at hsd
            have HTN : Hid (tv V (j + 1) = 10 * tv V j + c2 - 48) := Lib.hid (by show tv V j * 10 + (sb V j - 48) = _; rw [hc2]; omega)
            obtain ⟨y, hy⟩ : ∃ y, tv V j = y := ⟨_, rfl⟩
            rw [hy] at hb0 hb1 HTN
            rw [hy]
            obtain ⟨hs1, hs2⟩ := hsd
            have HJ := Lib.hid hj
            have l0 : decide ((j : Int) < (k : Int)) = true := decide_eq_true (by omega)
            have l0' : decide (j < k) = true := decide_eq_true hlt
            have hk4 := HK4.out
            have hg1 : 1 ≤ gk := by omega
            clear hj hc2 hy
            go_wp2_with fail
            go_roundg (gk - 1)
            case measure => omega
            case rel => exact ⟨rfl, j + 1, by go_num, by have := HJ.out; omega, by rw [HTN.out]⟩
          · obtain rfl : j = k := by have := HKV.out; omega
            obtain ⟨hb0, hb1⟩ := HTS.out j (by omega)
            obtain ⟨E, hE⟩ : ∃ E, tv V j = E := ⟨_, rfl⟩
            rw [hE] at hb0 hb1
            rw [hE]
            have HEE : Hid (tv V V.size = E) := Lib.hid (by rw [← HKV.out]; exact hE)
            have HEV : Hid (∀ e, ExpOf V true e → e = (-E)) := Lib.hid (fun e h => by rw [h.2.2, HEE.out, if_pos rfl])
            clear hE hj hlt
            have l0 : decide ((j : Int) < (j : Int)) = false := decide_eq_false (by omega)
            have en0 : (0 : Int) ≤ E := hb0
            by_cases x1 : (-E) < -1074
            · have y1 : decide (-E < -1074) = true := decide_eq_true x1
              have y1' : decide (1074 < E) = true := decide_eq_true (by omega)
              have HX := Lib.hid x1
              clear x1
              go_wp2_with fail
              go_ret2
              exact PO.no HN.out (fun x hx hxr => by
                obtain ⟨e, h1, h2, h3, -⟩ := HEX.out x hx hxr
                have := HEV.out e h1
                have := HX.out; omega) HB3.out
            have y1 : decide (-E < -1074) = false := decide_eq_false x1
            have y1' : decide (1074 < E) = false := decide_eq_false (by omega)
            have y2 : decide (1023 < -E) = false := decide_eq_false (by omega)
            have y2' : decide (E < -1023) = false := decide_eq_false (by omega)
            clear x1
            have HJN := Lib.hid (rjoin_any true nn a3 l3 c3 M 64 (-E) wr HN3.out HM2.out (by decide))
            obtain ⟨f0, f1⟩ := HE01.out
            obtain ⟨X, hX⟩ : ∃ x, joinN true M (-E) = x := ⟨_, rfl⟩
            have hXl : X < 18446744073709551616 := by rw [← hX]; exact join_lt44 _ _ _
            rw [hX] at HJN
            have HXE := Lib.hid hX
            have HXL := Lib.hid hXl
            clear hX hXl
            go_wp2_with fail
            refine (HJN.out).mono ?_; rintro e w7 ⟨rfl, hb7⟩
            have HB7 := Lib.hid (HB3.out.trans (hb7.mono HB3.out.size))
            clear hb7 f0 f1
            go_wp2_with fail
            refine (rreal_txt X _ HXL.out).mono ?_; rintro e w8 ⟨r, rfl, hr, hb8⟩
            have HR := Lib.hid hr
            have HB8 := Lib.hid (HB7.out.trans (hb8.mono HB7.out.size))
            clear hr hb8
            by_cases hrs : r = s
            · subst hrs
              go_wp2_with fail
              go_ret2
              exact PO.yes HN.out HR.out HXL.out HB8.out
            · have t9 : (r.toList == s.toList) = false := by rw [Lib.toList_data s]; exact eq_list fun h => hrs (lb_inj h)
              have HRS := Lib.hid hrs
              clear hrs
              go_wp2_with fail
              go_ret2
              exact PO.no HN.out (fun x hx hxr => HRS.out (by
                obtain ⟨e, h1, -, -, h4⟩ := HEX.out x hx hxr
                rw [HEV.out e h1, HXE.out] at h4
                rw [h4] at hxr
                exact HR.out.one hxr)) HB8.out
      · have ub : ngB U = false ∧ bdy U = lb U := (bdy_plain (.inr (by rw [hd]; exact hd45))).symm
        have qd : (((U[0]'hu).toNat : Int) == 45) = false := by rw [hde]; simpa using hd45
        clear hd45 hde
        have HEX : Hid (∀ x, x < 18446744073709551616 → IsReal x s → ∃ e, ExpOf U false e ∧ -1074 ≤ e ∧ e ≤ 1023 ∧ x = joinN true M e) := Lib.hid (fun x hx h => by
          obtain ⟨e, h1, h2, h3, h4⟩ := HSH4.out x hx h
          have := exp_of (V := U) h1 h2 h3 ub.2.symm
          rw [ub.1] at this
          exact ⟨e, this, h2, h3, h4⟩)
        clear ub
        have HDG2 := Lib.hid (fun w => rdigits_any U 4 w (by have := HUS.out; omega))
        obtain ⟨R2, hR2⟩ : ∃ r, dgt U 4 = r := ⟨_, rfl⟩
        rw [hR2] at HDG2
        have HRR2 := Lib.hid hR2
        clear hR2
        go_upto_region 1 with fail
        generalize (w3.alloc (.cells #[.bool nn, .slice a3 l3 c3] 61)) = w4 at *
        generalize w3.heap.size = g at *
        clear e0 e1
        go_wp2_with fail
        refine (HDG2.out _).mono ?_; rintro e w5 ⟨rfl, rfl⟩
        by_cases s0 : R2 < 0
        · have u2 : decide (R2 < 0) = true := decide_eq_true s0
          have HX := Lib.hid s0
          clear s0
          go_wp2_with fail
          go_ret2
          exact PO.no HN.out (fun x hx hxr => by
            obtain ⟨e, ⟨k1, k2, k3⟩, k4, k5, k6⟩ := HEX.out x hx hxr
            have k7 := ok_dgt k1 k2
            rw [HRR2.out] at k7
            have := HX.out; omega) HB3.out
        have u2 : decide (R2 < 0) = false := decide_eq_false s0
        have hp := dgt_pos (s := U) (most := 4) (by rw [HRR2.out]; exact s0)
        have hpre := pre_ok (s := U) (most := 4) (by rw [HRR2.out]; exact s0) (by decide)
        clear s0
        obtain ⟨k, hnd⟩ : ∃ n, nd U = n := ⟨_, rfl⟩
        have hkz := (nd_all U).1
        rw [hnd] at hp hpre hkz
        obtain ⟨hp1, hp2, hp3, -⟩ := hp
        rw [HRR2.out] at hp1
        subst hp1
        by_cases s1 : k < U.size
        · have u3 : decide ((k : Int) < (U.size : Int)) = true := decide_eq_true (by omega)
          have u3' : decide (k < U.size) = true := decide_eq_true s1
          have HX := Lib.hid s1
          clear s1 hp2 hp3 hpre hnd hkz
          go_wp2_with fail
          go_ret2
          exact PO.no HN.out (fun x hx hxr => by
            obtain ⟨e, ⟨k1, k2, k3⟩, k4, k5, k6⟩ := HEX.out x hx hxr
            have k7 := ok_dgt k1 k2
            rw [HRR2.out] at k7
            have := HX.out; omega) HB3.out
        have u3 : decide ((k : Int) < (U.size : Int)) = false := decide_eq_false (by omega)
        have u3' : decide (k < U.size) = false := decide_eq_false s1
        have hkv : k = U.size := by omega
        have hok : OkText U := by
          have : U.extract 0 k = U := lb_inj (by rw [lb_pre, hkv, ← lb_size, List.take_length])
          rw [this] at hpre
          exact hpre.1
        have HTS := Lib.hid (tv_small hok (by omega))
        have HK4 : Hid (k ≤ 4) := Lib.hid hp3
        have HKV := Lib.hid hkv
        have HOK := Lib.hid hok
        clear s1 hp2 hp3 hpre hnd hkz hok hkv
        go_wp2_with fail
        go_loopg [12, 13] U.size (fun g2 e i wr => wr = w4 ∧ ∃ j : Nat, i = .int .i64 (j : Int) ∧ j + g2 = U.size ∧ e = .int .i64 (tv U j))
        case atStart => exact ⟨rfl, 0, rfl, by omega, rfl⟩
        case round =>
          obtain ⟨rfl, j, rfl, hj, rfl⟩ := hrel
          by_cases hlt : j < k
          · have hjV : j < U.size := by have := HKV.out; omega
            obtain ⟨hb0, hb1⟩ := HTS.out j (by omega)
            have hsd := HOK.out.2.2.2 j hjV
            have hc2 := sb_at hjV
            obtain ⟨c2, hc2e⟩ : ∃ c : Int, ((U[j]'hjV).toNat : Int) = c := ⟨_, rfl⟩
            rw [hc2e] at hc2
            rw [hc2] at hsd
            have HTN : Hid (tv U (j + 1) = 10 * tv U j + c2 - 48) := Lib.hid (by show tv U j * 10 + (sb U j - 48) = _; rw [hc2]; omega)
            obtain ⟨y, hy⟩ : ∃ y, tv U j = y := ⟨_, rfl⟩
            rw [hy] at hb0 hb1 HTN
            rw [hy]
            obtain ⟨hs1, hs2⟩ := hsd
            have HJ := Lib.hid hj
            have l0 : decide ((j : Int) < (k : Int)) = true := decide_eq_true (by omega)
            have l0' : decide (j < k) = true := decide_eq_true hlt
            have hk4 := HK4.out
            have hg1 : 1 ≤ gk := by omega
            clear hj hc2 hy
            go_wp2_with fail
            go_roundg (gk - 1)
            case measure => omega
            case rel => exact ⟨rfl, j + 1, by go_num, by have := HJ.out; omega, by rw [HTN.out]⟩
          · obtain rfl : j = k := by have := HKV.out; omega
            obtain ⟨hb0, hb1⟩ := HTS.out j (by omega)
            obtain ⟨E, hE⟩ : ∃ E, tv U j = E := ⟨_, rfl⟩
            rw [hE] at hb0 hb1
            rw [hE]
            have HEE : Hid (tv U U.size = E) := Lib.hid (by rw [← HKV.out]; exact hE)
            have HEV : Hid (∀ e, ExpOf U false e → e = E) := Lib.hid (fun e h => by rw [h.2.2, HEE.out, if_neg (by decide)])
            clear hE hj hlt
            have l0 : decide ((j : Int) < (j : Int)) = false := decide_eq_false (by omega)
            have en0 : (0 : Int) ≤ E := hb0
            by_cases x1 : E < -1074
            · exfalso; omega
            have y1 : decide (E < -1074) = false := decide_eq_false x1
            by_cases x2 : 1023 < E
            · have y2 : decide (1023 < E) = true := decide_eq_true x2
              have HX := Lib.hid x2
              clear x1 x2
              go_wp2_with fail
              go_ret2
              exact PO.no HN.out (fun x hx hxr => by
                obtain ⟨e, h1, h2, h3, -⟩ := HEX.out x hx hxr
                have := HEV.out e h1
                have := HX.out; omega) HB3.out
            have y2 : decide (1023 < E) = false := decide_eq_false x2
            clear x1 x2
            have HJN := Lib.hid (rjoin_any true nn a3 l3 c3 M 64 E wr HN3.out HM2.out (by decide))
            obtain ⟨f0, f1⟩ := HE01.out
            obtain ⟨X, hX⟩ : ∃ x, joinN true M E = x := ⟨_, rfl⟩
            have hXl : X < 18446744073709551616 := by rw [← hX]; exact join_lt44 _ _ _
            rw [hX] at HJN
            have HXE := Lib.hid hX
            have HXL := Lib.hid hXl
            clear hX hXl
            go_wp2_with fail
            refine (HJN.out).mono ?_; rintro e w7 ⟨rfl, hb7⟩
            have HB7 := Lib.hid (HB3.out.trans (hb7.mono HB3.out.size))
            clear hb7 f0 f1
            go_wp2_with fail
            refine (rreal_txt X _ HXL.out).mono ?_; rintro e w8 ⟨r, rfl, hr, hb8⟩
            have HR := Lib.hid hr
            have HB8 := Lib.hid (HB7.out.trans (hb8.mono HB7.out.size))
            clear hr hb8
            by_cases hrs : r = s
            · subst hrs
              go_wp2_with fail
              go_ret2
              exact PO.yes HN.out HR.out HXL.out HB8.out
            · have t9 : (r.toList == s.toList) = false := by rw [Lib.toList_data s]; exact eq_list fun h => hrs (lb_inj h)
              have HRS := Lib.hid hrs
              clear hrs
              go_wp2_with fail
              go_ret2
              exact PO.no HN.out (fun x hx hxr => HRS.out (by
                obtain ⟨e, h1, -, -, h4⟩ := HEX.out x hx hxr
                rw [HEV.out e h1, HXE.out] at h4
                rw [h4] at hxr
                exact HR.out.one hxr)) HB8.out
    · have hq : (((s[0]'hp0).toNat : Int) == 45) = false := by rw [hce]; simpa using h45
      have hbd := HBP.out (.inr (by rw [hc]; exact h45))
      have hlt : decide ((s.size : Int) < (s.size : Int)) = false := decide_eq_false (by omega)
      have HSZ := HS
      clear hc hce h45 HBP HBM
      go_enter Tryz.func7, Tryz.ntmps7
      have HBD : Hid (bdy s = lb s ∧ ngB s = false) := Lib.hid hbd
      clear hbd
      by_cases hz : lb s = [48]
      · have t1 : (s.toList == [48]) = true := by rw [Lib.toList_data, beq_iff_eq]; exact hz
        have HX := HR0.out (by rw [HBD.out.1]; exact hz)
        rw [HBD.out.2] at HX
        have HX := Lib.hid HX
        have HSG := Lib.hid (fun w => rsign_any false 0 w (by decide))
        clear hz
        go_wp2_with fail
        refine (HSG.out _).mono ?_; rintro e w7 ⟨rfl, rfl⟩
        go_wp2_with fail
        go_ret2
        exact PO.yes HN.out HX.out (by decide) (Below.refl _ _)
      have t1 : (s.toList == [48]) = false := eq_list hz
      by_cases hi : lb s = [105, 110, 102, 105, 110, 105, 116, 121]
      · have t2 : (s.toList == [105, 110, 102, 105, 110, 105, 116, 121]) = true := by rw [Lib.toList_data, beq_iff_eq]; exact hi
        have HX := HRI.out (by rw [HBD.out.1]; exact hi)
        rw [HBD.out.2] at HX
        have HX := Lib.hid HX
        have HSG := Lib.hid (fun w => rsign_any false INF w (by decide))
        have hqb : floatBits .quo .f64 4607182418800017408 0 = some INF := by rw [quo_zero (b := 0) (by decide) (by decide)]; rfl
        have hq := run_float_arith (P := Tryz.prog) w .quo 22 .f64 4607182418800017408 0 _ hqb
        clear hz hi
        go_wp2_with fail
        refine (HSG.out _).mono ?_; rintro e w7 ⟨rfl, rfl⟩
        go_wp2_with fail
        go_ret2
        exact PO.yes HN.out HX.out (by decide) (Below.refl _ _)
      have t2 : (s.toList == [105, 110, 102, 105, 110, 105, 116, 121]) = false := eq_list hi
      have HSH2 : Hid (∀ x, x < 18446744073709551616 → IsReal x s → ∃ t u e, lb s = lb t ++ 112 :: lb u ∧ OkText t ∧ t.size ≤ 16 ∧ IsNum e u ∧ -1074 ≤ e ∧ e ≤ 1023 ∧ x = joinN false (tv t t.size).toNat e) := Lib.hid (fun x hx h => by
        have := HSH.out x h hx (by rw [HBD.out.1]; exact hz) (by rw [HBD.out.1]; exact hi)
        rw [HBD.out.1, HBD.out.2] at this
        exact this)
      clear hz hi
      have HDG := Lib.hid (fun w => rdigits_any s 16 w (by have := HSZ.out; omega))
      obtain ⟨R, hR⟩ : ∃ r, dgt s 16 = r := ⟨_, rfl⟩
      rw [hR] at HDG
      have HRR := Lib.hid hR
      clear hR
      go_wp2_with fail
      refine (HDG.out _).mono ?_; rintro e w2 ⟨rfl, rfl⟩
      by_cases r0 : R < 0
      · have u0 : decide (R < 0) = true := decide_eq_true r0
        have HX := Lib.hid r0
        clear r0
        go_wp2_with fail
        go_ret2
        exact PO.no HN.out (fun x hx hxr => by
          obtain ⟨t, u, e, h1, h2, h3, -⟩ := HSH2.out x hx hxr
          have h4 := shape_dgt h1 h2 h3
          rw [HRR.out] at h4
          have := HX.out; omega) (Below.refl _ _)
      have u0 : decide (R < 0) = false := decide_eq_false r0
      have hp := dgt_pos (s := s) (most := 16) (by rw [HRR.out]; exact r0)
      have hpre := pre_ok (s := s) (most := 16) (by rw [HRR.out]; exact r0) (by decide)
      clear r0
      obtain ⟨n, hnd⟩ : ∃ n, nd s = n := ⟨_, rfl⟩
      rw [hnd] at hp hpre
      obtain ⟨hp1, hp2, hp3, -⟩ := hp
      rw [HRR.out] at hp1
      subst hp1
      have HND := Lib.hid hnd
      have HPRE := Lib.hid hpre
      have HP := Lib.hid (And.intro hp2 hp3)
      clear hnd hpre hp2 hp3
      by_cases r1 : s.size ≤ n
      · have u1 : decide ((s.size : Int) ≤ (n : Int)) = true := decide_eq_true (by omega)
        have u1' : decide (s.size ≤ n) = true := decide_eq_true r1
        have HX := Lib.hid r1
        clear r1
        go_wp2_with fail
        go_ret2
        exact PO.no HN.out (fun x hx hxr => by
          obtain ⟨t, u, e, h1, h2, h3, -⟩ := HSH2.out x hx hxr
          obtain ⟨h4, h5, -⟩ := shape_digits h1 h2
          rw [HND.out] at h4
          have := HX.out; omega) (Below.refl _ _)
      have u1 : decide ((s.size : Int) ≤ (n : Int)) = false := decide_eq_false (by omega)
      have u1' : decide (s.size ≤ n) = false := decide_eq_false r1
      have r1' : n < s.size := by omega
      have hc := sb_at r1'
      obtain ⟨c, hce⟩ : ∃ c : Int, ((s[n]'r1').toNat : Int) = c := ⟨_, rfl⟩
      rw [hce] at hc
      have HC := Lib.hid hc
      clear hc
      by_cases hcp : c = 112
      rotate_left
      · have hq : (((s[n]'r1').toNat : Int) == 112) = false := by rw [hce]; simpa using hcp
        have HX := Lib.hid hcp
        clear hcp r1 hce
        go_wp2_with fail
        go_ret2
        exact PO.no HN.out (fun x hx hxr => by
          obtain ⟨t, u, e, h1, h2, h3, -⟩ := HSH2.out x hx hxr
          obtain ⟨h4, h5, h6, -⟩ := shape_digits h1 h2
          rw [HND.out] at h4
          rw [← h4, HC.out] at h6
          exact HX.out h6) (Below.refl _ _)
      have hq : (((s[n]'r1').toNat : Int) == 112) = true := by rw [hce, hcp]; rfl
      clear hcp hce
      obtain ⟨T, hT⟩ : ∃ t, s.extract 0 n = t := ⟨_, rfl⟩
      obtain ⟨U, hU⟩ : ∃ t, s.extract (n + 1) s.size = t := ⟨_, rfl⟩
      rw [hT] at HPRE
      have HUS : Hid (U.size ≤ 100000) := Lib.hid (by rw [← hU, ByteArray.size_extract]; have := HSZ.out; omega)
      have HSH3 : Hid (∀ x, x < 18446744073709551616 → IsReal x s → ∃ e, IsNum e U ∧ -1074 ≤ e ∧ e ≤ 1023 ∧ x = joinN false (tv T T.size).toNat e) := Lib.hid (fun x hx h => by
        obtain ⟨t, u, e, h1, h2, h3, h4, h5, h6, h7⟩ := HSH2.out x hx h
        obtain ⟨k1, -, -, k4, k5⟩ := shape_digits h1 h2
        rw [HND.out] at k1
        obtain rfl : u = U := lb_inj (by rw [← hU, lb_from, k1, k5])
        obtain rfl : t = T := lb_inj (by rw [← hT, lb_pre, k1, k4])
        exact ⟨e, h4, h5, h6, h7⟩)
      have hw1 : wrap64 ((n : Int) + 1) = ((n + 1 : Nat) : Int) := by have := HP.out; unfold wrap64; omega
      have HRE := Lib.hid (fun w => rread_any T w (by have := HPRE.out.2; have := HP.out; omega))
      have hTT := tv_bound HPRE.out.1 (k := 16) (by rw [HPRE.out.2]; exact HP.out.2)
      have HTT := Lib.hid hTT
      clear hTT
      go_wp2_with fail
      refine (HRE.out _).mono ?_; rintro e w3 ⟨nn, a3, l3, c3, hcs, hb3⟩
      rcases hcs with ⟨-, rfl, hN⟩ | ⟨hno, -⟩
      rotate_left
      · exact absurd HPRE.out.1 hno
      obtain ⟨hbx, hbw, hsz⟩ := boxed44 w3 61 #[.bool nn, .slice a3 l3 c3]
      have e0 := hbx 0
      have e1 := hbx 1
      simp only [List.getElem?_toArray, List.getElem?_cons_zero, List.getElem?_cons_succ] at e0 e1
      obtain ⟨M, hM⟩ : ∃ M : Nat, tv T T.size = (M : Int) := ⟨(tv T T.size).toNat, by have := HTT.out.1; omega⟩
      rw [hM] at hN HTT
      have HSH4 : Hid (∀ x, x < 18446744073709551616 → IsReal x s → ∃ e, IsNum e U ∧ -1074 ≤ e ∧ e ≤ 1023 ∧ x = joinN false M e) := Lib.hid (fun x hx h => by
        have := HSH3.out x hx h
        rw [hM, Int.toNat_natCast] at this
        exact this)
      have HM2 : Hid (M < 2 ^ 64) := Lib.hid (by
        have h1 := HTT.out.2
        have h2 : (10 : Int) ^ 16 = 10000000000000000 := by decide
        have h3 : (2 : Nat) ^ 64 = 18446744073709551616 := by decide
        omega)
      have HN3 := Lib.hid (hN.below hbw (Nat.le_refl _))
      have HB3 := Lib.hid (hb3.trans (hbw.mono hb3.size))
      have HE01 := Lib.hid (And.intro e0 e1)
      clear hbx hbw hsz hM hN hb3
      by_cases hu : 0 < U.size
      rotate_left
      · have ub : ngB U = false ∧ bdy U = lb U := (bdy_plain (.inl (by omega))).symm
        have z0 : decide ((0 : Int) < (U.size : Int)) = false := decide_eq_false (by omega)
        have z0' : decide (0 < U.size) = false := decide_eq_false hu
        have HEX : Hid (∀ x, x < 18446744073709551616 → IsReal x s → ∃ e, ExpOf U false e ∧ -1074 ≤ e ∧ e ≤ 1023 ∧ x = joinN false M e) := Lib.hid (fun x hx h => by
          obtain ⟨e, h1, h2, h3, h4⟩ := HSH4.out x hx h
          have := exp_of (V := U) h1 h2 h3 ub.2.symm
          rw [ub.1] at this
          exact ⟨e, this, h2, h3, h4⟩)
        clear ub
        have HDG2 := Lib.hid (fun w => rdigits_any U 4 w (by have := HUS.out; omega))
        obtain ⟨R2, hR2⟩ : ∃ r, dgt U 4 = r := ⟨_, rfl⟩
        rw [hR2] at HDG2
        have HRR2 := Lib.hid hR2
        clear hR2
        go_upto_region 1 with fail
        generalize (w3.alloc (.cells #[.bool nn, .slice a3 l3 c3] 61)) = w4 at *
        generalize w3.heap.size = g at *
        clear e0 e1
        go_wp2_with fail
        refine (HDG2.out _).mono ?_; rintro e w5 ⟨rfl, rfl⟩
        by_cases s0 : R2 < 0
        · have u2 : decide (R2 < 0) = true := decide_eq_true s0
          have HX := Lib.hid s0
          clear s0
          go_wp2_with fail
          go_ret2
          exact PO.no HN.out (fun x hx hxr => by
            obtain ⟨e, ⟨k1, k2, k3⟩, k4, k5, k6⟩ := HEX.out x hx hxr
            have k7 := ok_dgt k1 k2
            rw [HRR2.out] at k7
            have := HX.out; omega) HB3.out
        have u2 : decide (R2 < 0) = false := decide_eq_false s0
        have hp := dgt_pos (s := U) (most := 4) (by rw [HRR2.out]; exact s0)
        have hpre := pre_ok (s := U) (most := 4) (by rw [HRR2.out]; exact s0) (by decide)
        clear s0
        obtain ⟨k, hnd⟩ : ∃ n, nd U = n := ⟨_, rfl⟩
        have hkz := (nd_all U).1
        rw [hnd] at hp hpre hkz
        obtain ⟨hp1, hp2, hp3, -⟩ := hp
        rw [HRR2.out] at hp1
        subst hp1
        by_cases s1 : k < U.size
        · have u3 : decide ((k : Int) < (U.size : Int)) = true := decide_eq_true (by omega)
          have u3' : decide (k < U.size) = true := decide_eq_true s1
          have HX := Lib.hid s1
          clear s1 hp2 hp3 hpre hnd hkz
          go_wp2_with fail
          go_ret2
          exact PO.no HN.out (fun x hx hxr => by
            obtain ⟨e, ⟨k1, k2, k3⟩, k4, k5, k6⟩ := HEX.out x hx hxr
            have k7 := ok_dgt k1 k2
            rw [HRR2.out] at k7
            have := HX.out; omega) HB3.out
        have u3 : decide ((k : Int) < (U.size : Int)) = false := decide_eq_false (by omega)
        have u3' : decide (k < U.size) = false := decide_eq_false s1
        have hkv : k = U.size := by omega
        have hok : OkText U := by
          have : U.extract 0 k = U := lb_inj (by rw [lb_pre, hkv, ← lb_size, List.take_length])
          rw [this] at hpre
          exact hpre.1
        have HTS := Lib.hid (tv_small hok (by omega))
        have HK4 : Hid (k ≤ 4) := Lib.hid hp3
        have HKV := Lib.hid hkv
        have HOK := Lib.hid hok
        clear s1 hp2 hp3 hpre hnd hkz hok hkv
        go_wp2_with fail
        go_loopg [12, 13] U.size (fun g2 e i wr => wr = w4 ∧ ∃ j : Nat, i = .int .i64 (j : Int) ∧ j + g2 = U.size ∧ e = .int .i64 (tv U j))
        case atStart => exact ⟨rfl, 0, rfl, by omega, rfl⟩
        case round =>
          obtain ⟨rfl, j, rfl, hj, rfl⟩ := hrel
          by_cases hlt : j < k
          · have hjV : j < U.size := by have := HKV.out; omega
            obtain ⟨hb0, hb1⟩ := HTS.out j (by omega)
            have hsd := HOK.out.2.2.2 j hjV
            have hc2 := sb_at hjV
            obtain ⟨c2, hc2e⟩ : ∃ c : Int, ((U[j]'hjV).toNat : Int) = c := ⟨_, rfl⟩
            rw [hc2e] at hc2
            rw [hc2] at hsd
            have HTN : Hid (tv U (j + 1) = 10 * tv U j + c2 - 48) := Lib.hid (by show tv U j * 10 + (sb U j - 48) = _; rw [hc2]; omega)
            obtain ⟨y, hy⟩ : ∃ y, tv U j = y := ⟨_, rfl⟩
            rw [hy] at hb0 hb1 HTN
            rw [hy]
            obtain ⟨hs1, hs2⟩ := hsd
            have HJ := Lib.hid hj
            have l0 : decide ((j : Int) < (k : Int)) = true := decide_eq_true (by omega)
            have l0' : decide (j < k) = true := decide_eq_true hlt
            have hk4 := HK4.out
            have hg1 : 1 ≤ gk := by omega
            clear hj hc2 hy
            go_wp2_with fail
            go_roundg (gk - 1)
            case measure => omega
            case rel => exact ⟨rfl, j + 1, by go_num, by have := HJ.out; omega, by rw [HTN.out]⟩
          · obtain rfl : j = k := by have := HKV.out; omega
            obtain ⟨hb0, hb1⟩ := HTS.out j (by omega)
            obtain ⟨E, hE⟩ : ∃ E, tv U j = E := ⟨_, rfl⟩
            rw [hE] at hb0 hb1
            rw [hE]
            have HEE : Hid (tv U U.size = E) := Lib.hid (by rw [← HKV.out]; exact hE)
            have HEV : Hid (∀ e, ExpOf U false e → e = E) := Lib.hid (fun e h => by rw [h.2.2, HEE.out, if_neg (by decide)])
            clear hE hj hlt
            have l0 : decide ((j : Int) < (j : Int)) = false := decide_eq_false (by omega)
            have en0 : (0 : Int) ≤ E := hb0
            by_cases x1 : E < -1074
            · exfalso; omega
            have y1 : decide (E < -1074) = false := decide_eq_false x1
            by_cases x2 : 1023 < E
            · have y2 : decide (1023 < E) = true := decide_eq_true x2
              have HX := Lib.hid x2
              clear x1 x2
              go_wp2_with fail
              go_ret2
              exact PO.no HN.out (fun x hx hxr => by
                obtain ⟨e, h1, h2, h3, -⟩ := HEX.out x hx hxr
                have := HEV.out e h1
                have := HX.out; omega) HB3.out
            have y2 : decide (1023 < E) = false := decide_eq_false x2
            clear x1 x2
            have HJN := Lib.hid (rjoin_any false nn a3 l3 c3 M 64 E wr HN3.out HM2.out (by decide))
            obtain ⟨f0, f1⟩ := HE01.out
            obtain ⟨X, hX⟩ : ∃ x, joinN false M E = x := ⟨_, rfl⟩
            have hXl : X < 18446744073709551616 := by rw [← hX]; exact join_lt44 _ _ _
            rw [hX] at HJN
            have HXE := Lib.hid hX
            have HXL := Lib.hid hXl
            clear hX hXl
            go_wp2_with fail
            refine (HJN.out).mono ?_; rintro e w7 ⟨rfl, hb7⟩
            have HB7 := Lib.hid (HB3.out.trans (hb7.mono HB3.out.size))
            clear hb7 f0 f1
            go_wp2_with fail
            refine (rreal_txt X _ HXL.out).mono ?_; rintro e w8 ⟨r, rfl, hr, hb8⟩
            have HR := Lib.hid hr
            have HB8 := Lib.hid (HB7.out.trans (hb8.mono HB7.out.size))
            clear hr hb8
            by_cases hrs : r = s
            · subst hrs
              go_wp2_with fail
              go_ret2
              exact PO.yes HN.out HR.out HXL.out HB8.out
            · have t9 : (r.toList == s.toList) = false := by rw [Lib.toList_data s]; exact eq_list fun h => hrs (lb_inj h)
              have HRS := Lib.hid hrs
              clear hrs
              go_wp2_with fail
              go_ret2
              exact PO.no HN.out (fun x hx hxr => HRS.out (by
                obtain ⟨e, h1, -, -, h4⟩ := HEX.out x hx hxr
                rw [HEV.out e h1, HXE.out] at h4
                rw [h4] at hxr
                exact HR.out.one hxr)) HB8.out
      have z0 : decide ((0 : Int) < (U.size : Int)) = true := decide_eq_true (by omega)
      have z0' : decide (0 < U.size) = true := decide_eq_true hu
      have hd := sb_at hu
      obtain ⟨d, hde⟩ : ∃ d : Int, ((U[0]'hu).toNat : Int) = d := ⟨_, rfl⟩
      rw [hde] at hd
      by_cases hd45 : d = 45
      · have ub := (bdy_minus hu (by rw [hd]; exact hd45)).symm
        have qd : (((U[0]'hu).toNat : Int) == 45) = true := by rw [hde, hd45]; rfl
        obtain ⟨V, hV⟩ : ∃ v, U.extract 1 U.size = v := ⟨_, rfl⟩
        rw [hV] at ub
        have HVS : Hid (V.size ≤ 100000) := Lib.hid (by rw [← hV, ByteArray.size_extract]; have := HUS.out; omega)
        clear hd45 hde
        have HEX : Hid (∀ x, x < 18446744073709551616 → IsReal x s → ∃ e, ExpOf V true e ∧ -1074 ≤ e ∧ e ≤ 1023 ∧ x = joinN false M e) := Lib.hid (fun x hx h => by
          obtain ⟨e, h1, h2, h3, h4⟩ := HSH4.out x hx h
          have := exp_of (V := V) h1 h2 h3 ub.2.symm
          rw [ub.1] at this
          exact ⟨e, this, h2, h3, h4⟩)
        clear ub
        have HDG2 := Lib.hid (fun w => rdigits_any V 4 w (by have := HVS.out; omega))
        obtain ⟨R2, hR2⟩ : ∃ r, dgt V 4 = r := ⟨_, rfl⟩
        rw [hR2] at HDG2
        have HRR2 := Lib.hid hR2
        clear hR2
        go_upto_region 1 with fail
        generalize (w3.alloc (.cells #[.bool nn, .slice a3 l3 c3] 61)) = w4 at *
        generalize w3.heap.size = g at *
        clear e0 e1
        go_wp2_with fail
        refine (HDG2.out _).mono ?_; rintro e w5 ⟨rfl, rfl⟩
        by_cases s0 : R2 < 0
        · have u2 : decide (R2 < 0) = true := decide_eq_true s0
          have HX := Lib.hid s0
          clear s0
          go_wp2_with fail
          go_ret2
          exact PO.no HN.out (fun x hx hxr => by
            obtain ⟨e, ⟨k1, k2, k3⟩, k4, k5, k6⟩ := HEX.out x hx hxr
            have k7 := ok_dgt k1 k2
            rw [HRR2.out] at k7
            have := HX.out; omega) HB3.out
        have u2 : decide (R2 < 0) = false := decide_eq_false s0
        have hp := dgt_pos (s := V) (most := 4) (by rw [HRR2.out]; exact s0)
        have hpre := pre_ok (s := V) (most := 4) (by rw [HRR2.out]; exact s0) (by decide)
        clear s0
        obtain ⟨k, hnd⟩ : ∃ n, nd V = n := ⟨_, rfl⟩
        have hkz := (nd_all V).1
        rw [hnd] at hp hpre hkz
        obtain ⟨hp1, hp2, hp3, -⟩ := hp
        rw [HRR2.out] at hp1
        subst hp1
        by_cases s1 : k < V.size
        · have u3 : decide ((k : Int) < (V.size : Int)) = true := decide_eq_true (by omega)
          have u3' : decide (k < V.size) = true := decide_eq_true s1
          have HX := Lib.hid s1
          clear s1 hp2 hp3 hpre hnd hkz
          go_wp2_with fail
          go_ret2
          exact PO.no HN.out (fun x hx hxr => by
            obtain ⟨e, ⟨k1, k2, k3⟩, k4, k5, k6⟩ := HEX.out x hx hxr
            have k7 := ok_dgt k1 k2
            rw [HRR2.out] at k7
            have := HX.out; omega) HB3.out
        have u3 : decide ((k : Int) < (V.size : Int)) = false := decide_eq_false (by omega)
        have u3' : decide (k < V.size) = false := decide_eq_false s1
        have hkv : k = V.size := by omega
        have hok : OkText V := by
          have : V.extract 0 k = V := lb_inj (by rw [lb_pre, hkv, ← lb_size, List.take_length])
          rw [this] at hpre
          exact hpre.1
        have HTS := Lib.hid (tv_small hok (by omega))
        have HK4 : Hid (k ≤ 4) := Lib.hid hp3
        have HKV := Lib.hid hkv
        have HOK := Lib.hid hok
        clear s1 hp2 hp3 hpre hnd hkz hok hkv
        go_wp2_with fail
        go_loopg [12, 13] V.size (fun g2 e i wr => wr = w4 ∧ ∃ j : Nat, i = .int .i64 (j : Int) ∧ j + g2 = V.size ∧ e = .int .i64 (tv V j))
        case atStart => exact ⟨rfl, 0, rfl, by omega, rfl⟩
        case round =>
          obtain ⟨rfl, j, rfl, hj, rfl⟩ := hrel
          by_cases hlt : j < k
          · have hjV : j < V.size := by have := HKV.out; omega
            obtain ⟨hb0, hb1⟩ := HTS.out j (by omega)
            have hsd := HOK.out.2.2.2 j hjV
            have hc2 := sb_at hjV
            obtain ⟨c2, hc2e⟩ : ∃ c : Int, ((V[j]'hjV).toNat : Int) = c := ⟨_, rfl⟩
            rw [hc2e] at hc2
            rw [hc2] at hsd
            have HTN : Hid (tv V (j + 1) = 10 * tv V j + c2 - 48) := Lib.hid (by show tv V j * 10 + (sb V j - 48) = _; rw [hc2]; omega)
            obtain ⟨y, hy⟩ : ∃ y, tv V j = y := ⟨_, rfl⟩
            rw [hy] at hb0 hb1 HTN
            rw [hy]
            obtain ⟨hs1, hs2⟩ := hsd
            have HJ := Lib.hid hj
            have l0 : decide ((j : Int) < (k : Int)) = true := decide_eq_true (by omega)
            have l0' : decide (j < k) = true := decide_eq_true hlt
            have hk4 := HK4.out
            have hg1 : 1 ≤ gk := by omega
            clear hj hc2 hy
            go_wp2_with fail
            go_roundg (gk - 1)
            case measure => omega
            case rel => exact ⟨rfl, j + 1, by go_num, by have := HJ.out; omega, by rw [HTN.out]⟩
          · obtain rfl : j = k := by have := HKV.out; omega
            obtain ⟨hb0, hb1⟩ := HTS.out j (by omega)
            obtain ⟨E, hE⟩ : ∃ E, tv V j = E := ⟨_, rfl⟩
            rw [hE] at hb0 hb1
            rw [hE]
            have HEE : Hid (tv V V.size = E) := Lib.hid (by rw [← HKV.out]; exact hE)
            have HEV : Hid (∀ e, ExpOf V true e → e = (-E)) := Lib.hid (fun e h => by rw [h.2.2, HEE.out, if_pos rfl])
            clear hE hj hlt
            have l0 : decide ((j : Int) < (j : Int)) = false := decide_eq_false (by omega)
            have en0 : (0 : Int) ≤ E := hb0
            by_cases x1 : (-E) < -1074
            · have y1 : decide (-E < -1074) = true := decide_eq_true x1
              have y1' : decide (1074 < E) = true := decide_eq_true (by omega)
              have HX := Lib.hid x1
              clear x1
              go_wp2_with fail
              go_ret2
              exact PO.no HN.out (fun x hx hxr => by
                obtain ⟨e, h1, h2, h3, -⟩ := HEX.out x hx hxr
                have := HEV.out e h1
                have := HX.out; omega) HB3.out
            have y1 : decide (-E < -1074) = false := decide_eq_false x1
            have y1' : decide (1074 < E) = false := decide_eq_false (by omega)
            have y2 : decide (1023 < -E) = false := decide_eq_false (by omega)
            have y2' : decide (E < -1023) = false := decide_eq_false (by omega)
            clear x1
            have HJN := Lib.hid (rjoin_any false nn a3 l3 c3 M 64 (-E) wr HN3.out HM2.out (by decide))
            obtain ⟨f0, f1⟩ := HE01.out
            obtain ⟨X, hX⟩ : ∃ x, joinN false M (-E) = x := ⟨_, rfl⟩
            have hXl : X < 18446744073709551616 := by rw [← hX]; exact join_lt44 _ _ _
            rw [hX] at HJN
            have HXE := Lib.hid hX
            have HXL := Lib.hid hXl
            clear hX hXl
            go_wp2_with fail
            refine (HJN.out).mono ?_; rintro e w7 ⟨rfl, hb7⟩
            have HB7 := Lib.hid (HB3.out.trans (hb7.mono HB3.out.size))
            clear hb7 f0 f1
            go_wp2_with fail
            refine (rreal_txt X _ HXL.out).mono ?_; rintro e w8 ⟨r, rfl, hr, hb8⟩
            have HR := Lib.hid hr
            have HB8 := Lib.hid (HB7.out.trans (hb8.mono HB7.out.size))
            clear hr hb8
            by_cases hrs : r = s
            · subst hrs
              go_wp2_with fail
              go_ret2
              exact PO.yes HN.out HR.out HXL.out HB8.out
            · have t9 : (r.toList == s.toList) = false := by rw [Lib.toList_data s]; exact eq_list fun h => hrs (lb_inj h)
              have HRS := Lib.hid hrs
              clear hrs
              go_wp2_with fail
              go_ret2
              exact PO.no HN.out (fun x hx hxr => HRS.out (by
                obtain ⟨e, h1, -, -, h4⟩ := HEX.out x hx hxr
                rw [HEV.out e h1, HXE.out] at h4
                rw [h4] at hxr
                exact HR.out.one hxr)) HB8.out
      · have ub : ngB U = false ∧ bdy U = lb U := (bdy_plain (.inr (by rw [hd]; exact hd45))).symm
        have qd : (((U[0]'hu).toNat : Int) == 45) = false := by rw [hde]; simpa using hd45
        clear hd45 hde
        have HEX : Hid (∀ x, x < 18446744073709551616 → IsReal x s → ∃ e, ExpOf U false e ∧ -1074 ≤ e ∧ e ≤ 1023 ∧ x = joinN false M e) := Lib.hid (fun x hx h => by
          obtain ⟨e, h1, h2, h3, h4⟩ := HSH4.out x hx h
          have := exp_of (V := U) h1 h2 h3 ub.2.symm
          rw [ub.1] at this
          exact ⟨e, this, h2, h3, h4⟩)
        clear ub
        have HDG2 := Lib.hid (fun w => rdigits_any U 4 w (by have := HUS.out; omega))
        obtain ⟨R2, hR2⟩ : ∃ r, dgt U 4 = r := ⟨_, rfl⟩
        rw [hR2] at HDG2
        have HRR2 := Lib.hid hR2
        clear hR2
        go_upto_region 1 with fail
        generalize (w3.alloc (.cells #[.bool nn, .slice a3 l3 c3] 61)) = w4 at *
        generalize w3.heap.size = g at *
        clear e0 e1
        go_wp2_with fail
        refine (HDG2.out _).mono ?_; rintro e w5 ⟨rfl, rfl⟩
        by_cases s0 : R2 < 0
        · have u2 : decide (R2 < 0) = true := decide_eq_true s0
          have HX := Lib.hid s0
          clear s0
          go_wp2_with fail
          go_ret2
          exact PO.no HN.out (fun x hx hxr => by
            obtain ⟨e, ⟨k1, k2, k3⟩, k4, k5, k6⟩ := HEX.out x hx hxr
            have k7 := ok_dgt k1 k2
            rw [HRR2.out] at k7
            have := HX.out; omega) HB3.out
        have u2 : decide (R2 < 0) = false := decide_eq_false s0
        have hp := dgt_pos (s := U) (most := 4) (by rw [HRR2.out]; exact s0)
        have hpre := pre_ok (s := U) (most := 4) (by rw [HRR2.out]; exact s0) (by decide)
        clear s0
        obtain ⟨k, hnd⟩ : ∃ n, nd U = n := ⟨_, rfl⟩
        have hkz := (nd_all U).1
        rw [hnd] at hp hpre hkz
        obtain ⟨hp1, hp2, hp3, -⟩ := hp
        rw [HRR2.out] at hp1
        subst hp1
        by_cases s1 : k < U.size
        · have u3 : decide ((k : Int) < (U.size : Int)) = true := decide_eq_true (by omega)
          have u3' : decide (k < U.size) = true := decide_eq_true s1
          have HX := Lib.hid s1
          clear s1 hp2 hp3 hpre hnd hkz
          go_wp2_with fail
          go_ret2
          exact PO.no HN.out (fun x hx hxr => by
            obtain ⟨e, ⟨k1, k2, k3⟩, k4, k5, k6⟩ := HEX.out x hx hxr
            have k7 := ok_dgt k1 k2
            rw [HRR2.out] at k7
            have := HX.out; omega) HB3.out
        have u3 : decide ((k : Int) < (U.size : Int)) = false := decide_eq_false (by omega)
        have u3' : decide (k < U.size) = false := decide_eq_false s1
        have hkv : k = U.size := by omega
        have hok : OkText U := by
          have : U.extract 0 k = U := lb_inj (by rw [lb_pre, hkv, ← lb_size, List.take_length])
          rw [this] at hpre
          exact hpre.1
        have HTS := Lib.hid (tv_small hok (by omega))
        have HK4 : Hid (k ≤ 4) := Lib.hid hp3
        have HKV := Lib.hid hkv
        have HOK := Lib.hid hok
        clear s1 hp2 hp3 hpre hnd hkz hok hkv
        go_wp2_with fail
        go_loopg [12, 13] U.size (fun g2 e i wr => wr = w4 ∧ ∃ j : Nat, i = .int .i64 (j : Int) ∧ j + g2 = U.size ∧ e = .int .i64 (tv U j))
        case atStart => exact ⟨rfl, 0, rfl, by omega, rfl⟩
        case round =>
          obtain ⟨rfl, j, rfl, hj, rfl⟩ := hrel
          by_cases hlt : j < k
          · have hjV : j < U.size := by have := HKV.out; omega
            obtain ⟨hb0, hb1⟩ := HTS.out j (by omega)
            have hsd := HOK.out.2.2.2 j hjV
            have hc2 := sb_at hjV
            obtain ⟨c2, hc2e⟩ : ∃ c : Int, ((U[j]'hjV).toNat : Int) = c := ⟨_, rfl⟩
            rw [hc2e] at hc2
            rw [hc2] at hsd
            have HTN : Hid (tv U (j + 1) = 10 * tv U j + c2 - 48) := Lib.hid (by show tv U j * 10 + (sb U j - 48) = _; rw [hc2]; omega)
            obtain ⟨y, hy⟩ : ∃ y, tv U j = y := ⟨_, rfl⟩
            rw [hy] at hb0 hb1 HTN
            rw [hy]
            obtain ⟨hs1, hs2⟩ := hsd
            have HJ := Lib.hid hj
            have l0 : decide ((j : Int) < (k : Int)) = true := decide_eq_true (by omega)
            have l0' : decide (j < k) = true := decide_eq_true hlt
            have hk4 := HK4.out
            have hg1 : 1 ≤ gk := by omega
            clear hj hc2 hy
            go_wp2_with fail
            go_roundg (gk - 1)
            case measure => omega
            case rel => exact ⟨rfl, j + 1, by go_num, by have := HJ.out; omega, by rw [HTN.out]⟩
          · obtain rfl : j = k := by have := HKV.out; omega
            obtain ⟨hb0, hb1⟩ := HTS.out j (by omega)
            obtain ⟨E, hE⟩ : ∃ E, tv U j = E := ⟨_, rfl⟩
            rw [hE] at hb0 hb1
            rw [hE]
            have HEE : Hid (tv U U.size = E) := Lib.hid (by rw [← HKV.out]; exact hE)
            have HEV : Hid (∀ e, ExpOf U false e → e = E) := Lib.hid (fun e h => by rw [h.2.2, HEE.out, if_neg (by decide)])
            clear hE hj hlt
            have l0 : decide ((j : Int) < (j : Int)) = false := decide_eq_false (by omega)
            have en0 : (0 : Int) ≤ E := hb0
            by_cases x1 : E < -1074
            · exfalso; omega
            have y1 : decide (E < -1074) = false := decide_eq_false x1
            by_cases x2 : 1023 < E
            · have y2 : decide (1023 < E) = true := decide_eq_true x2
              have HX := Lib.hid x2
              clear x1 x2
              go_wp2_with fail
              go_ret2
              exact PO.no HN.out (fun x hx hxr => by
                obtain ⟨e, h1, h2, h3, -⟩ := HEX.out x hx hxr
                have := HEV.out e h1
                have := HX.out; omega) HB3.out
            have y2 : decide (1023 < E) = false := decide_eq_false x2
            clear x1 x2
            have HJN := Lib.hid (rjoin_any false nn a3 l3 c3 M 64 E wr HN3.out HM2.out (by decide))
            obtain ⟨f0, f1⟩ := HE01.out
            obtain ⟨X, hX⟩ : ∃ x, joinN false M E = x := ⟨_, rfl⟩
            have hXl : X < 18446744073709551616 := by rw [← hX]; exact join_lt44 _ _ _
            rw [hX] at HJN
            have HXE := Lib.hid hX
            have HXL := Lib.hid hXl
            clear hX hXl
            go_wp2_with fail
            refine (HJN.out).mono ?_; rintro e w7 ⟨rfl, hb7⟩
            have HB7 := Lib.hid (HB3.out.trans (hb7.mono HB3.out.size))
            clear hb7 f0 f1
            go_wp2_with fail
            refine (rreal_txt X _ HXL.out).mono ?_; rintro e w8 ⟨r, rfl, hr, hb8⟩
            have HR := Lib.hid hr
            have HB8 := Lib.hid (HB7.out.trans (hb8.mono HB7.out.size))
            clear hr hb8
            by_cases hrs : r = s
            · subst hrs
              go_wp2_with fail
              go_ret2
              exact PO.yes HN.out HR.out HXL.out HB8.out
            · have t9 : (r.toList == s.toList) = false := by rw [Lib.toList_data s]; exact eq_list fun h => hrs (lb_inj h)
              have HRS := Lib.hid hrs
              clear hrs
              go_wp2_with fail
              go_ret2
              exact PO.no HN.out (fun x hx hxr => HRS.out (by
                obtain ⟨e, h1, -, -, h4⟩ := HEX.out x hx hxr
                rw [HEV.out e h1, HXE.out] at h4
                rw [h4] at hxr
                exact HR.out.one hxr)) HB8.out
  · have v0 : decide ((0 : Int) < (s.size : Int)) = false := decide_eq_false (by omega)
    have v0' : decide (0 < s.size) = false := decide_eq_false hp0
    have hbd := HBP.out (.inl (by omega))
    have hlt : decide ((s.size : Int) < (s.size : Int)) = false := decide_eq_false (by omega)
    have hR : dgt s 16 = -1 := by unfold dgt; rw [if_pos (.inl (by have := (nd_all s).1; omega))]
    have HDG := Lib.hid (fun w => rdigits_any s 16 w (by omega))
    rw [hR] at HDG
    have HP0 := Lib.hid hp0
    clear HBP HBM hR
    go_enter Tryz.func7, Tryz.ntmps7
    have HBD : Hid (bdy s = lb s ∧ ngB s = false) := Lib.hid hbd
    clear hbd
    by_cases hz : lb s = [48]
    · have t1 : (s.toList == [48]) = true := by rw [Lib.toList_data, beq_iff_eq]; exact hz
      have HX := HR0.out (by rw [HBD.out.1]; exact hz)
      rw [HBD.out.2] at HX
      have HX := Lib.hid HX
      have HSG := Lib.hid (fun w => rsign_any false 0 w (by decide))
      clear hz
      go_wp2_with fail
      refine (HSG.out _).mono ?_; rintro e w7 ⟨rfl, rfl⟩
      go_wp2_with fail
      go_ret2
      exact PO.yes HN.out HX.out (by decide) (Below.refl _ _)
    have t1 : (s.toList == [48]) = false := eq_list hz
    by_cases hi : lb s = [105, 110, 102, 105, 110, 105, 116, 121]
    · have t2 : (s.toList == [105, 110, 102, 105, 110, 105, 116, 121]) = true := by rw [Lib.toList_data, beq_iff_eq]; exact hi
      have HX := HRI.out (by rw [HBD.out.1]; exact hi)
      rw [HBD.out.2] at HX
      have HX := Lib.hid HX
      have HSG := Lib.hid (fun w => rsign_any false INF w (by decide))
      have hqb : floatBits .quo .f64 4607182418800017408 0 = some INF := by rw [quo_zero (b := 0) (by decide) (by decide)]; rfl
      have hq := run_float_arith (P := Tryz.prog) w .quo 22 .f64 4607182418800017408 0 _ hqb
      clear hz hi
      go_wp2_with fail
      refine (HSG.out _).mono ?_; rintro e w7 ⟨rfl, rfl⟩
      go_wp2_with fail
      go_ret2
      exact PO.yes HN.out HX.out (by decide) (Below.refl _ _)
    have t2 : (s.toList == [105, 110, 102, 105, 110, 105, 116, 121]) = false := eq_list hi
    have HSH2 : Hid (∀ x, x < 18446744073709551616 → IsReal x s → ∃ t u e, lb s = lb t ++ 112 :: lb u ∧ OkText t ∧ t.size ≤ 16 ∧ IsNum e u ∧ -1074 ≤ e ∧ e ≤ 1023 ∧ x = joinN false (tv t t.size).toNat e) := Lib.hid (fun x hx h => by
      have := HSH.out x h hx (by rw [HBD.out.1]; exact hz) (by rw [HBD.out.1]; exact hi)
      rw [HBD.out.1, HBD.out.2] at this
      exact this)
    clear hz hi
    go_wp2_with fail
    refine (HDG.out _).mono ?_; rintro e w2 ⟨rfl, rfl⟩
    go_wp2_with fail
    go_ret2
    exact PO.no HN.out (fun x hx hxr => by
      obtain ⟨t, u, e, h1, h2, h3, -⟩ := HSH2.out x hx hxr
      obtain ⟨-, h5, -⟩ := shape_digits h1 h2
      have := HP0.out; omega) (Below.refl _ _)
end Go.Proofs.YtdbkgpakpadloaaGreatDoor
