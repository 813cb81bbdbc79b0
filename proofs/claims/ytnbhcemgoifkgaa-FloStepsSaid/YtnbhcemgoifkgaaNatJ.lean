/- Contract of package nat's word. Conditions: the words are below 2^32; the divisor has two words or more, and its highest is not 0. -/
import Derived.Test.YtnbhcemgoifkgaaNatI
namespace Go.Proofs.Ytnbhcemgoifkgaa
open Go.RowKit

theorem word_take (g gd off k c cd : Nat) (os ds : List Int) (q : Int) (w : World) (W D : Int) {top x2 d1 d2 P : Int} (hx : ArrP .u32 55 w g os) (hd : ∀ j, j < k + 2 → w.cell? ⟨gd, j, none⟩ = some (.int .u32 (ds.getD j 0))) (hm : ds.length = k + 2) (hg : gd ≠ g)
    (hon : off + (k + 3) ≤ os.length) (ho : Dig 4294967296 os) (hds : Dig 4294967296 ds) (hn : k ≤ 100000) (hW : win 4294967296 os off (k + 3) = W) (hD : V 4294967296 ds = D) (he : Est W D top x2 d1 d2 P) (hq0 : 0 ≤ q) (hq1 : q < 4294967296) (hQ : W / D ≤ q) (hN : q ≤ W / D + 1) :
    Calls Try.prog 88 #[.slice (some ⟨g, off, none⟩) (k + 3) c, .slice (some ⟨gd, 0, none⟩) (k + 2) cd, .int .u64 q] w fun e w' => ∃ (os' : List Int) (ok : Bool), e = .returned (.bool ok) ∧
      ArrP .u32 55 w' g os' ∧ os'.length = os.length ∧ Dig 4294967296 os' ∧ (∀ j, j < off ∨ off + (k + 3) ≤ j → os'.getD j 0 = os.getD j 0) ∧ Only g w w' ∧
      (ok = true → q = W / D ∧ win 4294967296 os' off (k + 3) = W % D) ∧ (ok = false → q = W / D + 1 ∧ win 4294967296 os' off (k + 3) = W - q * D + 4294967296 ^ (k + 3)) := by
  refine (take_any g gd off (k + 3) c (k + 2) cd os ds q w hx hd hm hg hon ho hds (by omega) (by omega) hq0 hq1).mono ?_
  rintro e w' ⟨os', bo, cy, rfl, hb0, hb1, -, harr, hlo, hdo, hsame, honly, hcz, hv⟩
  refine ⟨os', _, rfl, harr, hlo, hdo, hsame, honly, ?_, ?_⟩
  all_goals
    rw [hcz (by omega), hW, hD, Int.zero_mul, Int.sub_zero] at hv
    obtain ⟨h0, h1⟩ := win_bd hdo off (k + 3)
    obtain ⟨hQ0, hQ1, hQ2⟩ := he.QD
    have hDp := he.Dpos
    have hem := Int.mul_ediv_add_emod W D
    rw [Int.mul_comm] at hem
  · intro hok
    have hbo : bo = 0 := by simpa using hok
    rw [hbo, Int.zero_mul, Int.add_zero] at hv
    have h2 : q ≤ W / D := (Int.le_ediv_iff_mul_le hDp).2 (by omega)
    have h3 : q = W / D := by omega
    refine ⟨h3, ?_⟩
    rw [hv, h3]
    omega
  · intro hok
    have hbo : bo = 1 := by
      have : ¬ (bo = 0) := by simpa using hok
      omega
    rw [hbo, Int.one_mul] at hv
    refine ⟨?_, hv⟩
    rcases Int.lt_or_le (W / D) q with h2 | h2
    · omega
    · have h3 : q = W / D := by omega
      rw [h3] at hv
      omega

theorem word_give (g gd off k c cd : Nat) (os ds : List Int) (w : World) (W D q : Int) {top x2 d1 d2 P : Int} (hx : ArrP .u32 55 w g os) (hd : ∀ j, j < k + 2 → w.cell? ⟨gd, j, none⟩ = some (.int .u32 (ds.getD j 0))) (hm : ds.length = k + 2) (hg : gd ≠ g)
    (hon : off + (k + 3) ≤ os.length) (ho : Dig 4294967296 os) (hds : Dig 4294967296 ds) (hn : k ≤ 100000) (hD : V 4294967296 ds = D) (he : Est W D top x2 d1 d2 P) (hq : q = W / D + 1) (hW : win 4294967296 os off (k + 3) = W - q * D + 4294967296 ^ (k + 3)) :
    Calls Try.prog 89 #[.slice (some ⟨g, off, none⟩) (k + 3) c, .slice (some ⟨gd, 0, none⟩) (k + 2) cd] w fun e w' => ∃ (os' : List Int), e = .returned (.tuple #[]) ∧
      ArrP .u32 55 w' g os' ∧ os'.length = os.length ∧ Dig 4294967296 os' ∧ (∀ j, j < off ∨ off + (k + 3) ≤ j → os'.getD j 0 = os.getD j 0) ∧ Only g w w' ∧ win 4294967296 os' off (k + 3) = W % D := by
  refine (give_any g gd off (k + 3) c (k + 2) cd os ds w hx hd hm hg hon ho hds (by omega) (by omega)).mono ?_
  rintro e w' ⟨os', cy, rfl, hc0, hc1, harr, hlo, hdo, hsame, honly, hv⟩
  refine ⟨os', rfl, harr, hlo, hdo, hsame, honly, ?_⟩
  rw [hW, hD, hq, Int.add_mul, Int.one_mul] at hv
  obtain ⟨h0, h1⟩ := win_bd hdo off (k + 3)
  obtain ⟨hQ0, hQ1, hQ2⟩ := he.QD
  have hem := Int.mul_ediv_add_emod W D
  rw [Int.mul_comm] at hem
  rcases (by omega : cy = 0 ∨ cy = 1) with rfl | rfl
  · rw [Int.zero_mul] at hv; omega
  · rw [Int.one_mul] at hv; omega

set_option maxRecDepth 100000 in
set_option maxHeartbeats 4000000 in
theorem word_any (g gd off k c cd : Nat) (os ds : List Int) (w : World) (hx : ArrP .u32 55 w g os) (hd : ∀ j, j < k + 2 → w.cell? ⟨gd, j, none⟩ = some (.int .u32 (ds.getD j 0))) (hm : ds.length = k + 2) (hg : gd ≠ g)
    (hon : off + (k + 3) ≤ os.length) (ho : Dig 4294967296 os) (hds : Dig 4294967296 ds) (hn : k ≤ 100000) (h1 : 1 ≤ ds.getD (k + 1) 0) (hlt : win 4294967296 os off (k + 3) < V 4294967296 ds * 4294967296) :
    Calls Try.prog 69 #[.slice (some ⟨g, off, none⟩) (k + 3) c, .slice (some ⟨gd, 0, none⟩) (k + 2) cd] w fun e w' => ∃ (os' : List Int), e = .returned (.int .u32 (win 4294967296 os off (k + 3) / V 4294967296 ds)) ∧
      ArrP .u32 55 w' g os' ∧ os'.length = os.length ∧ Dig 4294967296 os' ∧ (∀ j, j < off ∨ off + (k + 3) ≤ j → os'.getD j 0 = os.getD j 0) ∧ Only g w w' ∧
      win 4294967296 os' off (k + 3) = win 4294967296 os off (k + 3) % V 4294967296 ds := by
  have HEST := Lib.hid (est_of ho hds hm h1 hlt)
  have c1 := hx.cell (i := off + (k + 2)) (by omega)
  have c2 := hx.cell (i := off + (k + 1)) (by omega)
  have c4 := hd (k + 1) (by omega)
  have r1 := ho.at (by decide) (off + (k + 2))
  have r2 := ho.at (by decide) (off + (k + 1))
  have r3 := ho.at (by decide) (off + k)
  have r4 := hds.at (by decide) (k + 1)
  have r5 := hds.at (by decide) k
  have HX := Lib.hid hx
  have HD := Lib.hid hd
  have HM := Lib.hid hm
  have HON := Lib.hid hon
  have HO := Lib.hid ho
  have HDS := Lib.hid hds
  have hd5 := hd k (by omega)
  have hx3 := hx.cell (i := off + k) (by omega)
  obtain ⟨xa, hxa⟩ : ∃ d, os.getD (off + (k + 2)) 0 = d := ⟨_, rfl⟩
  obtain ⟨xb, hxb⟩ : ∃ d, os.getD (off + (k + 1)) 0 = d := ⟨_, rfl⟩
  obtain ⟨x2, hx2⟩ : ∃ d, os.getD (off + k) 0 = d := ⟨_, rfl⟩
  obtain ⟨d1, hd1⟩ : ∃ d, ds.getD (k + 1) 0 = d := ⟨_, rfl⟩
  obtain ⟨d2, hd2⟩ : ∃ d, ds.getD k 0 = d := ⟨_, rfl⟩
  rw [hxa, hxb, hx2, hd1, hd2] at HEST
  rw [hxa] at c1 r1
  rw [hxb] at c2 r2
  rw [hx2] at hx3 r3
  rw [hd1] at c4 r4 h1
  rw [hd2] at hd5 r5
  have HX3 := Lib.hid hx3
  have HD5 := Lib.hid hd5
  have HD4 := Lib.hid c4
  obtain ⟨W, hW⟩ : ∃ W, win 4294967296 os off (k + 3) = W := ⟨_, rfl⟩
  obtain ⟨D, hDD⟩ : ∃ D, V 4294967296 ds = D := ⟨_, rfl⟩
  rw [hW, hDD] at HEST ⊢
  have HW := Lib.hid hW
  have HDD := Lib.hid hDD
  clear hx hd hm hon ho hds hlt hxa hxb hx2 hd1 hd2 hW hDD hx3 hd5
  obtain ⟨a0, a1⟩ := r1
  obtain ⟨b0, b1⟩ := r2
  obtain ⟨x0, x1⟩ := r3
  obtain ⟨p0, p1⟩ := r4
  obtain ⟨s0, s1⟩ := r5
  have e1 : IntKind.u64.wrap (xa * 4294967296) = xa * 4294967296 := IntWalk.u64_in _ (by omega)
  have e2 := hi_lo a0 a1 b0 b1
  have hdq : (d1 == 0) = false := by simp; omega
  go_enter Try.func69, Try.ntmps69
  go_wp2_with fail
  go_quiet (fail)
  go_wp2_with fail
  clear e1 e2
  obtain ⟨T, hT⟩ : ∃ T, xa * 4294967296 + xb = T := ⟨_, rfl⟩
  have t0 : 0 ≤ T := by omega
  have t1 : T ≤ 18446744073709551615 := by omega
  rw [hT] at HEST ⊢
  have HTOP := Lib.hid HEST.out.top
  have HQ0 := Lib.hid HEST.out.QD.1
  have HQB := Lib.hid HEST.out.below
  have q0 : 0 ≤ T / d1 := Int.ediv_nonneg t0 (by omega)
  have q1 : T / d1 ≤ T := Int.ediv_le_self _ t0
  have HTQ : Hid (T / d1 * d1 + T % d1 = T) := Lib.hid (by rw [Int.mul_comm]; exact Int.mul_ediv_add_emod _ _)
  have l0 : 0 ≤ T % d1 := Int.emod_nonneg _ (by omega)
  have l1 : T % d1 < d1 := Int.emod_lt_of_pos _ (by omega)
  go_loopg [7, 8] (T / d1).toNat (fun k2 qu lu wr => ∃ (q left : Int), qu = .int .u64 q ∧ lu = .int .u64 left ∧ q ≤ k2 ∧ 0 ≤ q ∧ q ≤ 18446744073709551615 ∧ 0 ≤ left ∧ left < 4294967296 ∧ q * d1 + left = T ∧ W / D ≤ q ∧ ArrP .u32 55 wr g os ∧ Only g w wr)
  case atStart => exact ⟨_, _, rfl, rfl, by omega, q0, by omega, l0, by omega, HTQ.out, HEST.out.start, HX.out, (Only.refl _ _).dn _⟩
  case round =>
    obtain ⟨q, left, rfl, rfl, hk, hq0, hq1, hl0, hl1, hv, hQ, harr, honly⟩ := hrel
    clear c1 c2 hT q0 q1 l0 l1
    have c4 : wr.cell? ⟨gd, k + 1, none⟩ = some (.int .u32 d1) := by rw [honly.cell hg]; exact HD4.out
    have c5 : wr.cell? ⟨gd, k, none⟩ = some (.int .u32 d2) := by rw [honly.cell hg]; exact HD5.out
    have c3 : wr.cell? ⟨g, off + k, none⟩ = some (.int .u32 x2) := by
      have h := harr.cell (i := off + k) (by have := HON.out; omega)
      rw [h, ← (HX.out.cell (i := off + k) (by have := HON.out; omega)).symm.trans HX3.out |> Option.some.inj]
    have HQ := Lib.hid hQ
    have HV := Lib.hid hv
    have HARR := Lib.hid harr
    have HONLY := Lib.hid honly
    clear hQ hv harr honly
    by_cases hqB : 4294967296 ≤ q
    · have hb1 : decide (q ≥ 4294967296) = true := by simp; omega
      have hdec : Hid (W / D ≤ q - 1) := Lib.hid (by have := HQB.out; omega)
      have hqp : 1 ≤ q := by have := hdec.out; have := HQ0.out; omega
      have e3 : IntKind.u64.wrap (q - 1) = q - 1 := IntWalk.u64_in _ (by omega)
      have hv2 : Hid ((q - 1) * d1 + (left + d1) = T) := Lib.hid (by rw [Int.sub_mul, Int.one_mul]; have := HV.out; omega)
      by_cases hbr : 4294967296 ≤ left + d1
      · have hqs : q - 1 < 4294967296 := by
          have h2 := hv2.out
          have h3 := HTOP.out
          rw [Int.add_mul, Int.one_mul] at h3
          have h4 : (q - 1) * d1 < 4294967296 * d1 := by omega
          exact Int.lt_of_mul_lt_mul_right h4 (by omega)
        have HN := Lib.hid (HEST.out.near (q := q - 1) (by omega) hqs hv2.out (Est.brk (by omega) hqs s0 s1 hbr x0))
        go_wp2_with fail
        go_quiet (fail)
        go_wp2_with fail
        have hqp0 : 0 ≤ q - 1 := by omega
        generalize hqe : q - 1 = q' at *
        clear hqe
        have HTK := Lib.hid (word_take g gd off k c cd os ds (q') (wr.drewN nq) W D (HARR.out) (fun j hj => by rw [(HONLY.out.dn nq).cell hg]; exact HD.out j hj) HM.out hg HON.out HO.out HDS.out hn HW.out HDD.out HEST.out (by omega) (by omega) hdec.out HN.out)
        go_wp2_with fail
        refine HTK.out.mono ?_; rintro e w1 ⟨os1, ok, rfl, harr1, hlo1, hdo1, hsame1, honly1, hok1, hok2⟩
        have HS1 := Lib.hid hsame1
        have HO1 := Lib.hid ((HONLY.out.dn nq).trans honly1)
        have HL1 := Lib.hid hlo1
        have HD1 := Lib.hid hdo1
        have HA1 := Lib.hid harr1
        cases ok with
        | true =>
          obtain ⟨hqq, hww⟩ := hok1 rfl
          have HQQ := Lib.hid hqq
          have HWW := Lib.hid hww
          have hqm : (q') % 4294967296 = q' := by omega
          clear hsame1 hlo1 hdo1 harr1 hok1 hok2 hqq hww honly1
          go_wp2_with fail
          go_ret
          exact ⟨os1, ret_int (by rw [← HQQ.out]), HA1.out, HL1.out, HD1.out, HS1.out, HO1.out, HWW.out⟩
        | false =>
          obtain ⟨hqq, hww⟩ := hok2 rfl
          have HQQ := Lib.hid hqq
          have hq1 : 1 ≤ q' := by have := HQ0.out; omega
          have HGV := Lib.hid (word_give g gd off k c cd os1 ds w1 W D (q') harr1 (fun j hj => by rw [HO1.out.cell hg]; exact HD.out j hj) HM.out hg (by rw [hlo1]; exact HON.out) hdo1 HDS.out hn HDD.out HEST.out hqq hww)
          have e9 : IntKind.u64.wrap (q' - 1) = q' - 1 := IntWalk.u64_in _ (by omega)
          have hqm : (q' - 1) % 4294967296 = q' - 1 := by omega
          clear hsame1 hlo1 hdo1 harr1 hok1 hok2 hqq hww honly1
          go_wp2_with fail
          refine HGV.out.mono ?_; rintro e w2 ⟨os2, rfl, harr2, hlo2, hdo2, hsame2, honly2, hww2⟩
          have HS2 := Lib.hid hsame2
          have HO2 := Lib.hid (HO1.out.trans honly2)
          have HL2 := Lib.hid hlo2
          have HD2 := Lib.hid hdo2
          have HA2 := Lib.hid harr2
          have HW2 := Lib.hid hww2
          clear hsame2 hlo2 hdo2 harr2 honly2 hww2
          go_wp2_with fail
          go_ret
          exact ⟨os2, ret_int (by have := HQQ.out; omega), HA2.out, HL2.out.trans HL1.out, HD2.out, fun j hj => (HS2.out j hj).trans (HS1.out j hj), HO2.out, HW2.out⟩
      · go_wp2_with fail
        go_quiet (fail)
        go_wp2_with fail
        go_roundg (gk - 1)
        case measure => omega
        case rel => exact ⟨q - 1, left + d1, rfl, rfl, by omega, by omega, by omega, by omega, by omega, hv2.out, hdec.out, HARR.out, HONLY.out.dn _⟩
    · have hb1 : decide (q ≥ 4294967296) = false := by simp; omega
      obtain ⟨z0, z1⟩ := prod_bd (A := 4294967295) (B := 4294967295) hq0 s0 (by omega) (by omega)
      have e4 : IntKind.u64.wrap (q * d2) = q * d2 := IntWalk.u64_in _ (by omega)
      have e5 : IntKind.u64.wrap (left * 4294967296) = left * 4294967296 := IntWalk.u64_in _ (by omega)
      have e6 := hi_lo hl0 hl1 x0 x1
      by_cases hgt : left * 4294967296 + x2 < q * d2
      · have hb2 : decide (q * d2 > left * 4294967296 + x2) = true := by simp; omega
        have hdec : Hid (W / D ≤ q - 1) := Lib.hid (HEST.out.dec HQ.out HV.out hgt)
        have hqp : 1 ≤ q := by have := hdec.out; have := HQ0.out; omega
        have e3 : IntKind.u64.wrap (q - 1) = q - 1 := IntWalk.u64_in _ (by omega)
        have hv2 : Hid ((q - 1) * d1 + (left + d1) = T) := Lib.hid (by rw [Int.sub_mul, Int.one_mul]; have := HV.out; omega)
        by_cases hbr : 4294967296 ≤ left + d1
        · have hqs : q - 1 < 4294967296 := by
            have h2 := hv2.out
            have h3 := HTOP.out
            rw [Int.add_mul, Int.one_mul] at h3
            have h4 : (q - 1) * d1 < 4294967296 * d1 := by omega
            exact Int.lt_of_mul_lt_mul_right h4 (by omega)
          have HN := Lib.hid (HEST.out.near (q := q - 1) (by omega) hqs hv2.out (Est.brk (by omega) hqs s0 s1 hbr x0))
          go_wp2_with fail
          go_quiet (fail)
          go_wp2_with fail
          have hqp0 : 0 ≤ q - 1 := by omega
          generalize hqe : q - 1 = q' at *
          clear hqe
          have HTK := Lib.hid (word_take g gd off k c cd os ds (q') (wr.drewN nq) W D (HARR.out) (fun j hj => by rw [(HONLY.out.dn nq).cell hg]; exact HD.out j hj) HM.out hg HON.out HO.out HDS.out hn HW.out HDD.out HEST.out (by omega) (by omega) hdec.out HN.out)
          go_wp2_with fail
          refine HTK.out.mono ?_; rintro e w1 ⟨os1, ok, rfl, harr1, hlo1, hdo1, hsame1, honly1, hok1, hok2⟩
          have HS1 := Lib.hid hsame1
          have HO1 := Lib.hid ((HONLY.out.dn nq).trans honly1)
          have HL1 := Lib.hid hlo1
          have HD1 := Lib.hid hdo1
          have HA1 := Lib.hid harr1
          cases ok with
          | true =>
            obtain ⟨hqq, hww⟩ := hok1 rfl
            have HQQ := Lib.hid hqq
            have HWW := Lib.hid hww
            have hqm : (q') % 4294967296 = q' := by omega
            clear hsame1 hlo1 hdo1 harr1 hok1 hok2 hqq hww honly1
            go_wp2_with fail
            go_ret
            exact ⟨os1, ret_int (by rw [← HQQ.out]), HA1.out, HL1.out, HD1.out, HS1.out, HO1.out, HWW.out⟩
          | false =>
            obtain ⟨hqq, hww⟩ := hok2 rfl
            have HQQ := Lib.hid hqq
            have hq1 : 1 ≤ q' := by have := HQ0.out; omega
            have HGV := Lib.hid (word_give g gd off k c cd os1 ds w1 W D (q') harr1 (fun j hj => by rw [HO1.out.cell hg]; exact HD.out j hj) HM.out hg (by rw [hlo1]; exact HON.out) hdo1 HDS.out hn HDD.out HEST.out hqq hww)
            have e9 : IntKind.u64.wrap (q' - 1) = q' - 1 := IntWalk.u64_in _ (by omega)
            have hqm : (q' - 1) % 4294967296 = q' - 1 := by omega
            clear hsame1 hlo1 hdo1 harr1 hok1 hok2 hqq hww honly1
            go_wp2_with fail
            refine HGV.out.mono ?_; rintro e w2 ⟨os2, rfl, harr2, hlo2, hdo2, hsame2, honly2, hww2⟩
            have HS2 := Lib.hid hsame2
            have HO2 := Lib.hid (HO1.out.trans honly2)
            have HL2 := Lib.hid hlo2
            have HD2 := Lib.hid hdo2
            have HA2 := Lib.hid harr2
            have HW2 := Lib.hid hww2
            clear hsame2 hlo2 hdo2 harr2 honly2 hww2
            go_wp2_with fail
            go_ret
            exact ⟨os2, ret_int (by have := HQQ.out; omega), HA2.out, HL2.out.trans HL1.out, HD2.out, fun j hj => (HS2.out j hj).trans (HS1.out j hj), HO2.out, HW2.out⟩
        · go_wp2_with fail
          go_quiet (fail)
          go_wp2_with fail
          go_roundg (gk - 1)
          case measure => omega
          case rel => exact ⟨q - 1, left + d1, rfl, rfl, by omega, by omega, by omega, by omega, by omega, hv2.out, hdec.out, HARR.out, HONLY.out.dn _⟩
      · have hb2 : decide (q * d2 > left * 4294967296 + x2) = false := by simp; omega
        have HN := Lib.hid (HEST.out.near hq0 (by omega) HV.out (by omega))
        go_wp2_with fail
        go_quiet (fail)
        go_wp2_with fail
        have HTK := Lib.hid (word_take g gd off k c cd os ds (q) (wr.drewN nq) W D (HARR.out) (fun j hj => by rw [(HONLY.out.dn nq).cell hg]; exact HD.out j hj) HM.out hg HON.out HO.out HDS.out hn HW.out HDD.out HEST.out hq0 (by omega) HQ.out HN.out)
        go_wp2_with fail
        refine HTK.out.mono ?_; rintro e w1 ⟨os1, ok, rfl, harr1, hlo1, hdo1, hsame1, honly1, hok1, hok2⟩
        have HS1 := Lib.hid hsame1
        have HO1 := Lib.hid ((HONLY.out.dn nq).trans honly1)
        have HL1 := Lib.hid hlo1
        have HD1 := Lib.hid hdo1
        have HA1 := Lib.hid harr1
        cases ok with
        | true =>
          obtain ⟨hqq, hww⟩ := hok1 rfl
          have HQQ := Lib.hid hqq
          have HWW := Lib.hid hww
          have hqm : (q) % 4294967296 = q := by omega
          clear hsame1 hlo1 hdo1 harr1 hok1 hok2 hqq hww honly1
          go_wp2_with fail
          go_ret
          exact ⟨os1, ret_int (by rw [← HQQ.out]), HA1.out, HL1.out, HD1.out, HS1.out, HO1.out, HWW.out⟩
        | false =>
          obtain ⟨hqq, hww⟩ := hok2 rfl
          have HQQ := Lib.hid hqq
          have hq1 : 1 ≤ q := by have := HQ0.out; omega
          have HGV := Lib.hid (word_give g gd off k c cd os1 ds w1 W D (q) harr1 (fun j hj => by rw [HO1.out.cell hg]; exact HD.out j hj) HM.out hg (by rw [hlo1]; exact HON.out) hdo1 HDS.out hn HDD.out HEST.out hqq hww)
          have e9 : IntKind.u64.wrap (q - 1) = q - 1 := IntWalk.u64_in _ (by omega)
          have hqm : (q - 1) % 4294967296 = q - 1 := by omega
          clear hsame1 hlo1 hdo1 harr1 hok1 hok2 hqq hww honly1
          go_wp2_with fail
          refine HGV.out.mono ?_; rintro e w2 ⟨os2, rfl, harr2, hlo2, hdo2, hsame2, honly2, hww2⟩
          have HS2 := Lib.hid hsame2
          have HO2 := Lib.hid (HO1.out.trans honly2)
          have HL2 := Lib.hid hlo2
          have HD2 := Lib.hid hdo2
          have HA2 := Lib.hid harr2
          have HW2 := Lib.hid hww2
          clear hsame2 hlo2 hdo2 harr2 honly2 hww2
          go_wp2_with fail
          go_ret
          exact ⟨os2, ret_int (by have := HQQ.out; omega), HA2.out, HL2.out.trans HL1.out, HD2.out, fun j hj => (HS2.out j hj).trans (HS1.out j hj), HO2.out, HW2.out⟩
end Go.Proofs.Ytnbhcemgoifkgaa
