/- Contract of package bushelref02's Of. Conditions: the number is not below 0; at most 100000 digits of base 1000. -/
import Derived.Test.YtgdddpbdcdheeaaNatR
import Derived.Test.YtgdddpbdcdheeaaMRef02
namespace Go.Proofs.Ytgdddpbdcdheeaa
open Go.RowKit

theorem OwnK.zero (k : IntKind) (w : World) (e : TypeId) : OwnK k (w.alloc (.cells #[] e)) w.heap.size e (.slice (some ⟨w.heap.size, 0, none⟩) 0 0) 0 [] := by
  refine ⟨rfl, .inr ⟨w.heap.size, 0, #[], rfl, Nat.le_refl _, heap_alloc_new w _, Nat.le_refl _, by unfold maxLen; omega, by simp, by simp⟩⟩
theorem of_step {ys ys' : List Int} {D lf x s q r : Int} {j m : Nat} (hj : j < m) (hjl : j < ys'.length) (hx : ys.getD j 0 = x) (hs : s = lf * 1000 + x) (hq : s = q * 4294967296 + r)
    (hv : D = vf 1000 (fun i => ys.getD i 0) (j + 1) + lf * 1000 ^ (j + 1) + 4294967296 * (vf 1000 (fun i => ys'.getD i 0) m - vf 1000 (fun i => ys'.getD i 0) (j + 1))) :
    D = vf 1000 (fun i => ys.getD i 0) j + r * 1000 ^ j + 4294967296 * (vf 1000 (fun i => (ys'.set j q).getD i 0) m - vf 1000 (fun i => (ys'.set j q).getD i 0) j) := by
  have e1 : vf 1000 (fun i => ys.getD i 0) (j + 1) = vf 1000 (fun i => ys.getD i 0) j + x * 1000 ^ j := by rw [← hx]; rfl
  have e2 : vf 1000 (fun i => (ys'.set j q).getD i 0) (j + 1) = vf 1000 (fun i => (ys'.set j q).getD i 0) j + q * 1000 ^ j := by
    show _ + (ys'.set j q).getD j 0 * 1000 ^ j = _
    rw [getD_set_self hjl]
  obtain ⟨r', hr'⟩ : ∃ r', m = j + 1 + r' := ⟨m - (j + 1), by omega⟩
  have e3 := vf_same_above (B := 1000) (f := fun i => (ys'.set j q).getD i 0) (g := fun i => ys'.getD i 0) (j + 1) r' (fun i h1 h2 => getD_set_ne (by omega))
  rw [← hr'] at e3
  have e4 : s * 1000 ^ j = q * 1000 ^ j * 4294967296 + r * 1000 ^ j := by rw [hq, Int.add_mul, Int.mul_right_comm]
  have e5 : s * 1000 ^ j = lf * 1000 ^ (j + 1) + x * 1000 ^ j := by rw [hs, Int.add_mul, Int.pow_succ, Int.mul_assoc, Int.mul_comm 1000]
  rw [hv, e1]
  omega
theorem of_len {z D : Int} {L wl : Nat} {v : Int} (hz : z = v + 4294967296 ^ L * D) (hv : 0 ≤ v) (hD : 1 ≤ D) (hw : z < 1000 ^ wl) : L < wl := by
  have p : (0 : Int) < 4294967296 ^ L := Int.pow_pos (by decide)
  have h1 := Int.mul_le_mul_of_nonneg_left hD (Int.le_of_lt p)
  have h2 : (1000 : Nat) ^ wl ≤ 4294967296 ^ wl := Nat.pow_le_pow_left (by decide) wl
  have e1 : ((1000 ^ wl : Nat) : Int) = 1000 ^ wl := by rw [Int.natCast_pow]; rfl
  have e2 : ((4294967296 ^ wl : Nat) : Int) = 4294967296 ^ wl := by rw [Int.natCast_pow]; rfl
  rcases Nat.lt_or_ge L wl with h | h
  · exact h
  · have h3 : (4294967296 : Int) ^ wl ≤ 4294967296 ^ L := ipow_le (by decide) h
    omega
theorem vf_pos {ys : List Int} {m : Nat} (h : Dig 1000 ys) (hm : m ≤ ys.length) (h0 : 0 < m) (ht : ys.getD (m - 1) 0 ≠ 0) : 1 ≤ vf 1000 (fun i => ys.getD i 0) m := by
  obtain ⟨k, rfl⟩ : ∃ k, m = k + 1 := ⟨m - 1, by omega⟩
  have h1 := (vf_bd (B := 1000) (by decide) (f := fun i => ys.getD i 0) k fun i _ => h.at (by decide) i).1
  have h2 := h.at (B := 1000) (by decide) k
  have p : (0 : Int) < 1000 ^ k := Int.pow_pos (by decide)
  rw [Nat.add_sub_cancel] at ht
  have h3 := Int.mul_le_mul_of_nonneg_right (show 1 ≤ ys.getD k 0 by omega) (Int.le_of_lt p)
  show 1 ≤ vf 1000 (fun i => ys.getD i 0) k + ys.getD k 0 * 1000 ^ k
  omega

set_option maxRecDepth 100000 in
set_option maxHeartbeats 2000000 in
theorem rof_any (wn : Bool) (wa : Option Addr) (wl wc : Nat) (z : Int) (w : World) (h : NumC w wn wa wl wc z) (h0 : 0 ≤ z) (hl : wl ≤ 100000) :
    Calls Try.prog 37 #[.agg #[.bool wn, .slice wa wl wc]] w (RetNat w z) := by
  obtain ⟨xs, hr, hd, ht, hz, -⟩ := h
  have hv0 := (V_bd (B := 1000) (by decide) hd).1
  have HZ : Hid (V 1000 xs = z) := Lib.hid (by
    rw [hz]
    cases wn <;> simp at hz ⊢
    omega)
  have HR := Lib.hid hr
  have HD := Lib.hid hd
  have HT := Lib.hid ht
  clear hr hd ht hz hv0
  have hb := (Below.refl w.heap.size w).alloc (Nat.le_refl _) (.cells #[.bool wn, .slice wa wl wc] 28)
  have hk := Blk.new w 28 #[.bool wn, .slice wa wl wc]
  have HB := Lib.hid hb
  have x1 : (w.alloc (.cells #[.bool wn, .slice wa wl wc] 28)).cell? ⟨w.heap.size, 1, none⟩ = some (.slice wa wl wc) := hk.cell 1
  clear hb hk
  go_enter Try.func37, Try.ntmps37
  go_upto_region 1 with fail
  have hlv : w.heap.size < (w.alloc (.cells #[.bool wn, .slice wa wl wc] 28)).heap.size := by simp
  generalize w.alloc (.cells #[.bool wn, .slice wa wl wc] 28) = v at *
  have HRV := Lib.hid (HR.out.below (HB.out.trans ((Below.refl _ _).alloc (Nat.le_of_lt hlv) (.cells #[] 3))) (Nat.le_refl _))
  go_wp2_with (at_builtin; refine wpList_append_row .i64 26 3 8 info_int (by decide) Try.underlying26 rfl _ _ rfl (v.alloc (.cells #[] 3)) v.heap.size (.slice (some ⟨v.heap.size, 0, none⟩) 0 0) 0 [] wa wl wc xs rfl rfl (OwnK.zero _ _ _) HRV.out HRV.out.none' (by omega) (by simp) ?_)
  intro v1 w1 hown hgr hbl
  have HB1 := Lib.hid (HB.out.trans ((hbl v ((Below.refl _ _).alloc (Nat.le_refl _) _)).mono (Nat.le_of_lt hlv)))
  have HOW := Lib.hid hown
  clear hown hgr hbl x1 HRV
  by_cases hw0 : wl = 0
  · obtain ⟨p, c, hv⟩ := HOW.out.form
    subst hv
    have hx0 : xs = [] := List.eq_nil_of_length_eq_zero (by rw [HR.out.1]; exact hw0)
    have HZ0 : Hid (V 4294967296 [] = z) := Lib.hid (by rw [← HZ.out, hx0]; rfl)
    subst hw0
    clear hx0
    go_wp2_with fail
    go_loopg [3, 4] 0 (fun _ du ou wr => du = .slice p 0 c ∧ ou = .slice none 0 0 ∧ wr = w1)
    case atStart => exact ⟨rfl, rfl, rfl⟩
    case round =>
      obtain ⟨rfl, rfl, rfl⟩ := hrel
      go_wp2_with fail
      go_ret
      exact ⟨none, 0, 0, rfl, ⟨[], RowK.nil, Dig.nil, .inl rfl, HZ0.out⟩, HB1.out, Fresh.nil⟩
  · obtain ⟨g, cap, rfl, hp, hgB, hcap, hcm⟩ := HOW.out.blk (by omega)
    have hgs := hp.lt
    have hgB' : w.heap.size ≤ g := Nat.le_trans (Nat.le_of_lt hlv) hgB
    have HP := Lib.hid hp
    have hws := HB1.out.size
    have hzb : Hid (z < 1000 ^ wl) := Lib.hid (by
      have h := (V_bd (B := 1000) (by decide) HD.out).2
      rw [HZ.out, HR.out.1] at h
      exact h)
    have HT0 : Hid (wl = 0 ∨ xs.getD (wl - 1) 0 ≠ 0) := Lib.hid (by
      rcases HT.out with h | h
      · exact .inl (by rw [← HR.out.1, h]; rfl)
      · exact .inr (by rw [← HR.out.1]; exact h))
    have HVX : Hid (vf 1000 (fun i => xs.getD i 0) wl = z) := Lib.hid (by rw [vf_ext (by rw [HR.out.1]; exact Nat.le_refl _)]; exact HZ.out)
    have HXL := Lib.hid HR.out.1
    clear hp HOW HR HZ HT HB
    go_wp2_with fail
    go_loopg [3, 4] z.toNat (fun q du ou wr => ∃ (m : Nat) (ys os : List Int), du = .slice (some ⟨g, 0, none⟩) m cap ∧ m ≤ wl ∧ ys.length = wl ∧ ArrP .i64 3 wr g ys ∧ Dig 1000 ys ∧ (m = 0 ∨ ys.getD (m - 1) 0 ≠ 0) ∧ OwnK .u32 wr w1.heap.size 87 ou os.length os ∧ Dig 4294967296 os ∧ z = V 4294967296 os + 4294967296 ^ os.length * vf 1000 (fun i => ys.getD i 0) m ∧ (m = 0 → Trimmed os) ∧
      vf 1000 (fun i => ys.getD i 0) m = (q : Int) ∧ Below w.heap.size w wr ∧ w1.heap.size ≤ wr.heap.size)
    case atStart => exact ⟨wl, xs, [], rfl, Nat.le_refl _, HXL.out, HP.out, HD.out, HT0.out, OwnK.nil _ _ _ _, Dig.nil, by rw [V_nil, HVX.out]; simp, fun h => absurd h hw0, by rw [HVX.out]; omega, HB1.out, Nat.le_refl _⟩
    case round =>
      obtain ⟨m, ys, os, rfl, hm, hyl, hp, hyd, hyt, hown, hod, hzv, htr, hq, hbl, hsz⟩ := hrel
      have HYL := Lib.hid hyl
      have HP2 := Lib.hid hp
      have HYD := Lib.hid hyd
      have HYT := Lib.hid hyt
      have HOW := Lib.hid hown
      have HOD := Lib.hid hod
      have HZV := Lib.hid hzv
      have HTR := Lib.hid htr
      have HQ := Lib.hid hq
      have HBL := Lib.hid hbl
      clear hyl hp hyd hyt hown hod hzv htr hq hbl
      by_cases hm0 : m = 0
      · obtain ⟨p, c, hv⟩ := HOW.out.form
        subst hv
        have HRET : Hid (RetNat w z (.returned (.slice p os.length c)) wr) := Lib.hid (by
          have hz1 := HZV.out
          rw [hm0] at hz1
          have e : vf 1000 (fun i => ys.getD i 0) 0 = 0 := rfl
          rw [e, Int.mul_zero, Int.add_zero] at hz1
          exact ⟨p, os.length, c, rfl, ⟨os, HOW.out.row, HOD.out, HTR.out hm0, hz1.symm⟩, HBL.out, HOW.out.fresh.mono hws⟩)
        subst hm0
        go_wp2_with fail
        go_ret
        exact HRET.out
      · have hm1 : 0 < m := by omega
        have hD1 : 1 ≤ vf 1000 (fun i => ys.getD i 0) m := vf_pos HYD.out (by rw [HYL.out]; exact hm) hm1 (by rcases HYT.out with h | h; exact absurd h hm0; exact h)
        have HD1 := Lib.hid hD1
        have hol : os.length < wl := of_len HZV.out (V_bd (B := 4294967296) (by decide) HOD.out).1 hD1 hzb.out
        obtain ⟨D, hD⟩ : ∃ D, vf 1000 (fun i => ys.getD i 0) m = D := ⟨_, rfl⟩
        rw [hD] at HD1 HZV HQ
        have HD' := Lib.hid hD
        clear hD1 hD
        obtain ⟨wo, rfl⟩ : ∃ wo : World, wo = wr := ⟨_, rfl⟩
        go_wp2_with fail
        go_loopg [5, 6] m (fun k lu iu wi => ∃ (lf : Int) (zs : List Int), iu = .int .i64 ((k : Int) - 1) ∧ lu = .int .i64 lf ∧ k ≤ m ∧ 0 ≤ lf ∧ lf < 4294967296 ∧ zs.length = wl ∧ Dig 1000 zs ∧ (∀ j, j < k → zs.getD j 0 = ys.getD j 0) ∧
          D = vf 1000 (fun i => ys.getD i 0) k + lf * 1000 ^ k + 4294967296 * (vf 1000 (fun i => zs.getD i 0) m - vf 1000 (fun i => zs.getD i 0) k) ∧ ArrP .i64 3 wi g zs ∧ OwnK .u32 wi w1.heap.size 87 u4 os.length os ∧ Below w.heap.size w wi ∧ wi.heap.size = wo.heap.size)
        case atStart => exact ⟨0, ys, rfl, rfl, Nat.le_refl _, by omega, by omega, HYL.out, HYD.out, fun _ _ => rfl, by rw [HD'.out]; omega, HP2.out, HOW.out, HBL.out, rfl⟩
        case round =>
          obtain ⟨lf, zs, rfl, rfl, hk, hl0, hl1, hzl, hzd, hza, hzv2, hpz, howz, hblz, hszz⟩ := hrel
          have HZL := Lib.hid hzl
          have HZD := Lib.hid hzd
          have HZA := Lib.hid hza
          have HZV2 := Lib.hid hzv2
          have HPZ := Lib.hid hpz
          have HOWZ := Lib.hid howz
          have HBZ := Lib.hid hblz
          have HSZ := Lib.hid hszz
          clear hzl hzd hza hzv2 hpz howz hblz hszz
          by_cases hk0 : gk = 0
          · subst hk0
            have HDV : Hid (D = lf + 4294967296 * vf 1000 (fun i => zs.getD i 0) m) := Lib.hid (by
              have h := HZV2.out
              simp only [vf, Int.pow_zero, Int.mul_one] at h
              omega)
            have hlc : lf % 4294967296 = lf := by omega
            have hszl : w1.heap.size ≤ wr.heap.size := by rw [HSZ.out]; exact hsz
            have hol2 : os.length ≤ 8796093022208 := by omega
            go_wp2_with (at_builtin; refine append1 .u32 53 87 4 info_u32 (by decide) Try.underlying53 rfl _ _ rfl w1.heap.size wr u4 os.length os lf rfl rfl HOWZ.out hol2 hszl ?_)
            intro g2 cap2 w3 hown3 hgr3 hbl3 hg3
            have HP3 : Hid (ArrP .i64 3 w3 g zs) := Lib.hid (by
              obtain ⟨r, hr⟩ := HPZ.out
              refine ⟨r, (hgr3.block g HPZ.out.lt ?_).trans hr⟩
              intro e
              have := (World.ownsRow.lt HOWZ.out g e.symm).1
              omega)
            have HB3 := Lib.hid (HBZ.out.trans ((hbl3 wr (Below.refl _ _)).mono (by omega)))
            have hsz3 : w1.heap.size ≤ w3.heap.size := Nat.le_trans hszl hgr3.size
            have HOW3L : Hid (OwnK .u32 w3 w1.heap.size 87 (.slice (some ⟨g2, 0, none⟩) (os.length + 1) cap2) (os.length + 1) (os ++ [lf])) := Lib.hid hown3
            have HV0 := Lib.hid (vf_bd (B := 1000) (by decide) (f := fun i => zs.getD i 0) m fun i _ => HZD.out.at (by decide) i).1
            have HLF : Hid (vf 1000 (fun i => zs.getD i 0) m = 0 → lf ≠ 0) := Lib.hid (fun h => by have h1 := HDV.out; have h2 := HD1.out; rw [h] at h1; omega)
            clear hown3 hgr3 hbl3 hg3
            go_wp2_with fail
            go_loop [3] (fun du => ∃ m2 : Nat, du = .slice (some ⟨g, 0, none⟩) m2 cap ∧ m2 ≤ m ∧ vf 1000 (fun i => zs.getD i 0) m2 = vf 1000 (fun i => zs.getD i 0) m) (fun du => match du with | .slice _ n _ => n | _ => 0)
            case atStart => exact ⟨m, rfl, Nat.le_refl _, rfl⟩
            case round =>
              obtain ⟨m2, rfl, hm2, hvm⟩ := hrel
              have HVM := Lib.hid hvm
              clear hvm
              by_cases hm20 : m2 = 0
              · subst hm20
                go_wp2_with fail
                go_roundg (vf 1000 (fun i => zs.getD i 0) m).toNat
                case measure => have h1 := HQ.out; have h2 := HDV.out; have h3 := HD1.out; have h4 := HV0.out; omega
                case rel => exact ⟨0, zs, os ++ [lf], rfl, by omega, HZL.out, HP3.out, HZD.out, .inl rfl, by rw [List.length_append]; exact HOW3L.out, HOD.out.snoc hl0 hl1, by rw [HVM.out, V_snoc, List.length_append, List.length_singleton, Int.pow_succ, Int.mul_assoc, Int.add_assoc, Int.mul_comm lf, ← Int.mul_add, ← HDV.out]; exact HZV.out, fun h => .inr (by rw [List.length_append, List.length_singleton, Nat.add_sub_cancel, getD_snoc]; exact HLF.out (by rw [← HVM.out, h]; rfl)), by rw [HVM.out]; have h4 := HV0.out; omega, HB3.out, hsz3⟩
              · obtain ⟨k, hk⟩ : ∃ k, m2 = k + 1 := ⟨m2 - 1, by omega⟩
                subst hk
                have hc := HP3.out.cell (i := k) (by rw [HZL.out]; omega)
                obtain ⟨x, hx⟩ : ∃ d, zs.getD k 0 = d := ⟨_, rfl⟩
                rw [hx] at hc
                have HXX := Lib.hid hx
                clear hx
                have g0 : (0 : Int) ≤ (k : Int) := by omega
                have g1 : (k : Int) < ((k + 1 : Nat) : Int) := by omega
                by_cases hx0 : x = 0
                · have hq : (x == 0) = true := by simpa using hx0
                  go_wp2_with fail
                  go_round
                  case rel => exact ⟨k, rfl, by omega, by rw [← HVM.out]; show _ = _ + zs.getD k 0 * 1000 ^ k; rw [HXX.out, hx0, Int.zero_mul, Int.add_zero]⟩
                  case measure => exact Nat.lt_succ_self k
                · have hq : (x == 0) = false := by simpa using hx0
                  have HTOP : Hid (zs.getD (k + 1 - 1) 0 ≠ 0) := Lib.hid (by rw [Nat.add_sub_cancel, HXX.out]; exact hx0)
                  go_wp2_with fail
                  go_roundg (vf 1000 (fun i => zs.getD i 0) m).toNat
                  case measure => have h1 := HQ.out; have h2 := HDV.out; have h3 := HD1.out; have h4 := HV0.out; omega
                  case rel => exact ⟨k + 1, zs, os ++ [lf], rfl, by omega, HZL.out, HP3.out, HZD.out, .inr HTOP.out, by rw [List.length_append]; exact HOW3L.out, HOD.out.snoc hl0 hl1, by rw [HVM.out, V_snoc, List.length_append, List.length_singleton, Int.pow_succ, Int.mul_assoc, Int.add_assoc, Int.mul_comm lf, ← Int.mul_add, ← HDV.out]; exact HZV.out, fun h => .inr (by rw [List.length_append, List.length_singleton, Nat.add_sub_cancel, getD_snoc]; exact HLF.out (by rw [← HVM.out, h]; rfl)), by rw [HVM.out]; have h4 := HV0.out; omega, HB3.out, hsz3⟩
          · obtain ⟨j, hj⟩ : ∃ j, gk = j + 1 := ⟨gk - 1, by omega⟩
            subst hj
            rw [show ((j + 1 : Nat) : Int) - 1 = (j : Int) from by omega]
            have hc := HPZ.out.cell (i := j) (by rw [HZL.out]; omega)
            have hfz := HPZ.out.frozen j
            rw [HZA.out j (by omega)] at hc
            have hdr := HYD.out.at (by decide) j
            obtain ⟨x, hx⟩ : ∃ d, ys.getD j 0 = d := ⟨_, rfl⟩
            rw [hx] at hc hdr
            obtain ⟨hx0, hx1⟩ := hdr
            have HXX := Lib.hid hx
            clear hx
            have g0 : (0 : Int) ≤ (j : Int) := by omega
            have g1 : (j : Int) < (m : Int) := by omega
            go_wp2_with fail
            go_roundg j
            case measure => omega
            case rel => exact ⟨(lf * 1000 + x) % 4294967296, zs.set j ((lf * 1000 + x) / 4294967296), rfl, rfl, by omega, by omega, by omega, by rw [List.length_set]; exact HZL.out, HZD.out.set j (by omega) (by omega), fun i hi => by rw [getD_set_ne (by omega)]; exact HZA.out i (by omega),
              of_step (by omega) (by rw [HZL.out]; omega) HXX.out rfl (by omega) HZV2.out, HPZ.out.set (by rw [HZL.out]; omega) _, HOWZ.out.set_below hgs _, HBZ.out.setCell hgB' _, by simpa using HSZ.out⟩
end Go.Proofs.Ytgdddpbdcdheeaa
