/- Contract of package bushelref02's Of. Conditions: the number is not below 0; at most 100000 digits of base 1000. -/
import Derived.Test.YtehmompbmnejkaaGreatMNtB
import Derived.Test.YtehmompbmnejkaaGreatMRef02
import Derived.Test.YtehmompbmnejkaaGreatMEx4
import Derived.Test.YtehmompbmnejkaaGreatMEx2
namespace Go.Proofs.YtehmompbmnejkaaGreat
open Go.RowKit

theorem OwnK.zero (k : IntKind) (w : World) (e : TypeId) : OwnK k (w.alloc (.cells #[] e)) w.heap.size e (.slice (some ⟨w.heap.size, 0, none⟩) 0 0) 0 [] := by
 refine ⟨rfl, .inr ⟨w.heap.size, 0, #[], rfl, Nat.le_refl _, heap_alloc_new w _, Nat.le_refl _, by unfold maxLen; omega, by simp, by simp⟩⟩
theorem of_step {ys ys' : List Int} {D lf x s q r : Int} {j m : Nat} (hj : j < m) (hjl : j < ys'.length) (hx : ys.getD j 0 = x) (hs : s = lf * 1000 + x) (hq : s = q * 4294967296 + r)
  (hv : D = vf 1000 (fun i => ys.getD i 0) (j + 1) + lf * 1000 ^ (j + 1) + 4294967296 * (vf 1000 (fun i => ys'.getD i 0) m - vf 1000 (fun i => ys'.getD i 0) (j + 1))) :
  D = vf 1000 (fun i => ys.getD i 0) j + r * 1000 ^ j + 4294967296 * (vf 1000 (fun i => (ys'.set j q).getD i 0) m - vf 1000 (fun i => (ys'.set j q).getD i 0) j) := by
 have e1 : vf 1000 (fun i => ys.getD i 0) (j + 1) = vf 1000 (fun i => ys.getD i 0) j + x * 1000 ^ j := by rw [← hx]; rfl
 have e2 : vf 1000 (fun i => (ys'.set j q).getD i 0) (j + 1) = vf 1000 (fun i => (ys'.set j q).getD i 0) j + q * 1000 ^ j := by
  show _ + (ys'.set j q).getD j 0 * 1000 ^ j = _
  rw [getD_set_self hjl]
 obtain ⟨r', hr'⟩ : ∃ r', m = j + 1 + r' := ⟨m - (j + 1), by omega⟩
 have e3 := vf_same_above (B := 1000) (f := fun i => (ys'.set j q).getD i 0) (g := fun i => ys'.getD i 0) (j + 1) r' (fun i h1 h2 => getD_set_ne (by omega))
 rw [← hr'] at e3
 have e4 : s * 1000 ^ j = q * 1000 ^ j * 4294967296 + r * 1000 ^ j := by rw [hq, Int.add_mul, Int.mul_right_comm]
 have e5 : s * 1000 ^ j = lf * 1000 ^ (j + 1) + x * 1000 ^ j := by rw [hs, Int.add_mul, Int.pow_succ, Int.mul_assoc, Int.mul_comm 1000]
 rw [hv, e1]
 omega
theorem of_len {z D : Int} {L wl : Nat} {v : Int} (hz : z = v + 4294967296 ^ L * D) (hv : 0 ≤ v) (hD : 1 ≤ D) (hw : z < 1000 ^ wl) : L < wl := by
 have p : (0 : Int) < 4294967296 ^ L := Int.pow_pos (by decide)
 have h1 := Int.mul_le_mul_of_nonneg_left hD (Int.le_of_lt p)
 have h2 : (1000 : Nat) ^ wl ≤ 4294967296 ^ wl := Nat.pow_le_pow_left (by decide) wl
 have e1 : ((1000 ^ wl : Nat) : Int) = 1000 ^ wl := by rw [Int.natCast_pow]; rfl
 have e2 : ((4294967296 ^ wl : Nat) : Int) = 4294967296 ^ wl := by rw [Int.natCast_pow]; rfl
 rcases Nat.lt_or_ge L wl with h | h
 ·exact h
 ·have h3 : (4294967296 : Int) ^ wl ≤ 4294967296 ^ L := ipow_le (by decide) h
  omega
theorem vf_pos {ys : List Int} {m : Nat} (h : Dig 1000 ys) (hm : m ≤ ys.length) (h0 : 0 < m) (ht : ys.getD (m - 1) 0 ≠ 0) : 1 ≤ vf 1000 (fun i => ys.getD i 0) m := by
 obtain ⟨k, rfl⟩ : ∃ k, m = k + 1 := ⟨m - 1, by omega⟩
 have h1 := (vf_bd (B := 1000) (by decide) (f := fun i => ys.getD i 0) k fun i _ => h.at (by decide) i).1
 have h2 := h.at (B := 1000) (by decide) k
 have p : (0 : Int) < 1000 ^ k := Int.pow_pos (by decide)
 rw [Nat.add_sub_cancel] at ht
 have h3 := Int.mul_le_mul_of_nonneg_right (show 1 ≤ ys.getD k 0 by omega) (Int.le_of_lt p)
 show 1 ≤ vf 1000 (fun i => ys.getD i 0) k + ys.getD k 0 * 1000 ^ k
 omega

set_option maxRecDepth 100000 in
set_option maxHeartbeats 2000000 in
theorem rof_any (wn : Bool) (wa : Option Addr) (wl wc : Nat) (z : Int) (w : World) (h : NumC w wn wa wl wc z) (h0 : 0 ≤ z) (hl : wl ≤ 100000) :
  Calls Tryz.prog 31 #[.agg #[.bool wn, .slice wa wl wc]] w (RetNat w z) := by
 obtain ⟨xs, hr, hd, ht, hz, -⟩ := h
 have hv0 := (V_bd (B := 1000) (by decide) hd).1
 have HZ : Hid (V 1000 xs = z) := Lib.hid (by
  rw [hz]
  cases wn <;> simp at hz ⊢
  omega)
 have HR := Lib.hid hr
 have HD := Lib.hid hd
 have HT := Lib.hid ht
 clear hr hd ht hz hv0
 have hb := (Below.refl w.heap.size w).alloc (Nat.le_refl _) (.cells #[.bool wn, .slice wa wl wc] 83)
 have hk := Blk.new w 83 #[.bool wn, .slice wa wl wc]
 have HB := Lib.hid hb
 have x1 : (w.alloc (.cells #[.bool wn, .slice wa wl wc] 83)).cell? ⟨w.heap.size, 1, none⟩ = some (.slice wa wl wc) := hk.cell 1
 clear hb hk
 go_enter Tryz.func31, Tryz.ntmps31
 go_upto_region 1 with fail
 have hlv : w.heap.size < (w.alloc (.cells #[.bool wn, .slice wa wl wc] 83)).heap.size := by simp
 generalize w.alloc (.cells #[.bool wn, .slice wa wl wc] 83) = v at *
 have HRV := Lib.hid (HR.out.below (HB.out.trans ((Below.refl _ _).alloc (Nat.le_of_lt hlv) (.cells #[] 3))) (Nat.le_refl _))
 go_wp2_with (at_builtin; refine wpList_append_row .i64 50 3 8 info_int (by decide) Tryz.underlying50 rfl _ _ rfl (v.alloc (.cells #[] 3)) v.heap.size (.slice (some ⟨v.heap.size, 0, none⟩) 0 0) 0 [] wa wl wc xs rfl rfl (OwnK.zero _ _ _) HRV.out HRV.out.none' (by omega) (by simp) ?_)
 intro v1 w1 hown hgr hbl
 have HB1 := Lib.hid (HB.out.trans ((hbl v ((Below.refl _ _).alloc (Nat.le_refl _) _)).mono (Nat.le_of_lt hlv)))
 have HOW := Lib.hid hown
 clear hown hgr hbl x1 HRV
 by_cases hw0 : wl = 0
 ·obtain ⟨p, c, hv⟩ := HOW.out.form
  subst hv
  have hx0 : xs = [] := List.eq_nil_of_length_eq_zero (by rw [HR.out.1]; exact hw0)
  have HZ0 : Hid (V 4294967296 [] = z) := Lib.hid (by rw [← HZ.out, hx0]; rfl)
  subst hw0
  clear hx0
  go_wp2_with fail
  go_loopg [3, 4] 0 (fun _ du ou wr => du = .slice p 0 c ∧ ou = .slice none 0 0 ∧ wr = w1)
  case atStart => exact ⟨rfl, rfl, rfl⟩
  case round =>
   obtain ⟨rfl, rfl, rfl⟩ := hrel
   go_wp2_with fail
   go_ret
   exact ⟨none, 0, 0, rfl, ⟨[], RowK.nil, Dig.nil, .inl rfl, HZ0.out⟩, HB1.out, Fresh.nil⟩
 ·obtain ⟨g, cap, rfl, hp, hgB, hcap, hcm⟩ := HOW.out.blk (by omega)
  have hgs := hp.lt
  have hgB' : w.heap.size ≤ g := Nat.le_trans (Nat.le_of_lt hlv) hgB
  have HP := Lib.hid hp
  have hws := HB1.out.size
  have hzb : Hid (z < 1000 ^ wl) := Lib.hid (by
   have h := (V_bd (B := 1000) (by decide) HD.out).2
   rw [HZ.out, HR.out.1] at h
   exact h)
  have HT0 : Hid (wl = 0 ∨ xs.getD (wl - 1) 0 ≠ 0) := Lib.hid (by
   rcases HT.out with h | h
   ·exact .inl (by rw [← HR.out.1, h]; rfl)
   ·exact .inr (by rw [← HR.out.1]; exact h))
  have HVX : Hid (vf 1000 (fun i => xs.getD i 0) wl = z) := Lib.hid (by rw [vf_ext (by rw [HR.out.1]; exact Nat.le_refl _)]; exact HZ.out)
  have HXL := Lib.hid HR.out.1
  clear hp HOW HR HZ HT HB
  go_wp2_with fail
  go_loopg [3, 4] z.toNat (fun q du ou wr => ∃ (m : Nat) (ys os : List Int), du = .slice (some ⟨g, 0, none⟩) m cap ∧ m ≤ wl ∧ ys.length = wl ∧ ArrP .i64 3 wr g ys ∧ Dig 1000 ys ∧ (m = 0 ∨ ys.getD (m - 1) 0 ≠ 0) ∧ OwnK .u32 wr w1.heap.size 34 ou os.length os ∧ Dig 4294967296 os ∧ z = V 4294967296 os + 4294967296 ^ os.length * vf 1000 (fun i => ys.getD i 0) m ∧ (m = 0 → Trimmed os) ∧
   vf 1000 (fun i => ys.getD i 0) m = (q : Int) ∧ Below w.heap.size w wr ∧ w1.heap.size ≤ wr.heap.size)
  case atStart => exact ⟨wl, xs, [], rfl, Nat.le_refl _, HXL.out, HP.out, HD.out, HT0.out, OwnK.nil _ _ _ _, Dig.nil, by rw [V_nil, HVX.out]; simp, fun h => absurd h hw0, by rw [HVX.out]; omega, HB1.out, Nat.le_refl _⟩
  case round =>
   obtain ⟨m, ys, os, rfl, hm, hyl, hp, hyd, hyt, hown, hod, hzv, htr, hq, hbl, hsz⟩ := hrel
   have HYL := Lib.hid hyl
   have HP2 := Lib.hid hp
   have HYD := Lib.hid hyd
   have HYT := Lib.hid hyt
   have HOW := Lib.hid hown
   have HOD := Lib.hid hod
   have HZV := Lib.hid hzv
   have HTR := Lib.hid htr
   have HQ := Lib.hid hq
   have HBL := Lib.hid hbl
   clear hyl hp hyd hyt hown hod hzv htr hq hbl
   by_cases hm0 : m = 0
   ·obtain ⟨p, c, hv⟩ := HOW.out.form
    subst hv
    have HRET : Hid (RetNat w z (.returned (.slice p os.length c)) wr) := Lib.hid (by
     have hz1 := HZV.out
     rw [hm0] at hz1
     have e : vf 1000 (fun i => ys.getD i 0) 0 = 0 := rfl
     rw [e, Int.mul_zero, Int.add_zero] at hz1
     exact ⟨p, os.length, c, rfl, ⟨os, HOW.out.row, HOD.out, HTR.out hm0, hz1.symm⟩, HBL.out, HOW.out.fresh.mono hws⟩)
    subst hm0
    go_wp2_with fail
    go_ret
    exact HRET.out
   ·have hm1 : 0 < m := by omega
    have hD1 : 1 ≤ vf 1000 (fun i => ys.getD i 0) m := vf_pos HYD.out (by rw [HYL.out]; exact hm) hm1 (by rcases HYT.out with h | h; exact absurd h hm0; exact h)
    have HD1 := Lib.hid hD1
    have hol : os.length < wl := of_len HZV.out (V_bd (B := 4294967296) (by decide) HOD.out).1 hD1 hzb.out
    obtain ⟨D, hD⟩ : ∃ D, vf 1000 (fun i => ys.getD i 0) m = D := ⟨_, rfl⟩
    rw [hD] at HD1 HZV HQ
    have HD' := Lib.hid hD
    clear hD1 hD
    obtain ⟨wo, rfl⟩ : ∃ wo : World, wo = wr := ⟨_, rfl⟩
    go_wp2_with fail
    go_loopg [5, 6] m (fun k lu iu wi => ∃ (lf : Int) (zs : List Int), iu = .int .i64 ((k : Int) - 1) ∧ lu = .int .i64 lf ∧ k ≤ m ∧ 0 ≤ lf ∧ lf < 4294967296 ∧ zs.length = wl ∧ Dig 1000 zs ∧ (∀ j, j < k → zs.getD j 0 = ys.getD j 0) ∧
     D = vf 1000 (fun i => ys.getD i 0) k + lf * 1000 ^ k + 4294967296 * (vf 1000 (fun i => zs.getD i 0) m - vf 1000 (fun i => zs.getD i 0) k) ∧ ArrP .i64 3 wi g zs ∧ OwnK .u32 wi w1.heap.size 34 u4 os.length os ∧ Below w.heap.size w wi ∧ wi.heap.size = wo.heap.size)
    case atStart => exact ⟨0, ys, rfl, rfl, Nat.le_refl _, by omega, by omega, HYL.out, HYD.out, fun _ _ => rfl, by rw [HD'.out]; omega, HP2.out, HOW.out, HBL.out, rfl⟩
    case round =>
     obtain ⟨lf, zs, rfl, rfl, hk, hl0, hl1, hzl, hzd, hza, hzv2, hpz, howz, hblz, hszz⟩ := hrel
     have HZL := Lib.hid hzl
     have HZD := Lib.hid hzd
     have HZA := Lib.hid hza
     have HZV2 := Lib.hid hzv2
     have HPZ := Lib.hid hpz
     have HOWZ := Lib.hid howz
     have HBZ := Lib.hid hblz
     have HSZ := Lib.hid hszz
     clear hzl hzd hza hzv2 hpz howz hblz hszz
     by_cases hk0 : gk = 0
     ·subst hk0
      have HDV : Hid (D = lf + 4294967296 * vf 1000 (fun i => zs.getD i 0) m) := Lib.hid (by
       have h := HZV2.out
       simp only [vf, Int.pow_zero, Int.mul_one] at h
       omega)
      have hlc : lf % 4294967296 = lf := by omega
      have hszl : w1.heap.size ≤ wr.heap.size := by rw [HSZ.out]; exact hsz
      have hol2 : os.length ≤ 8796093022208 := by omega
      go_wp2_with (at_builtin; refine append1 .u32 24 34 4 info_u32 (by decide) Tryz.underlying24 rfl _ _ rfl w1.heap.size wr u4 os.length os lf rfl rfl HOWZ.out hol2 hszl ?_)
      intro g2 cap2 w3 hown3 hgr3 hbl3 hg3
      have HP3 : Hid (ArrP .i64 3 w3 g zs) := Lib.hid (by
       obtain ⟨r, hr⟩ := HPZ.out
       refine ⟨r, (hgr3.block g HPZ.out.lt ?_).trans hr⟩
       intro e
       have := (World.ownsRow.lt HOWZ.out g e.symm).1
       omega)
      have HB3 := Lib.hid (HBZ.out.trans ((hbl3 wr (Below.refl _ _)).mono (by omega)))
      have hsz3 : w1.heap.size ≤ w3.heap.size := Nat.le_trans hszl hgr3.size
      have HOW3L : Hid (OwnK .u32 w3 w1.heap.size 34 (.slice (some ⟨g2, 0, none⟩) (os.length + 1) cap2) (os.length + 1) (os ++ [lf])) := Lib.hid hown3
      have HV0 := Lib.hid (vf_bd (B := 1000) (by decide) (f := fun i => zs.getD i 0) m fun i _ => HZD.out.at (by decide) i).1
      have HLF : Hid (vf 1000 (fun i => zs.getD i 0) m = 0 → lf ≠ 0) := Lib.hid (fun h => by have h1 := HDV.out; have h2 := HD1.out; rw [h] at h1; omega)
      clear hown3 hgr3 hbl3 hg3
      go_wp2_with fail
      go_loop [3] (fun du => ∃ m2 : Nat, du = .slice (some ⟨g, 0, none⟩) m2 cap ∧ m2 ≤ m ∧ vf 1000 (fun i => zs.getD i 0) m2 = vf 1000 (fun i => zs.getD i 0) m) (fun du => match du with | .slice _ n _ => n | _ => 0)
      case atStart => exact ⟨m, rfl, Nat.le_refl _, rfl⟩
      case round =>
       obtain ⟨m2, rfl, hm2, hvm⟩ := hrel
       have HVM := Lib.hid hvm
       clear hvm
       by_cases hm20 : m2 = 0
       ·subst hm20
        go_wp2_with fail
        go_roundg (vf 1000 (fun i => zs.getD i 0) m).toNat
        case measure => have h1 := HQ.out; have h2 := HDV.out; have h3 := HD1.out; have h4 := HV0.out; omega
        case rel => exact ⟨0, zs, os ++ [lf], rfl, by omega, HZL.out, HP3.out, HZD.out, .inl rfl, by rw [List.length_append]; exact HOW3L.out, HOD.out.snoc hl0 hl1, by rw [HVM.out, V_snoc, List.length_append, List.length_singleton, Int.pow_succ, Int.mul_assoc, Int.add_assoc, Int.mul_comm lf, ← Int.mul_add, ← HDV.out]; exact HZV.out, fun h => .inr (by rw [List.length_append, List.length_singleton, Nat.add_sub_cancel, getD_snoc]; exact HLF.out (by rw [← HVM.out, h]; rfl)), by rw [HVM.out]; have h4 := HV0.out; omega, HB3.out, hsz3⟩
       ·obtain ⟨k, hk⟩ : ∃ k, m2 = k + 1 := ⟨m2 - 1, by omega⟩
        subst hk
        have hc := HP3.out.cell (i := k) (by rw [HZL.out]; omega)
        obtain ⟨x, hx⟩ : ∃ d, zs.getD k 0 = d := ⟨_, rfl⟩
        rw [hx] at hc
        have HXX := Lib.hid hx
        clear hx
        have g0 : (0 : Int) ≤ (k : Int) := by omega
        have g1 : (k : Int) < ((k + 1 : Nat) : Int) := by omega
        by_cases hx0 : x = 0
        ·have hq : (x == 0) = true := by simpa using hx0
         go_wp2_with fail
         go_round
         case rel => exact ⟨k, rfl, by omega, by rw [← HVM.out]; show _ = _ + zs.getD k 0 * 1000 ^ k; rw [HXX.out, hx0, Int.zero_mul, Int.add_zero]⟩
         case measure => exact Nat.lt_succ_self k
        ·have hq : (x == 0) = false := by simpa using hx0
         have HTOP : Hid (zs.getD (k + 1 - 1) 0 ≠ 0) := Lib.hid (by rw [Nat.add_sub_cancel, HXX.out]; exact hx0)
         go_wp2_with fail
         go_roundg (vf 1000 (fun i => zs.getD i 0) m).toNat
         case measure => have h1 := HQ.out; have h2 := HDV.out; have h3 := HD1.out; have h4 := HV0.out; omega
         case rel => exact ⟨k + 1, zs, os ++ [lf], rfl, by omega, HZL.out, HP3.out, HZD.out, .inr HTOP.out, by rw [List.length_append]; exact HOW3L.out, HOD.out.snoc hl0 hl1, by rw [HVM.out, V_snoc, List.length_append, List.length_singleton, Int.pow_succ, Int.mul_assoc, Int.add_assoc, Int.mul_comm lf, ← Int.mul_add, ← HDV.out]; exact HZV.out, fun h => .inr (by rw [List.length_append, List.length_singleton, Nat.add_sub_cancel, getD_snoc]; exact HLF.out (by rw [← HVM.out, h]; rfl)), by rw [HVM.out]; have h4 := HV0.out; omega, HB3.out, hsz3⟩
     ·obtain ⟨j, hj⟩ : ∃ j, gk = j + 1 := ⟨gk - 1, by omega⟩
      subst hj
      rw [show ((j + 1 : Nat) : Int) - 1 = (j : Int) from by omega]
      have hc := HPZ.out.cell (i := j) (by rw [HZL.out]; omega)
      have hfz := HPZ.out.frozen j
      rw [HZA.out j (by omega)] at hc
      have hdr := HYD.out.at (by decide) j
      obtain ⟨x, hx⟩ : ∃ d, ys.getD j 0 = d := ⟨_, rfl⟩
      rw [hx] at hc hdr
      obtain ⟨hx0, hx1⟩ := hdr
      have HXX := Lib.hid hx
      clear hx
      have g0 : (0 : Int) ≤ (j : Int) := by omega
      have g1 : (j : Int) < (m : Int) := by omega
      go_wp2_with fail
      go_roundg j
      case measure => omega
      case rel => exact ⟨(lf * 1000 + x) % 4294967296, zs.set j ((lf * 1000 + x) / 4294967296), rfl, rfl, by omega, by omega, by omega, by rw [List.length_set]; exact HZL.out, HZD.out.set j (by omega) (by omega), fun i hi => by rw [getD_set_ne (by omega)]; exact HZA.out i (by omega),
       of_step (by omega) (by rw [HZL.out]; omega) HXX.out rfl (by omega) HZV2.out, HPZ.out.set (by rw [HZL.out]; omega) _, HOWZ.out.set_below hgs _, HBZ.out.setCell hgB' _, by simpa using HSZ.out⟩
end Go.Proofs.YtehmompbmnejkaaGreat
/- Contract of package bushelref05's Bytes. Conditions: below 2^2240 units. -/
namespace Go.Proofs.YtehmompbmnejkaaGreat
open Go.RowKit Ieee

theorem rflag_any (w : World) (x : Bool) (k : Int) : Calls Tryz.prog 62 #[.bool x, .int .i64 k] w fun e w' => e = .returned (.int .i64 (if x then k else 0)) ∧ w = w' := by
 cases x
 all_goals
  go_enter Tryz.func62, Tryz.ntmps62
  go_wp2_with fail
  go_ret
  exact ⟨rfl, rfl⟩
theorem NumC.shorter {w : World} {neg : Bool} {a : Option Addr} {n c k : Nat} {z : Int} (h : NumC w neg a n c z) (hf : z.natAbs < 1000 ^ k) : n ≤ k := by
 obtain ⟨xs, hr, hd, ht, hz, _⟩ := h
 by_cases h0 : xs = []
 ·have := hr.1; rw [h0] at this; simp at this; omega
 ·have h1 := V_ge (by decide) hd ht h0
  have h2 : V 1000 xs = z.natAbs := by
   have := (V_bd (B := 1000) (by decide) hd).1
   rw [hz]; split <;> omega
  rw [h2] at h1
  have h3 : (1000 : Nat) ^ (xs.length - 1) < 1000 ^ k := by
   have : ((1000 ^ (xs.length - 1) : Nat) : Int) = 1000 ^ (xs.length - 1) := by rw [Int.natCast_pow]; rfl
   omega
  have := (Nat.pow_lt_pow_iff_right (a := 1000) (by decide)).1 h3
  have := hr.1
  omega
theorem room_short {w : World} {neg : Bool} {a : Option Addr} {n c : Nat} {z : Int} (h : NumC w neg a n c z) (hz : z.natAbs < ROOM) : n ≤ 100000 := by
 obtain ⟨k, hk⟩ : ∃ k : Nat, k = 250 := ⟨_, rfl⟩
 have h1 : ROOM ≤ 1000 ^ k := by
  rw [room_eq]
  refine Nat.le_trans (Nat.pow_le_pow_right (by decide) (show K2240 ≤ 9 * k by rw [hk]; decide)) ?_
  rw [Nat.pow_mul]
  exact Nat.pow_le_pow_left (by decide) k
 have h2 := NumC.shorter (k := k) h (Nat.lt_of_lt_of_le hz h1)
 omega
theorem bit_worth (x k : Nat) : (if decide (x % 2 = 1) = true then (k : Int) else 0) = ((x % 2 * k : Nat) : Int) := by
 by_cases h : x % 2 = 1
 ·rw [if_pos (decide_eq_true h), h, Nat.one_mul]
 ·rw [if_neg (by simpa using h), show x % 2 = 0 from by omega, Nat.zero_mul]; rfl
/-- the flags' worths -/
def Worth (b : Nat) (z : Int) (n u e m p ng : Bool) (v1 v2 v3 v4 v5 v6 : Nat) : Prop :=
 (if n = true then (1 : Int) else 0) = (v1 : Int) ∧ (if u = true then (2 : Int) else 0) = (v2 : Int) ∧ (if e = true then (4 : Int) else 0) = (v3 : Int) ∧ (if m = true then (8 : Int) else 0) = (v4 : Int) ∧ (if p = true then (16 : Int) else 0) = (v5 : Int) ∧ (if ng = true then (32 : Int) else 0) = (v6 : Int) ∧
  v1 ≤ 1 ∧ v2 ≤ 2 ∧ v3 ≤ 4 ∧ v4 ≤ 8 ∧ v5 ≤ 16 ∧ v6 ≤ 32 ∧ v1 + v2 + v3 + v4 + v5 + v6 = b + (if z < 0 then 32 else 0)
theorem worth_of {b : Nat} {z : Int} {n u e m p ng : Bool} (hb : b < 32) (hn : fN b = n) (hu : fU b = u) (he : fD b = e) (hm : fM b = m) (hp : fP b = p) (hg : ng = decide (z < 0)) : ∃ v1 v2 v3 v4 v5 v6, Worth b z n u e m p ng v1 v2 v3 v4 v5 v6 := by
 subst hn; subst hu; subst he; subst hm; subst hp; subst hg
 refine ⟨b % 2 * 1, b / 2 % 2 * 2, b / 4 % 2 * 4, b / 8 % 2 * 8, b / 16 % 2 * 16, if z < 0 then 32 else 0, bit_worth b 1, bit_worth (b / 2) 2, bit_worth (b / 4) 4, bit_worth (b / 8) 8, bit_worth (b / 16) 16, ?_, by omega, by omega, by omega, by omega, by omega, by split <;> omega, ?_⟩
 ·by_cases h : z < 0
  ·rw [if_pos (decide_eq_true h), if_pos h]; rfl
  ·rw [if_neg (by simpa using h), if_neg h]; rfl
 ·omega
theorem OwnK.four (k : IntKind) (w : World) (e : TypeId) (d0 d1 d2 d3 : Int) : OwnK k (w.alloc (.cells #[.int k d0, .int k d1, .int k d2, .int k d3] e)) w.heap.size e (.slice (some ⟨w.heap.size, 0, none⟩) 4 4) 4 [d0, d1, d2, d3] := by
 refine ⟨rfl, .inr ⟨w.heap.size, 4, #[.int k d0, .int k d1, .int k d2, .int k d3], rfl, Nat.le_refl _, heap_alloc_new w _, Nat.le_refl _, by unfold maxLen; omega, by simp, by simp⟩⟩

set_option maxRecDepth 100000 in
set_option maxHeartbeats 2000000 in
theorem rsbytes_b (w : World) (b : Nat) (z : Int) (n u e m p ng : Bool) (a : Option Addr) (l c : Nat) (hN : NumC w ng a l c z) (hz : z.natAbs < ROOM) (hb : b < 32) (hn : fN b = n) (hu : fU b = u) (he : fD b = e) (hm : fM b = m) (hp : fP b = p) :
  Calls Tryz.prog 33 #[.agg #[.bool n, .bool u, .bool e, .bool m, .bool p, .bool ng, .slice a l c]] w (RBytes b z w) := by
 have hl := room_short hN hz
 have hsg := hN.sign
 obtain ⟨v1, v2, v3, v4, v5, v6, hw⟩ := worth_of hb hn hu he hm hp hsg
 have HW := Lib.hid hw
 obtain ⟨f1, f2, f3, f4, f5, f6, g1, g2, g3, g4, g5, g6, -⟩ := hw
 obtain ⟨hk, hbw⟩ := one_box w 89 #[.bool n, .bool u, .bool e, .bool m, .bool p, .bool ng, .slice a l c]
 have HNA := Lib.hid (hN.abs.below hbw (Nat.le_refl _))
 have HB7 := Lib.hid hbw
 have HZ := Lib.hid hz
 have HL := Lib.hid hl
 clear hN hz hb hn hu he hm hp hsg hbw hl
 go_enter Tryz.func33, Tryz.ntmps33
 go_upto_region 1 with fail
 generalize (w.alloc (.cells #[.bool n, .bool u, .bool e, .bool m, .bool p, .bool ng, .slice a l c] 89)) = w7 at *
 generalize hsz0 : w.heap.size = s at *
 have HSZ := Lib.hid hsz0
 have HK := Lib.hid hk
 have x6 : w7.cell? ⟨s, 6, none⟩ = some (.slice a l c) := hk.cell 6
 clear hk hsz0
 go_wp2_with fail
 refine (rof_any false a l c _ w7 HNA.out (Int.natCast_nonneg _) HL.out).mono ?_; rintro ee w8 ⟨a1, n1, c1, rfl, hM, hb8, hfr⟩
 have hn70 := hM.words HZ.out
 obtain ⟨xs, hr, hd, ht, hv⟩ := hM
 have hlen : xs.length = n1 := hr.1
 have HB8 := Lib.hid (HB7.out.trans (hb8.mono (by rw [← HSZ.out]; exact HB7.out.size)))
 have HK8 := Lib.hid (HK.out.below hb8 HK.out.lt)
 have HR := Lib.hid hr
 have HD := Lib.hid hd
 have HT := Lib.hid ht
 have HV := Lib.hid hv
 have HLEN := Lib.hid hlen
 clear hb8 hr hd ht hv x6 HNA HB7 HK
 go_wp2_with fail
 go_loopg [4] n1 (fun gg i wr => ∃ k : Nat, i = .int .i64 (k : Int) ∧ k + gg = n1 ∧ (∀ j, j < k → xs.getD j 0 = 0) ∧ wr = w8)
 case atStart => exact ⟨0, rfl, by omega, fun j h => absurd h (Nat.not_lt_zero j), rfl⟩
 case round =>
  obtain ⟨k, rfl, hk, hz0, rfl⟩ := hrel
  have HK0 := Lib.hid hk
  have HZ0 := Lib.hid hz0
  have hrow := HR.out
  have hki0 : k ≤ n1 := by omega
  clear hk hz0
  go_upto_region 3 with fail
  go_cut [22] (fun v wx => v = .bool (decide (k < n1 ∧ xs.getD k 0 = 0)) ∧ wr = wx)
  case first =>
   by_cases hlt : k < n1
   ·obtain ⟨-, hcap, -, hcc⟩ := hrow
    rcases hcc with h0 | ⟨ba, oa, rfl, hba, hcell⟩
    ·omega
    have cx := hcell k hlt
    have hxr := HD.out.at (by decide) k
    obtain ⟨x, hx⟩ : ∃ x, xs.getD k 0 = x := ⟨_, rfl⟩
    rw [hx] at cx hxr
    have HX := Lib.hid hx
    obtain ⟨x1, x2⟩ := hxr
    have hki : (k : Int) < (n1 : Int) := by omega
    have hkd : decide (k < n1) = true := decide_eq_true hlt
    clear hcell hx
    by_cases hx0 : x = 0
    ·subst hx0
     have HE : Hid (decide (k < n1 ∧ xs.getD k 0 = 0) = true) := Lib.hid (decide_eq_true ⟨hlt, HX.out⟩)
     go_wp2_with fail
     go_meet
     exact ⟨by rw [HE.out], rfl⟩
    ·have hxb : (x == 0) = false := by simpa using hx0
     have HE : Hid (decide (k < n1 ∧ xs.getD k 0 = 0) = false) := Lib.hid (decide_eq_false fun h => hx0 (HX.out.symm.trans h.2))
     go_wp2_with fail
     go_meet
     exact ⟨by rw [HE.out], rfl⟩
   ·have hkd : decide (k < n1) = false := decide_eq_false hlt
    have HE : Hid (decide (k < n1 ∧ xs.getD k 0 = 0) = false) := Lib.hid (decide_eq_false fun h => hlt h.1)
    clear hrow
    go_wp2_with fail
    go_meet
    exact ⟨by rw [HE.out], rfl⟩
  case rest =>
   obtain ⟨rfl, rfl⟩ := hcut
   by_cases ht : k < n1 ∧ xs.getD k 0 = 0
   ·rw [decide_eq_true ht]
    have HT2 := Lib.hid ht
    clear ht
    go_wp2_with fail
    go_roundg (gk - 1)
    case measure => have := HK0.out; have := HT2.out.1; omega
    case rel => exact ⟨k + 1, by go_num, by have := HK0.out; have := HT2.out.1; omega, fun j hj => by
     by_cases h : j = k
     ·rw [h]; exact HT2.out.2
     ·exact HZ0.out j (by omega), rfl⟩
   ·rw [decide_eq_false ht]
    have HLW : Hid (LowW xs k) := Lib.hid ⟨by have := HLEN.out; omega, HZ0.out, fun h e => ht ⟨by have := HLEN.out; omega, e⟩⟩
    have hkn : k ≤ n1 := hki0
    have y0 : wr.cell? ⟨s, 0, none⟩ = some (.bool n) := HK8.out.cell 0
    have y1 : wr.cell? ⟨s, 1, none⟩ = some (.bool u) := HK8.out.cell 1
    have y2 : wr.cell? ⟨s, 2, none⟩ = some (.bool e) := HK8.out.cell 2
    have y3 : wr.cell? ⟨s, 3, none⟩ = some (.bool m) := HK8.out.cell 3
    have y4 : wr.cell? ⟨s, 4, none⟩ = some (.bool p) := HK8.out.cell 4
    have y5 : wr.cell? ⟨s, 5, none⟩ = some (.bool ng) := HK8.out.cell 5
    obtain ⟨fl, hfl⟩ : ∃ fl : Nat, b + (if z < 0 then 32 else 0) = fl := ⟨_, rfl⟩
    have hsum : v1 + v2 + v3 + v4 + v5 + v6 = fl := by
     rw [← hfl]; exact HW.out.2.2.2.2.2.2.2.2.2.2.2.2
    have HFL := Lib.hid hfl
    obtain ⟨t2, ht2⟩ : ∃ t2 : Nat, v1 + v2 = t2 := ⟨_, rfl⟩
    obtain ⟨t3, ht3⟩ : ∃ t3 : Nat, t2 + v3 = t3 := ⟨_, rfl⟩
    obtain ⟨t4, ht4⟩ : ∃ t4 : Nat, t3 + v4 = t4 := ⟨_, rfl⟩
    obtain ⟨t5, ht5⟩ : ∃ t5 : Nat, t4 + v5 = t5 := ⟨_, rfl⟩
    have q1 : IntKind.i64.wrap ((v1 : Int) + (v2 : Int)) = (t2 : Int) := by rw [IntWalk.i64_in _ (by omega)]; omega
    have q2 : IntKind.i64.wrap ((t2 : Int) + (v3 : Int)) = (t3 : Int) := by rw [IntWalk.i64_in _ (by omega)]; omega
    have q3 : IntKind.i64.wrap ((t3 : Int) + (v4 : Int)) = (t4 : Int) := by rw [IntWalk.i64_in _ (by omega)]; omega
    have q4 : IntKind.i64.wrap ((t4 : Int) + (v5 : Int)) = (t5 : Int) := by rw [IntWalk.i64_in _ (by omega)]; omega
    have q5 : IntKind.i64.wrap ((t5 : Int) + (v6 : Int)) = (fl : Int) := by rw [IntWalk.i64_in _ (by omega)]; omega
    obtain ⟨nk, hnk⟩ : ∃ nk : Nat, n1 - k = nk := ⟨_, rfl⟩
    have HNK := Lib.hid hnk
    have q6 : IntKind.i64.wrap ((n1 : Int) - (k : Int)) = (nk : Int) := by rw [IntWalk.i64_in _ (by omega)]; omega
    have w1 : IntKind.u8.wrap (fl : Int) = (fl : Int) := wrap_u8 (by omega)
    have w2 : IntKind.u8.wrap (k : Int) = (k : Int) := wrap_u8 (by omega)
    have w3 : IntKind.u8.wrap (nk : Int) = (nk : Int) := wrap_u8 (by omega)
    clear hnk
    have hs8 : s < wr.heap.size := HK8.out.lt
    have HN70 := Lib.hid hn70
    clear hfl hsum ht2 ht3 ht4 ht5 g1 g2 g3 g4 g5 g6 hkn hki0 hn70 hrow
    go_wp2_with fail
    go_region_held3 (fun w' => w'.cell? ⟨s, 0, none⟩ = some (.bool n) ∧ w'.cell? ⟨s, 1, none⟩ = some (.bool u) ∧ w'.cell? ⟨s, 2, none⟩ = some (.bool e) ∧ w'.cell? ⟨s, 3, none⟩ = some (.bool m) ∧ w'.cell? ⟨s, 4, none⟩ = some (.bool p) ∧ w'.cell? ⟨s, 5, none⟩ = some (.bool ng)) (go_keep)
     (first | (go_at_call 62; refine (rflag_any _ _ _).mono ?_; rintro e0 w0 ⟨rfl, rfl⟩; (try simp only [f1, f2, f3, f4, f5, f6])))
    have hown0 : OwnK .u8 (wr.alloc (.cells #[.int .u8 (fl : Int), .int .u8 (k : Int), .int .u8 (nk : Int)] 5)).drew wr.heap.size 5 (.slice (some ⟨wr.heap.size, 0, none⟩) 3 3) 3 [(fl : Int), (k : Int), (nk : Int)] := OwnK.three .u8 wr 5 _ _ _
    have hb0 : Below wr.heap.size wr (wr.alloc (.cells #[.int .u8 (fl : Int), .int .u8 (k : Int), .int .u8 (nk : Int)] 5)).drew := ((Below.refl _ _).alloc (Nat.le_refl _) _).drew
    have HOW0 := Lib.hid hown0
    have HB0 := Lib.hid hb0
    obtain ⟨wo, hwo⟩ : ∃ wo : World, wo = wr := ⟨_, rfl⟩
    generalize (wr.alloc (.cells #[.int .u8 (fl : Int), .int .u8 (k : Int), .int .u8 (nk : Int)] 5)).drew = w0 at *
    clear hown0 hb0 y0 y1 y2 y3 y4 y5 f1 f2 f3 f4 f5 f6 q1 q2 q3 q4 q5 q6 w1 w2 w3 HW
    clear hs8
    generalize hhd : [(fl : Int), (k : Int), (nk : Int)] = hd at *
    have HHD := Lib.hid hhd
    clear hhd
    have hbo : wr.heap.size = wo.heap.size := by rw [hwo]
    subst hwo
    have hn70 := HN70.out
    go_wp2_with fail
    go_loopg [5, 6] nk (fun gg out i wx => ∃ (j : Nat), i = .int .i64 ((n1 : Int) - 1 - (j : Int)) ∧ j + gg = nk ∧ OwnK .u8 wx wo.heap.size 5 out (3 + 4 * j) (hd ++ tailB xs j) ∧ Below wo.heap.size wo wx)
    case atStart => exact ⟨0, congrArg (Value.int .i64) (by omega), by omega, by have h := HOW0.out; unfold tailB; rw [List.append_nil]; exact h, HB0.out⟩
    case round =>
     obtain ⟨j, rfl, hj, how, hbl⟩ := hrel
     have HOW := Lib.hid how
     have HBL := Lib.hid hbl
     have hbsz : wo.heap.size ≤ wr.heap.size := hbl.size
     have hrow := HR.out.below hbl (Nat.le_refl _)
     clear how hbl
     have hnk : n1 - k = nk := HNK.out
     have hkn : k ≤ n1 := Nat.le_trans HLW.out.1 (Nat.le_of_eq HLEN.out)
     by_cases hlt : j < nk
     ·obtain ⟨i, hi⟩ : ∃ i : Nat, (n1 : Int) - 1 - (j : Int) = (i : Int) := ⟨n1 - 1 - j, by omega⟩
      obtain ⟨-, hcap, -, hcc⟩ := HR.out
      clear hrow
      rcases hcc with h0 | ⟨ba, oa, rfl, hbo, hcell⟩
      ·omega
      have hii : i < n1 := by omega
      have cxo := hcell i hii
      have HBE : ∀ w', Below wo.heap.size wo w' → w'.cell? ⟨ba, oa + i, none⟩ = some (.int .u32 (xs.getD i 0)) := fun w' hb => by rw [hb.cell (p := ⟨ba, oa + i, none⟩) hbo]; exact cxo
      have cx := HBE wr HBL.out
      have hba : ba < wr.heap.size := Nat.lt_of_lt_of_le hbo hbsz
      clear cxo
      have hxr := HD.out.at (by decide) i
      obtain ⟨x, hx⟩ : ∃ x, xs.getD i 0 = x := ⟨_, rfl⟩
      rw [hx] at cx hxr HBE
      have HO6 := Lib.hid HBE
      clear HBE
      obtain ⟨x1, x2⟩ := hxr
      have hx' : xs.getD (xs.length - 1 - j) 0 = x := by rw [← hx, HLEN.out]; congr 1; omega
      have HX := Lib.hid hx'
      have hx3 : x ≤ 4294967295 := by omega
      have q0 : (k : Int) ≤ (i : Int) := by omega
      have q1 : (0 : Int) ≤ (i : Int) := by omega
      have q2 : (i : Int) < (n1 : Int) := by omega
      have hw1 : IntKind.u8.wrap (x / 16777216) = x / 16777216 := wrap_u8 (by omega)
      have hw2 : IntKind.u8.wrap (x / 65536) = x / 65536 % 256 := wrap_u8 (by omega)
      have hw3 : IntKind.u8.wrap (x / 256) = x / 256 % 256 := wrap_u8 (by omega)
      have hw4 : IntKind.u8.wrap x = x % 256 := wrap_u8 (by omega)
      rw [hi]
      have HII := Lib.hid hi
      have HJ := Lib.hid hj
      have hj8 : j ≤ 70 := by omega
      have hg1 : 1 ≤ gk := by omega
      clear hcell hx hx' hi hj hlt x2 hnk hkn hn70 hcap
      have HO1 : Hid (OwnK .u8 (wr.alloc (.cells #[.int .u8 (x / 16777216), .int .u8 (x / 65536 % 256), .int .u8 (x / 256 % 256), .int .u8 (x % 256)] 5)).drew wo.heap.size 5 u5 (3 + 4 * j) (hd ++ tailB xs j)) := Lib.hid (World.ownsRow.alloc HOW.out _)
      have HO2 : Hid (RowK .u8 (wr.alloc (.cells #[.int .u8 (x / 16777216), .int .u8 (x / 65536 % 256), .int .u8 (x / 256 % 256), .int .u8 (x % 256)] 5)).drew (some ⟨wr.heap.size, 0, none⟩) 4 4 [x / 16777216, x / 65536 % 256, x / 256 % 256, x % 256]) := Lib.hid (OwnK.four .u8 wr 5 _ _ _ _).row
      have HO3 : Hid (wo.heap.size ≤ (wr.alloc (.cells #[.int .u8 (x / 16777216), .int .u8 (x / 65536 % 256), .int .u8 (x / 256 % 256), .int .u8 (x % 256)] 5)).drew.heap.size) := Lib.hid (Nat.le_trans hbsz ((Below.refl _ _).alloc (Nat.le_refl _) _).drew.size)
      have HO4 : Hid (Below wo.heap.size wo (wr.alloc (.cells #[.int .u8 (x / 16777216), .int .u8 (x / 65536 % 256), .int .u8 (x / 256 % 256), .int .u8 (x % 256)] 5)).drew) := Lib.hid (HBL.out.alloc hbsz _).drew
      have HO5 : Hid (3 + 4 * j + 4 ≤ 8796093022208) := Lib.hid (by omega)
      go_wp2_with fail
      go_region_held3 (fun w' => w'.cell? ⟨ba, oa + i, none⟩ = some (.int .u32 x)) (first | exact cx | go_keep | exact HO6.out _ (hbl3 _ HO4.out))
       ((refine step_append_row .u8 69 5 1 info_u8e (by decide) Tryz.underlying69 rfl _ _ (by rfl) _ wo.heap.size u5 (3 + 4 * j) (hd ++ tailB xs j) _ 4 4 [x / 16777216, x / 65536 % 256, x / 256 % 256, x % 256] (by rfl) (by rfl) HO1.out HO2.out (fun h => by cases h) HO5.out HO3.out ?_; intro v3 w3 hown3 hgr3 hbl3))
      obtain ⟨a3, c3, hv3⟩ := hown3.form
      subst hv3
      have HOW3 : Hid (OwnK .u8 w3 wo.heap.size 5 (.slice a3 (3 + 4 * j + 4) c3) (3 + 4 * (j + 1)) (hd ++ tailB xs (j + 1))) := Lib.hid (by rw [← tail_more HX.out]; exact hown3)
      have HB3 := Lib.hid (hbl3 _ HO4.out)
      have hn7 := HN70.out
      clear hown3 hgr3 hbl3 HO1 HO2 HO3 HO4 HO5 HO6 cx hw1 hw2 hw3 hw4
      go_wp2_with fail
      go_roundg (gk - 1)
      case measure => have := HJ.out; omega
      case rel => exact ⟨j + 1, congrArg (Value.int .i64) (by have := HII.out; omega), by have := HJ.out; omega, HOW3.out, HB3.out⟩
     ·have hje : j = nk := by omega
      have HJE := Lib.hid hje
      have hq : decide ((k : Int) ≤ (n1 : Int) - 1 - (j : Int)) = false := by simp; omega
      obtain ⟨a5, c5, hu5⟩ := HOW.out.form
      subst hu5
      have HEQ : Hid (hd ++ tailB xs j = [((b + (if z < 0 then 32 else 0) : Nat) : Int), (k : Int), ((xs.length - k : Nat) : Int)] ++ tailB xs (xs.length - k)) := Lib.hid (by
       rw [← HHD.out, hje, HLEN.out, HFL.out, HNK.out])
      clear hlt hje hj
      go_wp2_with fail
      go_ret
      exact ⟨a5, _, c5, _, rfl, HOW.out.row, ⟨xs, k, HD.out, HT.out, HV.out, HLW.out, HEQ.out⟩, by rw [HSZ.out]; exact HB8.out.trans (HBL.out.mono (Nat.le_trans (Nat.le_of_eq HSZ.out.symm) HB8.out.size)), HOW.out.fresh.mono HB8.out.size⟩
end Go.Proofs.YtehmompbmnejkaaGreat
