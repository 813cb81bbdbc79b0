/- Contract of package flo's Join. Conditions: at most 150 words; an int64 place. -/
import Derived.Test.YtnbhcemgoifkgaaFloL
namespace Go.Proofs.Ytnbhcemgoifkgaa
open Go.RowKit Ieee

theorem shl_cast (X c : Nat) : ((X * 2 ^ c : Nat) : Int) = (X : Int) * 2 ^ c := by
  rw [Int.natCast_mul, Int.natCast_pow]; rfl
theorem div_cast (X c : Nat) : ((X / 2 ^ c : Nat) : Int) = (X : Int) / 2 ^ c := by
  rw [Int.natCast_ediv, Int.natCast_pow]; rfl
theorem pow_of_int {X b : Nat} (h : (X : Int) < 2 ^ b) : X < 2 ^ b := by
  have e : ((2 ^ b : Nat) : Int) = 2 ^ b := by rw [Int.natCast_pow]; rfl
  omega
theorem pow_of_int' {X b : Nat} (h : (2 : Int) ^ b ≤ X) : 2 ^ b ≤ X := by
  have e : ((2 ^ b : Nat) : Int) = 2 ^ b := by rw [Int.natCast_pow]; rfl
  omega
theorem half_exist {X : Nat} (h : 0 < X) : ∃ r, IsHalf (X : Int) r := by
  induction X using Nat.strongRecOn with | ind X ih => ?_
  by_cases h2 : X % 2 = 1
  · exact ⟨0, .inr ⟨X / 2, by rw [Int.pow_zero, Int.one_mul]; omega⟩⟩
  · obtain ⟨r, hr⟩ := ih (X / 2) (by omega) (by omega)
    rcases hr with ⟨h3, -⟩ | ⟨o, ho⟩
    · omega
    · exact ⟨r + 1, .inr ⟨o, by rw [Int.pow_succ, Int.mul_comm (2 ^ r), Int.mul_assoc, ← ho]; omega⟩⟩
def RJoin (z : Nat) (w : World) (e : Ending) (w' : World) : Prop := e = .returned (.float .f64 z) ∧ Below w.heap.size w w'

set_option maxRecDepth 100000 in
set_option maxHeartbeats 4000000 in
theorem fjoin_any (neg : Bool) (a : Option Addr) (n c : Nat) (xs : List Int) (X : Nat) (e : Int) (w : World) (ha : RowK .u32 w a n c xs) (hx : Dig 4294967296 xs) (hv : V 4294967296 xs = (X : Int)) (hn : n ≤ 150) (he1 : -9223372036854775808 ≤ e) (he2 : e ≤ 9223372036854775807) :
    Calls Try.prog 52 #[.bool neg, .slice a n c, .int .i64 e] w (RJoin (joinN neg X e) w) := by
  have hbits := bits_any a n c xs w ha hx (by omega)
  rw [hv] at hbits
  have HBT := Lib.hid hbits
  have HA := Lib.hid ha
  have HX := Lib.hid hx
  have HV := Lib.hid hv
  have hXb : (X : Int) < 4294967296 ^ 150 := by
    have h := (V_bd (B := 4294967296) (by decide) hx).2
    rw [hv, ha.1] at h
    exact Int.lt_of_lt_of_le h (ipow_le (by decide) hn)
  have HXB := Lib.hid hXb
  have HS := Lib.hid (fun (r : Nat) (w1 : World) (h : nearN X e = r) => fsigned_near neg X e r w1 h)
  have hin := Lib.hid (inf_any 1 w)
  rw [if_pos (by decide)] at hin
  obtain ⟨qi, hqi⟩ : ∃ q : Nat, q = INF := ⟨_, rfl⟩
  rw [← hqi] at hin
  have HQI := Lib.hid hqi
  clear hqi
  clear hbits ha hx hv hXb
  go_enter Try.func52, Try.ntmps52
  go_wp2_with fail
  refine HBT.out.mono ?_; rintro x w1 ⟨bn, rfl, rfl, hb⟩
  rcases hb with ⟨hX0, rfl⟩ | ⟨hb1, hb2, hb3⟩
  · have hX : X = 0 := by omega
    have hs0 := Lib.hid (HS.out 0 w (by rw [hX]; exact near_zero))
    clear hX0 hX
    go_wp2_with fail
    refine hs0.out.mono ?_; rintro x w1 ⟨rfl, rfl⟩
    go_wp2_with fail
    go_ret
    exact ⟨rfl, Below.refl _ _⟩
  · have HB2 := Lib.hid (pow_of_int' hb2)
    have HB3 := Lib.hid (pow_of_int hb3)
    have hX0 : 0 < X := Nat.lt_of_lt_of_le (Nat.two_pow_pos _) HB2.out
    have hbn : bn ≤ 4800 := by
      have h1 := HXB.out
      rw [show (4294967296 : Int) = 2 ^ 32 from rfl, ← Int.pow_mul] at h1
      have h2 := pow_of_int h1
      have h3 : bn - 1 < 32 * 150 := two_pow_lt (Nat.lt_of_le_of_lt HB2.out h2)
      omega
    have hbz : ((bn : Int) == 0) = false := by simp; omega
    have hbn1 : (1 : Int) ≤ bn := by omega
    have hbn2 : (bn : Int) ≤ 4800 := by omega
    clear hb2 hb3
    go_upto_region 4 with fail
    go_cut [35] (fun v wx => v = .bool (bigE bn e) ∧ w = wx)
    case first =>
      by_cases h1 : 1100 < e
      · go_wp2_with fail
        go_meet
        exact ⟨congrArg Value.bool (by simp [bigE]; omega), rfl⟩
      · by_cases h2 : -1100 < e
        · by_cases h3 : 1023 < (bn : Int) - 1 + e
          · go_wp2_with fail
            go_meet
            exact ⟨congrArg Value.bool (by simp [bigE]; omega), rfl⟩
          · go_wp2_with fail
            go_meet
            exact ⟨congrArg Value.bool (by simp [bigE]; omega), rfl⟩
        · go_wp2_with fail
          go_meet
          exact ⟨congrArg Value.bool (by simp [bigE]; omega), rfl⟩
    case rest =>
      obtain ⟨hv35, rfl⟩ := hcut
      by_cases hbig : bigE bn e = true
      · rw [hbig] at hv35
        subst hv35
        have hB := hbig
        clear hbig
        unfold bigE at hB
        have hB2 := of_decide_eq_true hB
        have hs0 := Lib.hid (HS.out qi w (by rw [HQI.out]; exact near_big HB2.out (by omega) (by omega)))
        clear hB hB2
        go_wp2_with fail
        refine hin.out.mono ?_; rintro x w1 ⟨rfl, rfl⟩
        go_wp2_with fail
        refine hs0.out.mono ?_; rintro x w1 ⟨rfl, rfl⟩
        go_wp2_with fail
        go_ret
        exact ⟨rfl, Below.refl _ _⟩
      · have hbig2 : bigE bn e = false := by simpa using hbig
        rw [hbig2] at hv35
        subst hv35
        have hB := hbig2
        clear hbig2
        unfold bigE at hB
        have hB2 := of_decide_eq_false hB
        have he3 : e ≤ 1100 := by omega
        have HNB := Lib.hid hB2
        clear hbig hB hB2
        go_upto_region 6 with fail
        go_cut [49] (fun v wx => v = .bool (smallE bn e) ∧ w = wx)
        case first =>
          by_cases h1 : e < -2200 - (bn : Int)
          · go_wp2_with fail
            go_meet
            exact ⟨congrArg Value.bool (by simp [smallE]; omega), rfl⟩
          · by_cases h2 : (bn : Int) - 1 + e < -1076
            · go_wp2_with fail
              go_meet
              exact ⟨congrArg Value.bool (by simp [smallE]; omega), rfl⟩
            · go_wp2_with fail
              go_meet
              exact ⟨congrArg Value.bool (by simp [smallE]; omega), rfl⟩
        case rest =>
          obtain ⟨hv49, rfl⟩ := hcut
          by_cases hsm : smallE bn e = true
          · rw [hsm] at hv49
            subst hv49
            have hS := hsm
            clear hsm
            unfold smallE at hS
            have hS2 := of_decide_eq_true hS
            have hs0 := Lib.hid (HS.out 0 w (near_small HB3.out hX0 (by omega)))
            clear hS hS2
            go_wp2_with fail
            refine hs0.out.mono ?_; rintro x w1 ⟨rfl, rfl⟩
            go_wp2_with fail
            go_ret
            exact ⟨rfl, Below.refl _ _⟩
          · have hsm2 : smallE bn e = false := by simpa using hsm
            rw [hsm2] at hv49
            subst hv49
            have hS := hsm2
            clear hsm2
            unfold smallE at hS
            have hS2 := of_decide_eq_false hS
            have he4 : -7000 ≤ e := by omega
            have HNS := Lib.hid hS2
            clear hsm hS hS2
            obtain ⟨u, hu⟩ : ∃ u, unitE bn e = u := ⟨_, rfl⟩
            have hur : -1074 ≤ u ∧ (u = (bn : Int) - 53 + e ∨ u = -1074) ∧ (bn : Int) - 53 + e ≤ u := by rw [← hu]; unfold unitE; omega
            obtain ⟨hu1, hu2, hu3⟩ := hur
            have HU2 := Lib.hid hu2
            have HU3 := Lib.hid hu3
            clear hu hu2 hu3
            go_upto_region 8 with fail
            go_cut [8] (fun v wx => v = .int .i64 u ∧ w = wx)
            case first =>
              by_cases h1 : (bn : Int) - 53 + e < -1074
              · go_wp2_with fail
                go_meet
                exact ⟨congrArg (Value.int .i64) (by have := HU2.out; have := HU3.out; omega), rfl⟩
              · go_wp2_with fail
                go_meet
                exact ⟨congrArg (Value.int .i64) (by have := HU2.out; have := HU3.out; omega), rfl⟩
            case rest =>
              obtain ⟨rfl, rfl⟩ := hcut
              obtain ⟨cu, hcu⟩ : ∃ cu, u - e = cu := ⟨_, rfl⟩
              have hcu1 : -53 ≤ cu := by have := HU3.out; omega
              have hcu2 : cu ≤ 12000 := by rcases HU2.out with h | h <;> omega
              have hu5 : u ≤ 7000 := by rcases HU2.out with h | h <;> omega
              obtain ⟨U, hU⟩ : ∃ U : Nat, u = (U : Int) - 1074 := ⟨(u + 1074).toNat, by omega⟩
              have HNU := Lib.hid hU
              have HCU := Lib.hid hcu
              have hU2 : U ≤ 6000 := by
                rcases HU2.out with h | h
                · have := HNB.out; omega
                · omega
              by_cases hc0 : cu ≤ 0
              · obtain ⟨k, hk⟩ : ∃ k : Nat, -cu = (k : Int) := ⟨(-cu).toNat, by omega⟩
                have hk2 : bn + k ≤ 53 := by have := HU3.out; omega
                have hshl := shl_all a n c (-cu) xs w HA.out HX.out (by omega)
                rw [HV.out] at hshl
                have HSH := Lib.hid hshl
                have hnear := near_add (e := e) (U := U) (c := k) HB3.out hX0 (by omega) hk2 (by
                  rcases HU2.out with h | h
                  · right
                    have e1 : bn - 1 + k = 52 := by omega
                    have h2 := Nat.mul_le_mul_right (2 ^ k) HB2.out
                    rw [← Nat.pow_add, e1] at h2
                    exact h2
                  · exact .inl (by omega))
                have hvb : X * 2 ^ k < 9007199254740992 := by
                  have h1 : X * 2 ^ k < 2 ^ bn * 2 ^ k := Nat.mul_lt_mul_of_pos_right HB3.out (Nat.two_pow_pos _)
                  rw [← Nat.pow_add] at h1
                  exact Nat.lt_of_lt_of_le h1 (Nat.pow_le_pow_right (by decide) hk2)
                have hlo : U = 0 ∨ 4503599627370496 ≤ X * 2 ^ k := by
                  rcases HU2.out with h | h
                  · right
                    have e1 : bn - 1 + k = 52 := by omega
                    have h2 := Nat.mul_le_mul_right (2 ^ k) HB2.out
                    rw [← Nat.pow_add, e1] at h2
                    exact h2
                  · exact .inl (by omega)
                have hcast := shl_cast X k
                generalize X * 2 ^ k = vn at *
                obtain ⟨r, hr⟩ : ∃ r, min (U * 4503599627370496 + vn) INF = r := ⟨_, rfl⟩
                have hnr : nearN X e = r := by rw [hnear]; exact hr
                have HLD : Hid (∀ w1, Calls Try.prog 82 #[.float .f64 (floatOfInt .f64 (vn : Int)), .int .i64 u] w1 fun x w' => x = .returned (.float .f64 r) ∧ w1 = w') := Lib.hid (fun w1 => by rw [hU, ← hr]; exact ldexp_all vn U w1 (by omega) hU2 hlo)
                have HNR := Lib.hid hnr
                have HK := Lib.hid hk
                have HC := Lib.hid hcast
                have hvb2 : (vn : Int) ≤ 9007199254740991 := by omega
                have hk5 : k ≤ 53 := by omega
                clear hshl hnear hk hcast hvb hlo hU hU2 hr hnr
                go_wp2_with fail
                refine HSH.out.mono ?_; rintro x w1 hs
                rcases hs with ⟨hbad, -, -⟩ | ⟨N, hN, -, al, nl, cl, rfl, hNL, hb1, -⟩
                · have := HK.out; omega
                have hNk : N = k := by have := HK.out; omega
                rw [hNk, ← HC.out] at hNL
                have hnl : nl ≤ 2 := hNL.len (by omega)
                obtain ⟨ls, hlr, hld, hlv, -⟩ := hNL.tl
                have hui := nuint_any al nl cl ls w1 hlr hld (by omega)
                rw [hlv] at hui
                have HUI := Lib.hid hui
                have HB1 := Lib.hid hb1
                clear hNL hlr hld hlv hui hb1 hNk hN hnl
                go_wp2_with fail
                refine HUI.out.mono ?_; rintro x w2 ⟨hu, hb2⟩
                have hue := hu.1 (by omega)
                subst hue
                have HB2' := Lib.hid (HB1.out.trans (hb2.mono HB1.out.size))
                clear hu hb2
                go_wp2_with fail
                refine (HLD.out w2).mono ?_; rintro x w3 ⟨rfl, rfl⟩
                have hs0 := Lib.hid (HS.out r w2 HNR.out)
                go_wp2_with fail
                refine hs0.out.mono ?_; rintro x w3 ⟨rfl, rfl⟩
                go_wp2_with fail
                go_ret
                exact ⟨rfl, HB2'.out⟩
              · obtain ⟨k, hk⟩ : ∃ k : Nat, cu = (k : Int) := ⟨cu.toNat, by omega⟩
                have hk0 : 0 < k := by omega
                have hk2 : bn ≤ k + 53 := by have := HU3.out; omega
                have hk3 : k ≤ 12000 := by omega
                have hshr := shr_all a n c cu xs w HA.out HX.out (by omega) (by omega)
                rw [HV.out, show cu.toNat = k from by omega, ← div_cast] at hshr
                have HSH := Lib.hid hshr
                have hlo : U = 0 ∨ 2 ^ (k + 52) ≤ X := by
                  rcases HU2.out with h | h
                  · right
                    rw [show k + 52 = bn - 1 from by omega]
                    exact HB2.out
                  · exact .inl (by omega)
                have hnear := near_cut (e := e) (U := U) (c := k) HB3.out hX0 (by omega) hk2 hlo
                have hvb : X / 2 ^ k < 9007199254740992 := by
                  rw [Nat.div_lt_iff_lt_mul (Nat.two_pow_pos k)]
                  have h1 : (2 : Nat) ^ bn ≤ 2 ^ (53 + k) := Nat.pow_le_pow_right (by decide) (by omega)
                  rw [Nat.pow_add] at h1
                  exact Nat.lt_of_lt_of_le HB3.out h1
                have hvl : U = 0 ∨ 4503599627370496 ≤ X / 2 ^ k := by
                  rcases hlo with h | h
                  · exact .inl h
                  · right
                    rw [Nat.le_div_iff_mul_le (Nat.two_pow_pos k)]
                    rw [Nat.add_comm, Nat.pow_add] at h
                    exact h
                have HBITS := Lib.hid (fun (r : Nat) (hr : IsHalf (X : Int) r) => rne_bits (v := X / 2 ^ k) hk0 hX0 hr rfl)
                have hbitc : decide ((X : Int) / 2 ^ (k - 1) % 2 = 1) = decide (X / 2 ^ (k - 1) % 2 = 1) := by
                  rw [← div_cast, Bool.eq_iff_iff, decide_eq_true_iff, decide_eq_true_iff]
                  generalize X / 2 ^ (k - 1) = t
                  omega
                have HFB := Lib.hid (fun (w1 : World) (hw : Below w.heap.size w w1) => fbit_any a n c xs (k - 1) w1 (HA.out.below hw (Nat.le_refl _)) HX.out (by omega))
                rw [HV.out, hbitc, show ((k - 1 : Nat) : Int) = cu - 1 from by omega] at HFB
                obtain ⟨c1, hc1e⟩ : ∃ c1, cu - 1 = c1 := ⟨_, rfl⟩
                rw [hc1e] at HFB
                have HC1 := Lib.hid hc1e
                have HNG := Lib.hid (fun (w1 : World) (hw : Below w.heap.size w w1) => noughts_any a n c xs w1 (HA.out.below hw (Nat.le_refl _)) HX.out (by omega))
                rw [HV.out] at HNG
                have HXK : Hid (((X / 2 ^ k : Nat) : Int) < 18446744073709551616) := Lib.hid (by omega)
                generalize X / 2 ^ k = v0 at *
                have HLD : Hid (∀ (v : Nat) (vi : Int) (w1 : World), vi = (v : Int) → v ≤ 9007199254740992 → (U = 0 ∨ 4503599627370496 ≤ v) → rne X (2 ^ k) = v → Calls Try.prog 82 #[.float .f64 (floatOfInt .f64 vi), .int .i64 u] w1 fun x w' => x = .returned (.float .f64 (nearN X e)) ∧ w1 = w') := Lib.hid (fun v vi w1 h1 h2 h3 h4 => by
                  rw [hU, h1, hnear, h4]
                  exact ldexp_all v U w1 h2 hU2 h3)
                obtain ⟨hb0, hhb⟩ : ∃ b, decide (X / 2 ^ (k - 1) % 2 = 1) = b := ⟨_, rfl⟩
                rw [hhb] at HFB
                have HHB := Lib.hid hhb
                have HK := Lib.hid hk
                have HVL := Lib.hid hvl
                have hvb2 : (v0 : Int) ≤ 9007199254740991 := by omega
                obtain ⟨r, hr⟩ : ∃ r, nearN X e = r := ⟨_, rfl⟩
                rw [hr] at HLD
                have HNR := Lib.hid hr
                clear hshr hnear hk hvb hvl hlo hU hU2 hbitc hhb hr hk0 hk2 hk3
                go_wp2_with fail
                refine HSH.out.mono ?_; rintro x w1 ⟨al, nl, cl, rfl, hNL, hb1, -⟩
                have hnl : nl ≤ 2 := hNL.len (by have := HXK.out; omega)
                obtain ⟨ls, hlr, hld, hlv, -⟩ := hNL.tl
                have hui := nuint_any al nl cl ls w1 hlr hld (by omega)
                rw [hlv] at hui
                have HUI := Lib.hid hui
                have HB1 := Lib.hid hb1
                clear hNL hlr hld hlv hui hb1 hnl
                go_wp2_with fail
                refine HUI.out.mono ?_; rintro x w2 ⟨hu, hb2⟩
                have hue := hu.1 HXK.out
                subst hue
                have HB2' := Lib.hid (HB1.out.trans (hb2.mono HB1.out.size))
                clear hu hb2
                go_wp2_with fail
                refine (HFB.out w2 HB2'.out).mono ?_; rintro x w3 ⟨rfl, rfl⟩
                have hs0 := Lib.hid (HS.out r w2 HNR.out)
                have hnew := Lib.hid (HNG.out w2 HB2'.out)
                cases hb0
                · have hne : rne X (2 ^ k) = v0 := by
                    obtain ⟨rr, hrr⟩ := half_exist hX0
                    rw [HBITS.out rr hrr, if_neg (fun h => by have := of_decide_eq_false HHB.out; exact this h.1)]
                  have hl := Lib.hid (HLD.out v0 _ w2 rfl (by omega) HVL.out hne)
                  clear hne
                  go_wp2_with fail
                  refine hl.out.mono ?_; rintro x w3 ⟨rfl, rfl⟩
                  go_wp2_with fail
                  refine hs0.out.mono ?_; rintro x w3 ⟨rfl, rfl⟩
                  go_wp2_with fail
                  go_ret
                  exact ⟨rfl, HB2'.out⟩
                · have hh := of_decide_eq_true HHB.out
                  by_cases hodd : v0 % 2 = 1
                  · have ho : ((v0 : Int) % 2 == 1) = true := by simp; omega
                    have hne : rne X (2 ^ k) = v0 + 1 := by
                      obtain ⟨rr, hrr⟩ := half_exist hX0
                      rw [HBITS.out rr hrr, if_pos ⟨hh, .inl hodd⟩]
                    have hl := Lib.hid (HLD.out (v0 + 1) ((v0 : Int) + 1) w2 (by omega) (by omega) (by rcases HVL.out with h | h; exact .inl h; exact .inr (by omega)) hne)
                    clear hne hh hodd
                    go_wp2_with fail
                    refine hl.out.mono ?_; rintro x w3 ⟨rfl, rfl⟩
                    go_wp2_with fail
                    refine hs0.out.mono ?_; rintro x w3 ⟨rfl, rfl⟩
                    go_wp2_with fail
                    go_ret
                    exact ⟨rfl, HB2'.out⟩
                  · have ho : ((v0 : Int) % 2 == 1) = false := by simp; omega
                    have HH2 := Lib.hid hh
                    have HOD := Lib.hid hodd
                    clear hh hodd
                    go_wp2_with fail
                    refine hnew.out.mono ?_; rintro x w3 ⟨rr, rfl, rfl, hrr⟩
                    by_cases hlt : (rr : Int) < c1
                    · have hne : rne X (2 ^ k) = v0 + 1 := by
                        rw [HBITS.out rr hrr, if_pos ⟨HH2.out, .inr (by have := HK.out; have := HC1.out; omega)⟩]
                      have hl := Lib.hid (HLD.out (v0 + 1) ((v0 : Int) + 1) w2 (by omega) (by omega) (by rcases HVL.out with h | h; exact .inl h; exact .inr (by omega)) hne)
                      clear hne hrr
                      go_wp2_with fail
                      refine hl.out.mono ?_; rintro x w3 ⟨rfl, rfl⟩
                      go_wp2_with fail
                      refine hs0.out.mono ?_; rintro x w3 ⟨rfl, rfl⟩
                      go_wp2_with fail
                      go_ret
                      exact ⟨rfl, HB2'.out⟩
                    · have hne : rne X (2 ^ k) = v0 := by
                        rw [HBITS.out rr hrr, if_neg (fun h => by
                          rcases h.2 with h1 | h1
                          · exact HOD.out h1
                          · have := HK.out; have := HC1.out; omega)]
                      have hl := Lib.hid (HLD.out v0 _ w2 rfl (by omega) HVL.out hne)
                      have hdec : decide ((rr : Int) < c1) = false := by simpa using hlt
                      clear hne hrr hlt
                      go_wp2_with fail
                      refine hl.out.mono ?_; rintro x w3 ⟨rfl, rfl⟩
                      go_wp2_with fail
                      refine hs0.out.mono ?_; rintro x w3 ⟨rfl, rfl⟩
                      go_wp2_with fail
                      go_ret
                      exact ⟨rfl, HB2'.out⟩
end Go.Proofs.Ytnbhcemgoifkgaa
