/- Contract of package nat's Div: the long division. Conditions: the words are below 2^32; at most 90000 of them. -/
import Derived.Test.YtnbhcemgoifkgaaNatM
namespace Go.Proofs.Ytnbhcemgoifkgaa
open Go.RowKit

theorem ArrP.far {k : IntKind} {e : TypeId} {w : World} {g : Nat} {xs : List Int} (h : ArrP k e w g xs) {p : Addr} (hp : p.block ≠ g) (v : Value) : ArrP k e (w.setCell p v) g xs := by
  obtain ⟨r, h⟩ := h
  exact ⟨r, by rw [Below.heap_setCell _ _ _ _ (fun e => hp e.symm)]; exact h⟩
theorem cell_far {w : World} {p q : Addr} {v : Value} (h : q.block ≠ p.block) : (w.setCell p v).cell? q = w.cell? q := World.cell?_of_block (w := w) (Below.heap_setCell _ _ _ _ h)
theorem OwnK.ofArr {k : IntKind} {w : World} {g n : Nat} {e : TypeId} {xs : List Int} (h : Arr k e w g xs) (hl : xs.length = n) (hm : n ≤ maxLen) : OwnK k w g e (.slice (some ⟨g, 0, none⟩) n n) n xs :=
  ⟨by simp [hl], .inr ⟨g, n, _, rfl, Nat.le_refl _, h, Nat.le_refl _, hm, by simp [hl], by simp [hl, List.take_of_length_le]⟩⟩

theorem div_ds {ds : List Int} {k : Nat} {D : Int} (hd : Dig 4294967296 ds) (hl : ds.length = k + 2 + 1) (hv : V 4294967296 ds = D) (h0 : 4294967296 ^ (k + 1) ≤ D) (h1 : D < 4294967296 ^ (k + 2)) :
    (ds.take (k + 2)).length = k + 2 ∧ V 4294967296 (ds.take (k + 2)) = D ∧ 1 ≤ (ds.take (k + 2)).getD (k + 1) 0 := by
  have e0 : win 4294967296 ds 0 (k + 2 + 1) = D := by
    rw [← hv]
    unfold V win
    rw [hl]
    exact vf_congr _ fun i _ => by rw [Nat.zero_add]
  obtain ⟨h2, -⟩ := win_top hd (off := 0) (Int.le_refl _) (by rw [e0]; exact h1)
  rw [Nat.zero_add] at h2
  have hl2 : (ds.take (k + 2)).length = k + 2 := by rw [List.length_take]; omega
  have hv2 : V 4294967296 (ds.take (k + 2)) = D := by
    rw [← hv]
    exact V_take (by omega) fun i h3 h4 => by
      have : i = k + 2 := by omega
      rw [this]; exact h2
  refine ⟨hl2, hv2, ?_⟩
  have h5 := (hd.take (k + 2)).at (by decide) (k + 1)
  rcases Int.lt_or_le 0 ((ds.take (k + 2)).getD (k + 1) 0) with h6 | h6
  · omega
  · have h7 : (ds.take (k + 2)).getD (k + 1) 0 = 0 := by omega
    have h8 : V 4294967296 (ds.take (k + 2)) = vf 4294967296 (fun i => (ds.take (k + 2)).getD i 0) (k + 1) + (ds.take (k + 2)).getD (k + 1) 0 * 4294967296 ^ (k + 1) := by
      unfold V
      rw [hl2]; rfl
    have h9 := vf_bd (B := 4294967296) (by decide) (f := fun i => (ds.take (k + 2)).getD i 0) (k + 1) fun i _ => (hd.take (k + 2)).at (by decide) i
    rw [h7, Int.zero_mul] at h8
    omega
/-- the highest window: its top word is 0 -/
theorem div_start {os : List Int} {n k : Nat} {D : Int} (ho : Dig 4294967296 os) (hl : os.length = n + 1) (hk : k + 2 ≤ n) (h0 : 4294967296 ^ (k + 1) ≤ D) : win 4294967296 (os ++ [0]) (n - k) (k + 2) < D := by
  have h := (win_bd (ho.snoc (Int.le_refl _) (by decide)) (n - k) (k + 1)).2
  have e : win 4294967296 (os ++ [0]) (n - k) (k + 2) = win 4294967296 (os ++ [0]) (n - k) (k + 1) + (os ++ [0]).getD (n - k + (k + 1)) 0 * 4294967296 ^ (k + 1) := rfl
  rw [show n - k + (k + 1) = os.length from by omega, getD_snoc, Int.zero_mul] at e
  omega
theorem div_bound {os : List Int} {j m : Nat} {D : Int} (ho : Dig 4294967296 os) (h : win 4294967296 os (j + 1) m < D) : win 4294967296 os j (m + 1) < D * 4294967296 := by
  rw [win_cons]
  have := ho.at (by decide) j
  have := (win_bd ho (j + 1) m).1
  omega

set_option maxRecDepth 100000 in
set_option maxHeartbeats 4000000 in
theorem ndiv_long (a b : Option Addr) (n0 c m0 d k : Nat) (xs ys : List Int) (w : World) (ha : RowK .u32 w a n0 c xs) (hb : RowK .u32 w b m0 d ys) (hx : Dig 4294967296 xs) (hy : Dig 4294967296 ys) (hn : n0 ≤ 90000) (hm0 : m0 ≤ 90000) (h0 : V 4294967296 ys ≤ V 4294967296 xs) (h1 : tl ys = k + 2) :
    Calls Try.prog 18 #[.slice a n0 c, .slice b m0 d] w (RetQR w (V 4294967296 xs / V 4294967296 ys) (V 4294967296 xs % V 4294967296 ys)) := by
  have SB := Lib.hid (size_any b m0 d ys w hb)
  have HC := Lib.hid (ncmp_any a b n0 c m0 d xs ys w ha hb hx hy)
  have hcz := cmpZ_ge h0
  have hml : tl ys ≤ m0 := by have := tl_le ys; rw [hb.1] at this; exact this
  have hnl : tl xs ≤ n0 := by have := tl_le xs; rw [ha.1] at this; exact this
  have hkn : k + 2 ≤ tl xs := by
    rcases Nat.lt_or_ge (tl xs) (tl ys) with h | h
    · have := tl_lt (B := 4294967296) (by decide) hx hy h
      omega
    · omega
  have hcz' : ¬ (cmpZ (V 4294967296 xs) (V 4294967296 ys) < 0) := by omega
  have hge := tl_ge (B := 4294967296) (by decide) hy (by omega)
  have hlt := tl_bd (B := 4294967296) (by decide) hy
  rw [h1] at SB hml hge hlt
  rw [show k + 2 - 1 = k + 1 from rfl] at hge
  have HBI := Lib.hid (fun w1 (h : Below w.heap.size w w1) => bits_any b m0 d ys w1 (hb.below h (Nat.le_refl _)) hy (by omega))
  have HMB := Lib.hid (fun w1 (s : Nat) (hs : s ≤ 31) (h : Below w.heap.size w w1) => move_any b m0 d s ys w1 (hb.below h (Nat.le_refl _)) hy (by omega) hs)
  have HMA := Lib.hid (fun w1 (s : Nat) (hs : s ≤ 31) (h : Below w.heap.size w w1) => move_any a n0 c s xs w1 (ha.below h (Nat.le_refl _)) hx (by omega) hs)
  rw [h1] at HMB
  have HGE := Lib.hid hge
  have HLT := Lib.hid hlt
  clear ha hb h0 hge hlt h1
  generalize cmpZ (V 4294967296 xs) (V 4294967296 ys) = cz at *
  generalize V 4294967296 xs = X at *
  generalize V 4294967296 ys = Y at *
  generalize tl xs = n at *
  go_enter Try.func18, Try.ntmps18
  go_wp2_with fail
  refine SB.out.mono ?_; rintro e w1 ⟨rfl, rfl⟩
  go_wp2_with fail
  refine HC.out.mono ?_; rintro e w1 ⟨rfl, hb1⟩
  go_wp2_with fail
  refine (HBI.out w1 hb1).mono ?_; rintro e w1b ⟨bb, rfl, rfl, hbits⟩
  obtain ⟨hr0, hr1⟩ := bits_range hbits HGE.out HLT.out
  obtain ⟨s, hs⟩ : ∃ s, 32 * (k + 2) = bb + s := ⟨32 * (k + 2) - bb, by omega⟩
  have hs31 : s ≤ 31 := by omega
  obtain ⟨hf0, hf1⟩ := shift_fit hbits HGE.out hs
  have HF0 := Lib.hid hf0
  have HF1 := Lib.hid hf1
  have e1 : 32 * ((k : Int) + 2) - (bb : Int) = (s : Int) := by omega
  have hbb : bb ≤ 3000000 := by omega
  clear hbits hf0 hf1 hs hr0 hr1
  go_wp2_with fail
  refine (HMB.out w1 s hs31 hb1).mono ?_; rintro e w2 ⟨ds, rfl, harr2, hl2, hd2, hv2, hb2⟩
  have hbw2 : Below w.heap.size w w2 := hb1.trans (hb2.mono hb1.size)
  go_wp2_with fail
  refine (HMA.out w2 s hs31 hbw2).mono ?_; rintro e w3 ⟨os, rfl, harr3, hl3, hd3, hv3, hb3⟩
  have hbw3 : Below w.heap.size w w3 := hbw2.trans (hb3.mono hbw2.size)
  have harr23 := harr2.below hb3 harr2.lt
  have hown : OwnK .u32 w3 w2.heap.size 55 (.slice (some ⟨w2.heap.size, 0, none⟩) (n + 1) (n + 1)) (n + 1) os := OwnK.ofArr harr3 hl3 (by unfold maxLen; omega)
  go_wp2_with (at_builtin; refine append1 .u32 22 55 4 info_u32 (by decide) Try.underlying22 rfl _ _ rfl w2.heap.size w3 (.slice (some ⟨w2.heap.size, 0, none⟩) (n + 1) (n + 1)) (n + 1) os 0 rfl rfl hown (by omega) (by have := hb3.size; omega) ?_)
  intro g cap w4 hown4 hgr4 hbl4 hg4
  have hb4 : Below w2.heap.size w2 w4 := hbl4 w2 hb3
  have hg : w2.heap.size ≤ g := by
    have := hb3.size
    rcases hg4 with h | h
    · simp [Value.ownBlock] at h; omega
    · omega
  have hbw4 : Below w.heap.size w w4 := hbw2.trans (hb4.mono hbw2.size)
  have hpart := hown4.part
  have harr24 := harr2.below hb4 harr2.lt
  obtain ⟨hdl, hdv, hd1⟩ := div_ds hd2 hl2 hv2 HF0.out HF1.out
  have hdd := hd2.take (k + 2)
  have hst := div_start hd3 hl3 hkn HF0.out
  have hdo := hd3.snoc (Int.le_refl 0) (by decide)
  have hvo : V 4294967296 (os ++ [0]) = X * 2 ^ s := by rw [V_snoc, hv3, Int.zero_mul, Int.add_zero]
  have hlo : (os ++ [0]).length = n + 2 := by rw [List.length_append, hl3]; rfl
  have hcd : ∀ j, j < k + 2 → w4.cell? ⟨w1.heap.size, j, none⟩ = some (.int .u32 ((ds.take (k + 2)).getD j 0)) := fun j hj => by
    rw [getD_take hj]; exact harr24.cell (by rw [hl2]; omega)
  have hcap : n + 2 ≤ cap ∧ cap ≤ 9223372036854775807 := by have h := hown4.row; exact ⟨h.2.1, h.2.2.1⟩
  have hg2 : w1.heap.size < w2.heap.size := harr2.lt
  have hgw4 := hpart.lt
  have hwb : w.heap.size ≤ w1.heap.size := hb1.size
  have HBW4 := Lib.hid hbw4
  have HPART := Lib.hid hpart
  have HDL := Lib.hid hdl
  have HDV := Lib.hid hdv
  have HD1 := Lib.hid hd1
  have HDD := Lib.hid hdd
  have HST := Lib.hid hst
  have HDO := Lib.hid hdo
  have HVO := Lib.hid hvo
  have HLO := Lib.hid hlo
  have HCD := Lib.hid hcd
  generalize os ++ [0] = os0 at *
  generalize ds.take (k + 2) = dl at *
  clear hbw4 hpart hdl hdv hd1 hdd hst hdo hvo hlo hcd hown4 hgr4 hbl4 hg4 hb4 harr24 hown harr3 hl3 hd3 hv3 hb3 hbw3 harr23 hbw2 harr2 hl2 hd2 hv2 hb2 hb1
  obtain ⟨hcap0, hcap1⟩ := hcap
  go_wp2_with (at_make; refine make_arr .u32 22 55 4 info_u32 (by decide) Try.underlying22 rfl _ _ rfl .i64 .i64 _ _ (n - k) _ rfl rfl (by omega) (by omega) (by omega) ?_)
  intro w5 harr5 hb5 hs5
  have HB5 := Lib.hid hb5
  have HARR5 := Lib.hid harr5
  have HP5 := Lib.hid (HPART.out.below hb5 hgw4)
  have HC5 := Lib.hid (fun j hj => ((bcell hb5).1 w1.heap.size j (by omega)).trans (HCD.out j hj))
  have HBW5 := Lib.hid (HBW4.out.trans (hb5.mono HBW4.out.size))
  clear hb5 harr5
  go_wp2_with fail
  go_loopg [14] (n - k) (fun i u wr => ∃ (os qs : List Int), u = .int .i64 ((i : Int) - 1) ∧ i ≤ n - k ∧ ArrP .u32 55 wr g os ∧ os.length = n + 2 ∧ Dig 4294967296 os ∧ Arr .u32 55 wr w4.heap.size qs ∧ qs.length = n - k ∧ Dig 4294967296 qs ∧
    V 4294967296 os + Y * 2 ^ s * V 4294967296 qs = X * 2 ^ s ∧ (∀ j, j < i → qs.getD j 0 = 0) ∧ (∀ t, i + (k + 2) ≤ t → os.getD t 0 = 0) ∧ win 4294967296 os i (k + 2) < Y * 2 ^ s ∧ (∀ j, j < k + 2 → wr.cell? ⟨w1.heap.size, j, none⟩ = some (.int .u32 (dl.getD j 0))) ∧ Below w.heap.size w wr)
  case atStart => exact ⟨os0, _, by go_num, Nat.le_refl _, HP5.out, HLO.out, HDO.out, HARR5.out, by simp, Dig.replicate (by decide) _, by rw [V_replicate, Int.mul_zero, Int.add_zero]; exact HVO.out, fun j _ => getD_replicate _ _, fun t ht => getD_ge (by rw [HLO.out]; omega), HST.out, HC5.out, HBW5.out⟩
  case round =>
    obtain ⟨os, qs, rfl, hi, hpart, hlo, hdo, harrq, hlq, hdq, hv, hqz, hoz, hwin, hcd, hbl⟩ := hrel
    have HP := Lib.hid hpart
    have HLO := Lib.hid hlo
    have HDO := Lib.hid hdo
    have HARR := Lib.hid harrq
    have HLQ := Lib.hid hlq
    have HDQ := Lib.hid hdq
    have HV := Lib.hid hv
    have HQZ := Lib.hid hqz
    have HOZ := Lib.hid hoz
    have HWIN := Lib.hid hwin
    have HCD := Lib.hid hcd
    have HBL := Lib.hid hbl
    clear hpart hlo hdo harrq hlq hdq hv hqz hoz hwin hcd hbl
    by_cases h0 : gk = 0
    · subst h0
      obtain ⟨hq, hr⟩ := div_end HDO.out (by rw [HLO.out]; omega) (fun t ht => HOZ.out t (by omega)) HWIN.out HV.out
      obtain ⟨hq2, hr2⟩ := div_scale (X := X) (Y := Y) (s := s)
      rw [hq2] at hq
      have hnq : NatC wr (some ⟨w4.heap.size, 0, none⟩) (tl qs) (n - k) (X / Y) := ⟨qs.take (tl qs), HARR.out.row (by have := tl_le qs; rw [HLQ.out] at this; exact this) (by rw [HLQ.out]; exact Nat.le_refl _) (by rw [HLQ.out]; omega), HDQ.out.take _, tl_trim qs, by rw [tl_V]; exact hq⟩
      have hrow : RowK .u32 wr (some ⟨w4.heap.size, 0, none⟩) (n - k) (n - k) qs := by
        have h := HARR.out.full (by rw [HLQ.out]; omega)
        rw [HLQ.out] at h; exact h
      have HNQ := Lib.hid hnq
      have HROW := Lib.hid hrow
      have HSZ := Lib.hid (fun w1 (h : Below wr.heap.size wr w1) => size_any _ _ _ _ w1 (hrow.below h (Nat.le_refl _)))
      have hsh := fun w1 (h : Below wr.heap.size wr w1) => shr_any (some ⟨g, 0, none⟩) (n + 1 + 1) cap (s : Int) s 0 s os w1 ((HP.out.row HLO.out hcap0 hcap1).below h (Nat.le_refl _)) HDO.out (by omega) (by omega) (by omega) hs31 (by omega)
      rw [hr, hr2] at hsh
      have HSH := Lib.hid hsh
      have htl := tl_le qs
      rw [HLQ.out] at htl
      clear hq hr hq2 hr2 hnq hrow hsh
      generalize tl qs = t at *
      go_wp2_with fail
      go_region_with (first
        | (go_at_call 66; refine (HSZ.out _ ?_).mono ?_; (first | exact Below.refl _ _ | exact (Below.refl _ _).drew | exact (Below.refl _ _).drew.trans hb7); rintro e w7s ⟨rfl, rfl⟩)
        | (go_at_call 35; refine (HSH.out _ ?_).mono ?_; (first | exact Below.refl _ _ | exact (Below.refl _ _).drew); rintro e w7 ⟨a3, n3, c3, rfl, hN3, hb7, hf3⟩))
      all_goals
        have hbr : Below wr.heap.size wr w7 := (Below.refl _ _).drew.trans hb7
        have HBR := Lib.hid hbr
        have HN3 := Lib.hid hN3
        have HF3 : Hid (Fresh wr.heap.size a3) := Lib.hid hf3
        clear hbr hN3 hf3 hb7
        go_wp2_with fail
        go_ret3
        have hs4 := HBL.out.size
        have hs5 := HBW4.out.size
        exact ⟨_, _, _, a3, n3, c3, rfl, HNQ.out.below HBR.out (Nat.le_refl _), HN3.out, HBL.out.trans (HBR.out.mono hs4), Fresh.at hs5, HF3.out.mono hs4⟩
    · obtain ⟨j, hj⟩ : ∃ j, gk = j + 1 := ⟨gk - 1, by omega⟩
      subst hj
      rw [show ((j + 1 : Nat) : Int) - 1 = (j : Int) from by omega]
      have hbd := div_bound HDO.out HWIN.out
      rw [← HDV.out] at hbd
      have HWD := Lib.hid (word_any g w1.heap.size j k (cap - j) (k + 2 + 1) os dl wr HP.out HCD.out HDL.out (by omega) (by rw [HLO.out]; omega) HDO.out HDD.out (by omega) HD1.out hbd)
      rw [HDV.out] at HWD
      have hD0 : 0 < Y * 2 ^ s := by have := HF0.out; have : (0 : Int) < 4294967296 ^ (k + 1) := Int.pow_pos (by decide); omega
      have HQ0 := Lib.hid (Int.ediv_nonneg (win_bd HDO.out j (k + 3)).1 (Int.le_of_lt hD0))
      have HQ1 : Hid (win 4294967296 os j (k + 3) / (Y * 2 ^ s) < 4294967296) := Lib.hid (Int.ediv_lt_of_lt_mul hD0 (by rw [HDV.out] at hbd; rw [Int.mul_comm]; exact hbd))
      have HM1 := Lib.hid (Int.emod_lt_of_pos (win 4294967296 os j (k + 3)) hD0)
      obtain ⟨W, hW⟩ : ∃ W, win 4294967296 os j (k + 3) = W := ⟨_, rfl⟩
      rw [hW] at HWD HQ0 HQ1 HM1
      obtain ⟨q, hq⟩ : ∃ q, W / (Y * 2 ^ s) = q := ⟨_, rfl⟩
      rw [hq] at HWD HQ0 HQ1
      have HW := Lib.hid hW
      have HQ := Lib.hid hq
      clear hbd hD0 hW hq
      go_wp2_with fail
      rw [show j + (k + 2) + 1 - j = k + 3 from by omega]
      refine HWD.out.mono ?_; rintro e w6 ⟨os', rfl, hp', hlo', hdo', hsame', honly, hw'⟩
      have harr' := honly.arr HARR.out (by omega)
      have hco := harr'.cell (i := j) (by rw [HLQ.out]; omega)
      have hfo := harr'.frozen j
      have HP' := Lib.hid hp'
      have HLO' := Lib.hid hlo'
      have HDO' := Lib.hid hdo'
      have HSAME := Lib.hid hsame'
      have HONLY := Lib.hid honly
      have HW' := Lib.hid hw'
      have HARR' := Lib.hid harr'
      clear hp' hlo' hdo' hsame' honly hw' harr'
      go_wp2_with fail
      go_roundg j
      case measure => omega
      case rel =>
        obtain ⟨ht0, ht1⟩ := win_top HDO'.out (off := j) (m := k + 2) (Int.le_of_lt HF1.out) (by rw [HW'.out]; exact HM1.out)
        refine ⟨os', qs.set j q, rfl, by omega, HP'.out.far (by show w4.heap.size ≠ g; omega) _, by rw [HLO'.out]; exact HLO.out, HDO'.out, HARR'.out.set j q, by rw [List.length_set]; exact HLQ.out, HDQ.out.set j HQ0.out HQ1.out, ?_, fun i hi => by rw [getD_set_ne (by omega)]; exact HQZ.out i (by omega), ?_, ht1, fun i hi => ?_, (HBL.out.trans (HONLY.out.below (by omega))).setCell (by show _ ≤ w4.heap.size; omega) _⟩
        · rw [← HQ.out]
          exact div_step HLO'.out (by rw [HLO.out]; omega) HSAME.out HW.out HW'.out (by rw [HLQ.out]; omega) (HQZ.out j (by omega)) HV.out
        · intro t ht
          by_cases h : t = j + (k + 2)
          · rw [h]; exact ht0
          · rw [HSAME.out t (.inr (by omega))]; exact HOZ.out t (by omega)
        · rw [cell_far (by show w1.heap.size ≠ w4.heap.size; omega), HONLY.out.cell (by show w1.heap.size ≠ g; omega)]; exact HCD.out i hi

theorem ndiv_any (a b : Option Addr) (n0 c m0 d : Nat) (xs ys : List Int) (w : World) (ha : RowK .u32 w a n0 c xs) (hb : RowK .u32 w b m0 d ys) (hx : Dig 4294967296 xs) (hy : Dig 4294967296 ys) (hn : n0 ≤ 90000) (hm : m0 ≤ 90000) (h0 : V 4294967296 ys ≠ 0) :
    Calls Try.prog 18 #[.slice a n0 c, .slice b m0 d] w (RetQR w (V 4294967296 xs / V 4294967296 ys) (V 4294967296 xs % V 4294967296 ys)) := by
  have hx0 := (V_bd (B := 4294967296) (by decide) hx).1
  rcases Int.lt_or_le (V 4294967296 xs) (V 4294967296 ys) with h | h
  · rw [Int.ediv_eq_zero_of_lt hx0 h, Int.emod_eq_of_lt hx0 h]
    exact ndiv_less a b n0 c m0 d xs ys w ha hb hx hy hn h
  · have ht : tl ys ≠ 0 := fun e => h0 ((tl_pos (by decide) hy).2 e)
    by_cases h1 : tl ys = 1
    · exact ndiv_one a b n0 c m0 d xs ys w ha hb hx hy hn h h1
    · exact ndiv_long a b n0 c m0 d (tl ys - 2) xs ys w ha hb hx hy hn hm h (by omega)
end Go.Proofs.Ytnbhcemgoifkgaa
