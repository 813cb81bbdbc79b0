/- Contract of package exact's Read. No conditions. -/
import Derived.Test.YtgdddpbdcdheeaaExRb
namespace Go.Proofs.Ytgdddpbdcdheeaa
open Go.RowKit Ieee

theorem headN_cases (bs : List Int) : headN bs = 0 ∨ headN bs = 6 := by
  unfold headN
  split
  · exact .inr rfl
  · split
    · exact .inr rfl
    · split
      · exact .inr rfl
      · exact .inl rfl
theorem read_hdr6 {bs : List Int} (h : headN bs = 6) : codeN bs = 6 := by
  have h1 := hdr_head bs
  rw [h, if_neg (by omega)] at h1
  unfold codeN
  rw [h1, if_neg (by omega)]
theorem read_hdr5 {bs : List Int} (h : headN bs = 0) (hl : bs.length < 3) : codeN bs = 5 := by
  have h1 := hdr_head bs
  rw [h, if_pos rfl, if_pos hl] at h1
  unfold codeN
  rw [h1, if_neg (by omega)]
theorem read_body {bs : List Int} (h : headN bs = 0) (hl : ¬ bs.length < 3) : codeN bs = bodyN bs (btN bs 2) (btN bs 2) 0 := by
  have h1 := hdr_head bs
  rw [h, if_pos rfl, if_neg hl] at h1
  unfold codeN
  rw [h1, if_pos rfl]
theorem read_says {bs : List Int} (h : headN bs = 0) (hl : ¬ bs.length < 3) : btN bs 0 ≤ 63 ∧ btN bs 1 + btN bs 2 ≤ 70 := by
  have h1 := hdr_head bs
  rw [h, if_pos rfl, if_neg hl] at h1
  obtain ⟨-, hf, hL, hM⟩ := hdr_ok h1
  obtain ⟨q1, q2, -⟩ := hdr_says hf hL hM
  exact ⟨q1, q2⟩
def RRead (bs : List Int) (w : World) (e : Ending) (w' : World) : Prop := Below w.heap.size w w' ∧
  ((codeN bs = 0 ∧ ∃ g, e = .returned (.tuple #[.pointer (some ⟨g, 0, none⟩), .int .i64 0]) ∧ SumAt w' g (bOf bs) (zOf bs) ∧ w.heap.size ≤ g) ∨
   (codeN bs ≠ 0 ∧ e = .returned (.tuple #[.pointer none, .int .i64 ((codeN bs : Nat) : Int)])))
theorem RRead.no {bs : List Int} {w w' : World} {k : Nat} (h : codeN bs = k + 1) (hb : Below w.heap.size w w') : RRead bs w (.returned (.tuple #[.pointer none, .int .i64 ((k : Int) + 1)])) w' :=
  ⟨hb, .inr ⟨by omega, by rw [h]; rfl⟩⟩

theorem andnot32 : ∀ f : Nat, f < 64 → bits .andNot .u8 (f : Int) 32 = ((f % 32 : Nat) : Int) := by decide +kernel
theorem and32 : ∀ f : Nat, f < 64 → bits .and .u8 (f : Int) 32 = ((f / 32 * 32 : Nat) : Int) := by decide +kernel
theorem magN_start {bs : List Int} {l m i t : Nat} (ht : l + m = t) (h : i < m) : (magN bs l m i).set (t - 1 - i) ((wdK bs i 0 : Nat) : Int) = magN bs l m i := by
  subst ht
  refine List.ext_getElem (by simp [magN]) fun j h1 h2 => ?_
  have hj : j < l + m := by simpa [magN] using h2
  rw [List.getElem_set]
  by_cases hji : l + m - 1 - i = j
  · rw [if_pos hji]
    simp only [magN, List.getElem_map, List.getElem_range]
    rw [if_neg (by omega)]; rfl
  · rw [if_neg hji]
theorem body_short {bs : List Int} {m i : Nat} (h : i < m) (hl : bs.length < 3 + 4 * i + 4) : bodyN bs m (m - i) i = 5 := by
  obtain ⟨g, hg⟩ : ∃ g, m - i = g + 1 := ⟨m - i - 1, by omega⟩
  rw [hg]; unfold bodyN; rw [if_pos hl]
theorem body_form {bs : List Int} {m i : Nat} (h : i < m) (hl : ¬ bs.length < 3 + 4 * i + 4) (hf : (i = 0 ∨ i + 1 = m) ∧ wdN bs i = 0) : bodyN bs m (m - i) i = 6 := by
  obtain ⟨g, hg⟩ : ∃ g, m - i = g + 1 := ⟨m - i - 1, by omega⟩
  rw [hg]; unfold bodyN; rw [if_neg hl, if_pos hf]
theorem body_next {bs : List Int} {m i : Nat} (h : i < m) (hl : ¬ bs.length < 3 + 4 * i + 4) (hf : ¬ ((i = 0 ∨ i + 1 = m) ∧ wdN bs i = 0)) : bodyN bs m (m - i) i = bodyN bs m (m - (i + 1)) (i + 1) := by
  obtain ⟨g, hg⟩ : ∃ g, m - i = g + 1 := ⟨m - i - 1, by omega⟩
  rw [hg]; conv => lhs; unfold bodyN
  rw [if_neg hl, if_neg hf, show m - (i + 1) = g from by omega]

set_option maxRecDepth 100000 in
set_option maxHeartbeats 4000000 in
theorem read_any (w : World) (a : Option Addr) (n c : Nat) (bs : List Int) (hr : RowK .u8 w a n c bs) (hb : Byt bs) :
    Calls Try.prog 23 #[.slice a n c] w (RRead bs w) := by
  have hlen : bs.length = n := hr.1
  have hn : n ≤ 9223372036854775807 := by have := hr.2.1; have := hr.2.2.1; unfold maxLen at this; omega
  have HH := Lib.hid (head_any w a n c bs hr hb)
  have HR := Lib.hid hr
  have HBY := Lib.hid hb
  have HLEN := Lib.hid hlen
  clear hr hb hlen
  go_enter Try.func23, Try.ntmps23
  go_wp2_with fail
  refine HH.out.mono ?_; rintro e w1 ⟨rfl, hb1⟩
  have HB1 := Lib.hid hb1
  have hrow := HR.out.below hb1 (Nat.le_refl _)
  clear hb1
  rcases headN_cases bs with h6 | h6
  case inr =>
    rw [h6]
    have HC := Lib.hid (read_hdr6 h6)
    clear h6 hrow
    go_wp2_with fail
    go_ret2
    exact RRead.no (k := 5) HC.out HB1.out
  rw [h6]
  by_cases h3 : n < 3
  · have hd3 : decide ((n : Int) < 3) = true := decide_eq_true (by omega)
    have HC := Lib.hid (read_hdr5 h6 (by rw [HLEN.out]; exact h3))
    clear h6 hrow h3
    go_wp2_with fail
    go_ret2
    exact RRead.no (k := 4) HC.out HB1.out
  · have hd3 : decide ((n : Int) < 3) = false := decide_eq_false (by omega)
    have hC := read_body h6 (by rw [HLEN.out]; exact h3)
    obtain ⟨hs1, hs2⟩ := read_says h6 (by rw [HLEN.out]; exact h3)
    have h0 := HBY.out.lt 0
    have h1 := HBY.out.lt 1
    have h2 := HBY.out.lt 2
    obtain ⟨F, hF⟩ : ∃ F, bs.getD 0 0 = F := ⟨_, rfl⟩
    obtain ⟨L, hL⟩ : ∃ L, bs.getD 1 0 = L := ⟨_, rfl⟩
    obtain ⟨M, hM⟩ : ∃ M, bs.getD 2 0 = M := ⟨_, rfl⟩
    obtain ⟨f, hf⟩ : ∃ f, btN bs 0 = f := ⟨_, rfl⟩
    obtain ⟨l, hl⟩ : ∃ l, btN bs 1 = l := ⟨_, rfl⟩
    obtain ⟨m, hm⟩ : ∃ m, btN bs 2 = m := ⟨_, rfl⟩
    rw [hF, hf] at h0
    rw [hL, hl] at h1
    rw [hM, hm] at h2
    rw [hf] at hs1
    rw [hl, hm] at hs2
    rw [hm] at hC
    obtain ⟨ba, oa, rfl, hba, hc⟩ := hrow.at (i := 0) (by omega)
    have c0 := hc 0 (by omega)
    have c1 := hc 1 (by omega)
    have c2 := hc 2 (by omega)
    rw [Nat.add_zero, hF] at c0
    rw [hL] at c1
    rw [hM] at c2
    rw [h1.2] at c1
    rw [h2.2] at c2
    have hwL : IntKind.i64.wrap (l : Int) = (l : Int) := IntWalk.i64_in _ (by omega)
    have hwM : IntKind.i64.wrap (m : Int) = (m : Int) := IntWalk.i64_in _ (by omega)
    have hn1 : (1 : Int) < (n : Int) := by omega
    have hn2 : (2 : Int) < (n : Int) := by omega
    obtain ⟨t, ht⟩ : ∃ t, l + m = t := ⟨_, rfl⟩
    have hltm : (l : Int) + (m : Int) = (t : Int) := by omega
    have w1' : IntKind.i64.wrap (t : Int) = (t : Int) := IntWalk.i64_in _ (by omega)
    have HCELL := Lib.hid hc
    have HC := Lib.hid hC
    have HF := Lib.hid hF
    have HF0 := Lib.hid hf
    have HL0 := Lib.hid hl
    have HM0 := Lib.hid hm
    have H0 := Lib.hid h0
    have HS1 := Lib.hid hs1
    have HN3 := Lib.hid h3
    have HROW := Lib.hid hrow
    clear hc hC hF hf hl hm h0 h1 h2 hs1 h3 h6 hrow hM hL
    go_wp2_with fail
    refine wp_regionN (fun w' => w'.cell? ⟨ba, oa + 1, none⟩ = some (.int .u8 (l : Int)) ∧ w'.cell? ⟨ba, oa + 2, none⟩ = some (.int .u8 (m : Int))) [] (by kernel_rfl) (by exact ⟨c1, c2⟩) (fun hHeld => ?_)
    refine wpAnyN_tk (i := 0) (oi := ⟨some 19, _, _, _, _, _⟩) (v := ?_) rfl (by kernel_rfl) (fun _ _ _ h => h) (by rfl) ?_ (by assumption) ?_
    rotate_left 1
    · (intro w hSw; (try dsimp only at hSw); go_simp; try with_reducible rfl)
    try simp only [Act.put, List.setIfInBounds_toArray, List.set_cons_zero, List.set_cons_succ]
    refine wpAnyN_tk (i := 1) (oi := ⟨some 20, _, _, _, _, _⟩) (v := ?_) rfl (by kernel_rfl) (fun _ _ _ h => h) (by rfl) ?_ (by assumption) ?_
    rotate_left 1
    · (intro w hSw; (try dsimp only at hSw); go_simp; try with_reducible rfl)
    try simp only [Act.put, List.setIfInBounds_toArray, List.set_cons_zero, List.set_cons_succ]
    refine wpAnyN_tk (i := 2) (oi := ⟨some 21, _, _, _, _, _⟩) (v := ?_) rfl (by kernel_rfl) (fun _ _ _ h => h) (by rfl) ?_ (by assumption) ?_
    rotate_left 1
    · (intro w hSw; (try dsimp only at hSw); go_simp; try with_reducible rfl)
    try simp only [Act.put, List.setIfInBounds_toArray, List.set_cons_zero, List.set_cons_succ]
    refine wpAnyN_tk (i := 3) (oi := ⟨some 22, _, _, _, _, _⟩) (v := ?_) rfl (by kernel_rfl) (fun _ _ _ h => h) (by rfl) ?_ (by assumption) ?_
    rotate_left 1
    · (intro w hSw; (try dsimp only at hSw); go_simp; try with_reducible rfl)
    try simp only [Act.put, List.setIfInBounds_toArray, List.set_cons_zero, List.set_cons_succ]
    refine wpAnyN_tk (i := 4) (oi := ⟨some 23, _, _, _, _, _⟩) (v := ?_) rfl (by kernel_rfl) (fun _ _ _ h => h) (by rfl) ?_ (by assumption) ?_
    rotate_left 1
    · (intro w hSw; (try dsimp only at hSw); go_simp; try with_reducible rfl)
    try simp only [Act.put, List.setIfInBounds_toArray, List.set_cons_zero, List.set_cons_succ]
    refine wpAnyN_tk (i := 5) (oi := ⟨some 24, _, _, _, _, _⟩) (v := ?_) rfl (by kernel_rfl) (fun _ _ _ h => h) (by rfl) ?_ (by assumption) ?_
    rotate_left 1
    · (intro w hSw; (try dsimp only at hSw); go_simp; try with_reducible rfl)
    try simp only [Act.put, List.setIfInBounds_toArray, List.set_cons_zero, List.set_cons_succ]
    refine wpAnyN_tk (i := 6) (oi := ⟨some 25, _, _, _, _, _⟩) (v := ?_) rfl (by kernel_rfl) (fun _ _ _ h => h) (by rfl) ?_ (by assumption) ?_
    rotate_left 1
    · (intro w hSw; (try dsimp only at hSw); go_simp; try with_reducible rfl)
    try simp only [Act.put, List.setIfInBounds_toArray, List.set_cons_zero, List.set_cons_succ]
    refine wpAnyN_tk (i := 7) (oi := ⟨some 26, _, _, _, _, _⟩) (v := ?_) rfl (by kernel_rfl) (fun _ _ _ h => h) (by rfl) ?_ (by assumption) ?_
    rotate_left 1
    · (intro w hSw; (try dsimp only at hSw); go_simp; try with_reducible rfl)
    try simp only [Act.put, List.setIfInBounds_toArray, List.set_cons_zero, List.set_cons_succ]
    refine wpAnyN_tk (i := 8) (oi := ⟨some 5, _, _, _, _, _⟩) (v := ?_) rfl (by kernel_rfl) (fun _ _ _ h => h) (by rfl) ?_ (by assumption) ?_
    rotate_left 1
    · (intro w hSw; (try dsimp only at hSw); go_simp; try with_reducible rfl)
    try simp only [Act.put, List.setIfInBounds_toArray, List.set_cons_zero, List.set_cons_succ]
    refine wpAnyN_tk (i := 9) (oi := ⟨some 6, _, _, _, _, _⟩) (v := ?_) rfl (by kernel_rfl) (fun _ _ _ h => h) (by rfl) ?_ (by assumption) ?_
    rotate_left 1
    · (intro w hSw; (try dsimp only at hSw); go_simp; try with_reducible rfl)
    try simp only [Act.put, List.setIfInBounds_toArray, List.set_cons_zero, List.set_cons_succ]
    refine wpAnyN_end (by kernel_rfl) ?_
    clear hwL hwM hn1 hn2 c1 c2
    go_wp2_with (at_make; refine make_arr .u32 53 87 4 info_u32 (by decide) Try.underlying53 rfl _ _ rfl .i64 .i64 _ _ t _ rfl rfl (by omega) (by omega) (by omega) ?_)
    intro w2 harr hb2 hsz2
    have HB2 := Lib.hid (HB1.out.drew.trans (hb2.mono HB1.out.size))
    obtain ⟨g, hg⟩ : ∃ g, w1.heap.size = g := ⟨_, rfl⟩
    rw [hg] at harr ⊢
    have HG : Hid (w.heap.size ≤ g ∧ w1.heap.size = g) := Lib.hid ⟨by rw [← hg]; exact HB1.out.size, hg⟩
    have HA2 := Lib.hid harr
    have HT := Lib.hid ht
    clear harr hb2 hsz2 hg hba c0
    go_wp2_with fail
    go_loopg [32] m (fun gg i wr => ∃ k : Nat, i = .int .i64 (k : Int) ∧ k + gg = m ∧ Arr .u32 87 wr g (magN bs l m k) ∧ bodyN bs m (m - k) k = codeN bs ∧ Below w.heap.size w wr)
    case atStart => exact ⟨0, rfl, by omega, by rw [magN_zero, HT.out]; exact HA2.out, by rw [Nat.sub_zero]; exact HC.out.symm, HB2.out⟩
    case round =>
      obtain ⟨i, rfl, hk, harr, hbd, hb⟩ := hrel
      have HK := Lib.hid hk
      have HBD := Lib.hid hbd
      have HBW := Lib.hid hb
      have HAR := Lib.hid harr
      clear harr hbd hb HA2 HB2
      obtain ⟨wo, rfl⟩ : ∃ wo : World, wo = wr := ⟨_, rfl⟩
      by_cases hlt : i < m
      · have hkd : decide (i < m) = true := decide_eq_true hlt
        have HLT := Lib.hid hlt
        have him : i ≤ 70 := by omega
        clear hk hlt
        go_wp2_with fail
        go_loopg [35] 4 (fun gg j wx => ∃ k2 : Nat, j = .int .i64 (k2 : Int) ∧ k2 + gg = 4 ∧ Arr .u32 87 wx g ((magN bs l m i).set (t - 1 - i) ((wdK bs i k2 : Nat) : Int)) ∧ (k2 = 0 ∨ 3 + 4 * i + k2 ≤ n) ∧ Below w.heap.size w wx)
        case atStart => exact ⟨0, rfl, by omega, by rw [magN_start HT.out HLT.out]; exact HAR.out, .inl rfl, HBW.out⟩
        case round =>
          obtain ⟨k2, rfl, hk2, harr2, hle, hb3⟩ := hrel
          have HA3 := Lib.hid harr2
          have HB3 := Lib.hid hb3
          have HLE := Lib.hid hle
          have hdig := magN_len bs l m i
          clear hle
          by_cases hlt2 : k2 < 4
          · have hkd2 : decide ((k2 : Int) < 4) = true := decide_eq_true (by omega)
            have HK2 := Lib.hid hk2
            have hk3 : k2 ≤ 3 := by omega
            have HLT2 := Lib.hid hlt2
            obtain ⟨p, hp⟩ : ∃ p, 3 + 4 * i + k2 = p := ⟨_, rfl⟩
            have hpi : 3 + 4 * (i : Int) + (k2 : Int) = (p : Int) := by omega
            have HP := Lib.hid hp
            clear hk2 hlt2
            go_upto_region 15 with fail
            by_cases hpn : p < n
            · have hpd : decide (n ≤ p) = false := decide_eq_false (by omega)
              have HPN := Lib.hid hpn
              obtain ⟨q, hq⟩ : ∃ q, t - 1 - i = q := ⟨_, rfl⟩
              have hlt := HLT.out
              have hqt : q < t := by have := HT.out; omega
              have hqi : (t : Int) - 1 - (i : Int) = (q : Int) := by have := HT.out; omega
              have HQ := Lib.hid hq
              rw [hq] at harr2
              have cg := harr2.cell (i := q) (by rw [List.length_set, hdig, HT.out]; exact hqt)
              rw [getD_set_self (by rw [hdig, HT.out]; exact hqt)] at cg
              obtain ⟨cur, hcur⟩ : ∃ cur, wdK bs i k2 = cur := ⟨_, rfl⟩
              have hcl := wdK_lt HBY.out i k2
              have hcl2 : (256 : Nat) ^ k2 ≤ 256 ^ 3 := Nat.pow_le_pow_right (by decide) hk3
              have hcl3 : cur < 16777216 := by rw [← hcur]; exact Nat.lt_of_lt_of_le hcl hcl2
              rw [hcur] at cg
              have HCUR := Lib.hid hcur
              obtain ⟨hB0, hB1⟩ := HBY.out.lt p
              obtain ⟨b', o', he, hba, hcc⟩ := (HR.out.below HB3.out (Nat.le_refl _)).at hpn
              cases he
              have cb := hcc p hpn
              rw [hB1] at cb
              obtain ⟨B, hBe⟩ : ∃ B, btN bs p = B := ⟨_, rfl⟩
              rw [hBe] at cb hB0
              have HBE := Lib.hid hBe
              have hgf : ∀ o, wr.frozen? ⟨g, o, none⟩ = false := fun o => HA3.out.frozen o
              have hb3s : g < wr.heap.size := HA3.out.lt
              have w2' : IntKind.i64.wrap ((t : Int) - 1) = (t : Int) - 1 := IntWalk.i64_in _ (by omega)
              have w3' : IntKind.i64.wrap (q : Int) = (q : Int) := IntWalk.i64_in _ (by omega)
              have hqn : (q : Int) < (t : Int) := by omega
              have hpn2 : (p : Int) < (n : Int) := by omega
              have w4' : IntKind.u32.wrap (B : Int) = (B : Int) := by simp only [IntKind.wrap, IntKind.bits, IntKind.signed]; simp; omega
              clear hcc hBe hb3 harr2 hcl hcl2 hB1 hq hp hcur hlt hdig
              go_wp2_with fail
              refine wp_regionN (fun w' => w'.cell? ⟨g, q, none⟩ = some (.int .u32 (cur : Int)) ∧ w'.cell? ⟨ba, oa + p, none⟩ = some (.int .u8 (B : Int))) [24] (by kernel_rfl) (by exact ⟨cg, cb⟩) (fun hHeld => ?_)
              refine wpAnyN_tk (i := 0) (oi := ⟨some 47, _, _, _, _, _⟩) (v := ?_) rfl (by kernel_rfl) (fun _ _ _ h => h) (by rfl) ?_ (by assumption) ?_
              rotate_left 1
              · (intro w hSw; (try dsimp only at hSw); go_simp; try with_reducible rfl)
              try simp only [Act.put, List.setIfInBounds_toArray, List.set_cons_zero, List.set_cons_succ]
              refine wpAnyN_tk (i := 1) (oi := ⟨some 48, _, _, _, _, _⟩) (v := ?_) rfl (by kernel_rfl) (fun _ _ _ h => h) (by rfl) ?_ (by assumption) ?_
              rotate_left 1
              · (intro w hSw; (try dsimp only at hSw); go_simp; try with_reducible rfl)
              try simp only [Act.put, List.setIfInBounds_toArray, List.set_cons_zero, List.set_cons_succ]
              refine wpAnyN_tk (i := 2) (oi := ⟨some 49, _, _, _, _, _⟩) (v := ?_) rfl (by kernel_rfl) (fun _ _ _ h => h) (by rfl) ?_ (by assumption) ?_
              rotate_left 1
              · (intro w hSw; (try dsimp only at hSw); go_simp; try with_reducible rfl)
              try simp only [Act.put, List.setIfInBounds_toArray, List.set_cons_zero, List.set_cons_succ]
              refine wpAnyN_tk (i := 3) (oi := ⟨some 50, _, _, _, _, _⟩) (v := ?_) rfl (by kernel_rfl) (fun _ _ _ h => h) (by rfl) ?_ (by assumption) ?_
              rotate_left 1
              · (intro w hSw; (try dsimp only at hSw); go_simp; try with_reducible rfl)
              try simp only [Act.put, List.setIfInBounds_toArray, List.set_cons_zero, List.set_cons_succ]
              refine wpAnyN_tk (i := 4) (oi := ⟨some 51, _, _, _, _, _⟩) (v := ?_) rfl (by kernel_rfl) (fun _ _ _ h => h) (by rfl) ?_ (by assumption) ?_
              rotate_left 1
              · (intro w hSw; (try dsimp only at hSw); go_simp; try with_reducible rfl)
              try simp only [Act.put, List.setIfInBounds_toArray, List.set_cons_zero, List.set_cons_succ]
              refine wpAnyN_tk (i := 5) (oi := ⟨some 52, _, _, _, _, _⟩) (v := ?_) rfl (by kernel_rfl) (fun _ _ _ h => h) (by rfl) ?_ (by assumption) ?_
              rotate_left 1
              · (intro w hSw; (try dsimp only at hSw); go_simp; try with_reducible rfl)
              try simp only [Act.put, List.setIfInBounds_toArray, List.set_cons_zero, List.set_cons_succ]
              refine wpAnyN_tk (i := 6) (oi := ⟨some 53, _, _, _, _, _⟩) (v := ?_) rfl (by kernel_rfl) (fun _ _ _ h => h) (by rfl) ?_ (by assumption) ?_
              rotate_left 1
              · (intro w hSw; (try dsimp only at hSw); go_simp; try with_reducible rfl)
              try simp only [Act.put, List.setIfInBounds_toArray, List.set_cons_zero, List.set_cons_succ]
              refine wpAnyN_tk (i := 7) (oi := ⟨some 54, _, _, _, _, _⟩) (v := ?_) rfl (by kernel_rfl) (fun _ _ _ h => h) (by rfl) ?_ (by assumption) ?_
              rotate_left 1
              · (intro w hSw; (try dsimp only at hSw); go_simp; try with_reducible rfl)
              try simp only [Act.put, List.setIfInBounds_toArray, List.set_cons_zero, List.set_cons_succ]
              refine wpAnyN_tk (i := 8) (oi := ⟨some 55, _, _, _, _, _⟩) (v := ?_) rfl (by kernel_rfl) (fun _ _ _ h => h) (by rfl) ?_ (by assumption) ?_
              rotate_left 1
              · (intro w hSw; (try dsimp only at hSw); go_simp; try with_reducible rfl)
              try simp only [Act.put, List.setIfInBounds_toArray, List.set_cons_zero, List.set_cons_succ]
              refine wpAnyN_tk (i := 9) (oi := ⟨some 56, _, _, _, _, _⟩) (v := ?_) rfl (by kernel_rfl) (fun _ _ _ h => h) (by rfl) ?_ (by assumption) ?_
              rotate_left 1
              · (intro w hSw; (try dsimp only at hSw); go_simp; try with_reducible rfl)
              try simp only [Act.put, List.setIfInBounds_toArray, List.set_cons_zero, List.set_cons_succ]
              refine wpAnyN_tk (i := 10) (oi := ⟨some 57, _, _, _, _, _⟩) (v := ?_) rfl (by kernel_rfl) (fun _ _ _ h => h) (by rfl) ?_ (by assumption) ?_
              rotate_left 1
              · (intro w hSw; (try dsimp only at hSw); go_simp; try with_reducible rfl)
              try simp only [Act.put, List.setIfInBounds_toArray, List.set_cons_zero, List.set_cons_succ]
              refine wpAnyN_tk (i := 11) (oi := ⟨some 58, _, _, _, _, _⟩) (v := ?_) rfl (by kernel_rfl) (fun _ _ _ h => h) (by rfl) ?_ (by assumption) ?_
              rotate_left 1
              · (intro w hSw; (try dsimp only at hSw); go_simp; try with_reducible rfl)
              try simp only [Act.put, List.setIfInBounds_toArray, List.set_cons_zero, List.set_cons_succ]
              refine wpAnyN_tk (i := 12) (oi := ⟨some 59, _, _, _, _, _⟩) (v := ?_) rfl (by kernel_rfl) (fun _ _ _ h => h) (by rfl) ?_ (by assumption) ?_
              rotate_left 1
              · (intro w hSw; (try dsimp only at hSw); go_simp; try with_reducible rfl)
              try simp only [Act.put, List.setIfInBounds_toArray, List.set_cons_zero, List.set_cons_succ]
              refine wpAnyN_tk (i := 13) (oi := ⟨some 60, _, _, _, _, _⟩) (v := ?_) rfl (by kernel_rfl) (fun _ _ _ h => h) (by rfl) ?_ (by assumption) ?_
              rotate_left 1
              · (intro w hSw; (try dsimp only at hSw); go_simp; try with_reducible rfl)
              try simp only [Act.put, List.setIfInBounds_toArray, List.set_cons_zero, List.set_cons_succ]
              refine wpAnyN_tk (i := 14) (oi := ⟨some 61, _, _, _, _, _⟩) (v := ?_) rfl (by kernel_rfl) (fun _ _ _ h => h) (by rfl) ?_ (by assumption) ?_
              rotate_left 1
              · (intro w hSw; (try dsimp only at hSw); go_simp; try with_reducible rfl)
              try simp only [Act.put, List.setIfInBounds_toArray, List.set_cons_zero, List.set_cons_succ]
              refine wpAnyN_tk (i := 15) (oi := ⟨some 62, _, _, _, _, _⟩) (v := ?_) rfl (by kernel_rfl) (fun _ _ _ h => h) (by rfl) ?_ (by assumption) ?_
              rotate_left 1
              · (intro w hSw; (try dsimp only at hSw); go_simp; try with_reducible rfl)
              try simp only [Act.put, List.setIfInBounds_toArray, List.set_cons_zero, List.set_cons_succ]
              refine wpAnyN_tk (i := 16) (oi := ⟨some 63, _, _, _, _, _⟩) (v := ?_) rfl (by kernel_rfl) (fun _ _ _ h => h) (by rfl) ?_ (by assumption) ?_
              rotate_left 1
              · (intro w hSw; (try dsimp only at hSw); go_simp; try with_reducible rfl)
              try simp only [Act.put, List.setIfInBounds_toArray, List.set_cons_zero, List.set_cons_succ]
              refine wpAnyN_tk (i := 17) (oi := ⟨some 64, _, _, _, _, _⟩) (v := ?_) rfl (by kernel_rfl) (fun _ _ _ h => h) (by rfl) ?_ (by assumption) ?_
              rotate_left 1
              · (intro w hSw; (try dsimp only at hSw); go_simp; try with_reducible rfl)
              try simp only [Act.put, List.setIfInBounds_toArray, List.set_cons_zero, List.set_cons_succ]
              refine wpAnyN_tk (i := 18) (oi := ⟨some 65, _, _, _, _, _⟩) (v := ?_) rfl (by kernel_rfl) (fun _ _ _ h => h) (by rfl) ?_ (by assumption) ?_
              rotate_left 1
              · (intro w hSw; (try dsimp only at hSw); go_simp; try with_reducible rfl)
              try simp only [Act.put, List.setIfInBounds_toArray, List.set_cons_zero, List.set_cons_succ]
              refine wpAnyN_tk (i := 19) (oi := ⟨some 66, _, _, _, _, _⟩) (v := ?_) rfl (by kernel_rfl) (fun _ _ _ h => h) (by rfl) ?_ (by assumption) ?_
              rotate_left 1
              · (intro w hSw; (try dsimp only at hSw); go_simp; try with_reducible rfl)
              try simp only [Act.put, List.setIfInBounds_toArray, List.set_cons_zero, List.set_cons_succ]
              refine wpAnyN_tk (i := 20) (oi := ⟨some 67, _, _, _, _, _⟩) (v := ?_) rfl (by kernel_rfl) (fun _ _ _ h => h) (by rfl) ?_ (by assumption) ?_
              rotate_left 1
              · (intro w hSw; (try dsimp only at hSw); go_simp; try with_reducible rfl)
              try simp only [Act.put, List.setIfInBounds_toArray, List.set_cons_zero, List.set_cons_succ]
              refine wpAnyN_tk (i := 21) (oi := ⟨some 68, _, _, _, _, _⟩) (v := ?_) rfl (by kernel_rfl) (fun _ _ _ h => h) (by rfl) ?_ (by assumption) ?_
              rotate_left 1
              · (intro w hSw; (try dsimp only at hSw); go_simp; try with_reducible rfl)
              try simp only [Act.put, List.setIfInBounds_toArray, List.set_cons_zero, List.set_cons_succ]
              refine wpAnyN_tk (i := 22) (oi := ⟨some 69, _, _, _, _, _⟩) (v := ?_) rfl (by kernel_rfl) (fun _ _ _ h => h) (by rfl) ?_ (by assumption) ?_
              rotate_left 1
              · (intro w hSw; (try dsimp only at hSw); go_simp; try with_reducible rfl)
              try simp only [Act.put, List.setIfInBounds_toArray, List.set_cons_zero, List.set_cons_succ]
              refine wpAnyN_tk (i := 23) (oi := ⟨some 70, _, _, _, _, _⟩) (v := ?_) rfl (by kernel_rfl) (fun _ _ _ h => h) (by rfl) ?_ (by assumption) ?_
              rotate_left 1
              · (intro w hSw; (try dsimp only at hSw); go_simp; try with_reducible rfl)
              try simp only [Act.put, List.setIfInBounds_toArray, List.set_cons_zero, List.set_cons_succ]
              refine wpAnyN_late (i := 24) (o := ⟨none, _, _, _, _, _⟩) (by kernel_rfl) (by kernel_rfl) rfl (fun K hK => ?_)
              go_simp
              refine hK.out _ _ ?_
              clear hK K
              try simp only [Act.put, List.setIfInBounds_toArray, List.set_cons_zero, List.set_cons_succ]
              refine wpAnyN_end (by kernel_rfl) ?_
              have hor : bits .or .u32 (IntKind.u32.wrap ((cur : Int) * 256)) (B : Int) = ((wdK bs i (k2 + 1) : Nat) : Int) := by
                rw [show IntKind.u32.wrap ((cur : Int) * 256) = (cur : Int) * 256 from IntWalk.u32_in _ (by omega), bits_or_u32 (by omega) (by omega) (by omega) (by omega)]
                have ec : ((cur : Int) * 256).toNat = cur * 2 ^ 8 := by omega
                rw [ec, Int.toNat_natCast, or_nat (by omega)]
                show _ = ((wdK bs i k2 * 256 + btN bs (3 + 4 * i + k2) : Nat) : Int)
                rw [HP.out, HBE.out, HCUR.out]
              rw [hor]
              clear hor hHeld
              have hkw : IntKind.i64.wrap ((k2 : Int) + 1) = (k2 : Int) + 1 := IntWalk.i64_in _ (by omega)
              go_wp2_with fail
              go_roundg (gk - 1)
              case measure => have := HLT2.out; have := HK2.out; omega
              case rel => exact ⟨k2 + 1, rfl, by have := HLT2.out; have := HK2.out; omega, by have h := HA3.out.set q ((wdK bs i (k2 + 1) : Nat) : Int); rw [HQ.out] at h ⊢; rw [List.set_set] at h; exact h, .inr (by have := HP.out; have := HPN.out; omega), (HB3.out.setCell HG.out.1 _).drew⟩
            · have hpd : decide (n ≤ p) = true := decide_eq_true (by omega)
              have HC5 : Hid (codeN bs = 4 + 1) := Lib.hid (by rw [← HBD.out]; exact body_short HLT.out (by rw [HLEN.out]; have := HP.out; omega))
              clear hpn harr2
              go_wp2_with fail
              go_ret2
              exact RRead.no HC5.out HB3.out
          · have hkd2 : decide ((k2 : Int) < 4) = false := decide_eq_false (by omega)
            have hk4 : k2 = 4 := by omega
            subst hk4
            have hlt := HLT.out
            have htm := HT.out
            have hA4 : Arr .u32 87 wr g (magN bs l m (i + 1)) := by rw [← magN_set hlt, htm]; exact HA3.out
            have hm4 := magN_len bs l m (i + 1)
            obtain ⟨q, hq⟩ : ∃ q, t - 1 = q := ⟨_, rfl⟩
            have ca := hA4.cell (i := q) (by rw [hm4]; omega)
            rw [magN_get (by omega), if_pos (by omega), show l + m - 1 - q = 0 from by omega] at ca
            have cm : i + 1 = m → wr.cell? ⟨g, l, none⟩ = some (.int .u32 ((wdN bs i : Nat) : Int)) := fun h => by
              have ch := hA4.cell (i := l) (by rw [hm4]; omega)
              rw [magN_get (by omega), if_pos (by omega), show l + m - 1 - l = i from by omega] at ch
              exact ch
            have hqi : (t : Int) - 1 = (q : Int) := by omega
            have w2' : IntKind.i64.wrap (q : Int) = (q : Int) := IntWalk.i64_in _ (by omega)
            have hqn : (q : Int) < (t : Int) := by omega
            have hln : (l : Int) < (t : Int) := by omega
            obtain ⟨r, hr⟩ : ∃ r, m - 1 = r := ⟨_, rfl⟩
            have hri : (m : Int) - 1 = (r : Int) := by omega
            have w3' : IntKind.i64.wrap (r : Int) = (r : Int) := IntWalk.i64_in _ (by omega)
            have HA4 := Lib.hid hA4
            have HR2 := Lib.hid hr
            have hle2 : 3 + 4 * i + 4 ≤ n := by
              rcases HLE.out with h | h
              · omega
              · exact h
            have HLE2 := Lib.hid hle2
            clear hlt2 hk2 harr2 hkd2 hA4 hm4 hlt htm hle2 HA3 HLE
            go_upto_region 19 with fail
            go_cut [96] (fun v wx => v = .bool (decide ((i = 0 ∨ i + 1 = m) ∧ wdN bs i = 0)) ∧ wr = wx)
            case first =>
              have HCM := Lib.hid cm
              clear cm
              by_cases hi0 : i = 0
              · have HI0 := Lib.hid hi0
                have hid0 : ((i : Int) == 0) = true := by simp; omega
                by_cases hz : wdN bs 0 = 0
                · have hzd : (((wdN bs 0 : Nat) : Int) == 0) = true := by simp; omega
                  have HZ := Lib.hid hz
                  clear hi0 hz
                  go_wp2_with fail
                  go_meet
                  exact ⟨by rw [HI0.out, HZ.out]; rfl, rfl⟩
                · have hzd : (((wdN bs 0 : Nat) : Int) == 0) = false := by simp; omega
                  have HZ := Lib.hid hz
                  clear hz
                  by_cases hir : i = r
                  · have hird : ((i : Int) == (r : Int)) = true := by simp; omega
                    have cl := HCM.out (by have := HR2.out; have := HLT.out; omega)
                    rw [hi0] at cl
                    clear hi0 hir
                    go_wp2_with fail
                    go_meet
                    exact ⟨by rw [HI0.out, decide_eq_false (fun h => HZ.out h.2)], rfl⟩
                  · have hird : ((i : Int) == (r : Int)) = false := by simp; omega
                    clear hi0 hir
                    go_wp2_with fail
                    go_meet
                    exact ⟨by rw [HI0.out, decide_eq_false (fun h => HZ.out h.2)], rfl⟩
              · have HI0 := Lib.hid hi0
                have hid0 : ((i : Int) == 0) = false := by simp; omega
                by_cases hir : i = r
                · have hird : ((i : Int) == (r : Int)) = true := by simp; omega
                  have cl := HCM.out (by have := HR2.out; have := HLT.out; omega)
                  have HIR : Hid (i + 1 = m) := Lib.hid (by have := HR2.out; have := HLT.out; omega)
                  clear hi0 hir
                  obtain ⟨zz, hzz⟩ : ∃ zz, (((wdN bs i : Nat) : Int) == 0) = zz := ⟨_, rfl⟩
                  have HZZ : Hid (decide (wdN bs i = 0) = zz) := Lib.hid (by rw [← hzz, Bool.eq_iff_iff]; simp only [decide_eq_true_eq, beq_iff_eq]; omega)
                  go_wp2_with fail
                  go_meet
                  exact ⟨by rw [← HZZ.out]; congr 1; rw [decide_eq_decide]; exact ⟨fun h => ⟨.inr HIR.out, h⟩, fun h => h.2⟩, rfl⟩
                · have hird : ((i : Int) == (r : Int)) = false := by simp; omega
                  have HIR : Hid (i + 1 ≠ m) := Lib.hid (by have := HR2.out; have := HLT.out; omega)
                  clear hi0 hir
                  go_wp2_with fail
                  go_meet
                  exact ⟨by rw [decide_eq_false (fun h => by rcases h.1 with h | h; exact HI0.out h; exact HIR.out h)], rfl⟩
            case rest =>
              obtain ⟨rfl, rfl⟩ := hcut
              clear cm ca
              rcases hf : (decide ((i = 0 ∨ i + 1 = m) ∧ wdN bs i = 0)) with _ | _
              case true =>
                have HC6 : Hid (codeN bs = 5 + 1) := Lib.hid (by rw [← HBD.out]; exact body_form HLT.out (by rw [HLEN.out]; have := HLE2.out; omega) (of_decide_eq_true hf))
                clear hf
                go_wp2_with fail
                go_ret2
                exact RRead.no HC6.out HB3.out
              case false =>
                have HBN : Hid (bodyN bs m (m - (i + 1)) (i + 1) = codeN bs) := Lib.hid (by rw [← HBD.out]; exact (body_next HLT.out (by rw [HLEN.out]; have := HLE2.out; omega) (of_decide_eq_false hf)).symm)
                clear hf
                have him2 : IntKind.i64.wrap ((i : Int) + 1) = (i : Int) + 1 := IntWalk.i64_in _ (by omega)
                go_wp2_with fail
                go_roundg (m - i - 1)
                case measure => have := HLT.out; have := HK.out; omega
                case rel => exact ⟨i + 1, rfl, by have := HLT.out; omega, HA4.out, HBN.out, HB3.out⟩
      · have hkd : decide (i < m) = false := decide_eq_false hlt
        obtain rfl : i = m := by omega
        have hbd := HBD.out
        rw [Nat.sub_self] at hbd
        unfold bodyN at hbd
        by_cases h7 : 3 + 4 * i < n
        · have h7d : decide (3 + 4 * (i : Int) < (n : Int)) = true := decide_eq_true (by omega)
          rw [if_pos (by rw [HLEN.out]; exact h7)] at hbd
          have HC7 : Hid (codeN bs = 6 + 1) := Lib.hid hbd.symm
          clear hbd h7 hlt hk
          go_wp2_with fail
          go_ret2
          exact RRead.no HC7.out HBW.out
        · have h7d : decide (3 + 4 * (i : Int) < (n : Int)) = false := decide_eq_false (by omega)
          rw [if_neg (by rw [HLEN.out]; exact h7)] at hbd
          obtain ⟨k1, k2, k3, k4, k5, k6, k7⟩ := read_ok HBY.out hbd.symm
          have HC0 : Hid (codeN bs = 0) := Lib.hid hbd.symm
          rw [HL0.out, HM0.out] at k5 k6
          rw [HF0.out] at k7
          have hnat : NatC wo (some ⟨g, 0, none⟩) t t (((zOf bs).natAbs : Nat) : Int) := by
            have hfull := HAR.out.full (by rw [magN_len]; omega)
            rw [magN_len, HT.out] at hfull
            exact ⟨_, hfull, magN_dig HBY.out l i i, k5, k6⟩
          have HNAT := Lib.hid hnat
          have HSG := Lib.hid k7
          have hfb : f < 64 := by have := HS1.out; omega
          have hn3 := HN3.out
          have hn0' : 0 < n := by omega
          have e1 := andnot32 f hfb
          have e2 := and32 f hfb
          have HBO : Hid (f % 32 = bOf bs) := Lib.hid (by unfold bOf; rw [HF0.out])
          have c0 : wo.cell? ⟨ba, oa, none⟩ = some (.int .u8 (f : Int)) := by
            obtain ⟨b', o', he, hba, hcc⟩ := (HR.out.below HBW.out (Nat.le_refl _)).at (i := 0) (by omega)
            cases he
            have := hcc 0 (by omega)
            rw [Nat.add_zero, HF.out, H0.out.2] at this
            exact this
          have hn0 : (0 : Int) < (n : Int) := by omega
          clear hbd h7 hlt hk k1 k2 k3 k4 k5 k6 k7 hnat hn3
          go_wp2_with fail
          refine wp_regionN (fun w' => w'.cell? ⟨ba, oa, none⟩ = some (.int .u8 (f : Int))) [11, 12, 13] (by kernel_rfl) (by exact c0) (fun hHeld => ?_)
          refine wpAnyN_tk (i := 0) (oi := ⟨some 104, _, _, _, _, _⟩) (v := ?_) rfl (by kernel_rfl) (fun _ _ _ h => h) (by rfl) ?_ (by assumption) ?_
          rotate_left 1
          · (intro w hSw; (try dsimp only at hSw); go_simp; try with_reducible rfl)
          try simp only [Act.put, List.setIfInBounds_toArray, List.set_cons_zero, List.set_cons_succ]
          refine wpAnyN_tk (i := 1) (oi := ⟨some 105, _, _, _, _, _⟩) (v := ?_) rfl (by kernel_rfl) (fun _ _ _ h => h) (by rfl) ?_ (by assumption) ?_
          rotate_left 1
          · (intro w hSw; (try dsimp only at hSw); go_simp; try with_reducible rfl)
          try simp only [Act.put, List.setIfInBounds_toArray, List.set_cons_zero, List.set_cons_succ]
          refine wpAnyN_tk (i := 2) (oi := ⟨some 106, _, _, _, _, _⟩) (v := ?_) rfl (by kernel_rfl) (fun _ _ _ h => h) (by rfl) ?_ (by assumption) ?_
          rotate_left 1
          · (intro w hSw; (try dsimp only at hSw); go_simp; try with_reducible rfl)
          try simp only [Act.put, List.setIfInBounds_toArray, List.set_cons_zero, List.set_cons_succ]
          refine wpAnyN_tk (i := 3) (oi := ⟨some 107, _, _, _, _, _⟩) (v := ?_) rfl (by kernel_rfl) (fun _ _ _ h => h) (by rfl) ?_ (by assumption) ?_
          rotate_left 1
          · (intro w hSw; (try dsimp only at hSw); go_simp; try with_reducible rfl)
          try simp only [Act.put, List.setIfInBounds_toArray, List.set_cons_zero, List.set_cons_succ]
          refine wpAnyN_tk (i := 4) (oi := ⟨some 108, _, _, _, _, _⟩) (v := ?_) rfl (by kernel_rfl) (fun _ _ _ h => h) (by rfl) ?_ (by assumption) ?_
          rotate_left 1
          · (intro w hSw; (try dsimp only at hSw); go_simp; try with_reducible rfl)
          try simp only [Act.put, List.setIfInBounds_toArray, List.set_cons_zero, List.set_cons_succ]
          refine wpAnyN_tk (i := 5) (oi := ⟨some 109, _, _, _, _, _⟩) (v := ?_) rfl (by kernel_rfl) (fun _ _ _ h => h) (by rfl) ?_ (by assumption) ?_
          rotate_left 1
          · (intro w hSw; (try dsimp only at hSw); go_simp; try with_reducible rfl)
          try simp only [Act.put, List.setIfInBounds_toArray, List.set_cons_zero, List.set_cons_succ]
          refine wpAnyN_tk (i := 6) (oi := ⟨some 110, _, _, _, _, _⟩) (v := ?_) rfl (by kernel_rfl) (fun _ _ _ h => h) (by rfl) ?_ (by assumption) ?_
          rotate_left 1
          · (intro w hSw; (try dsimp only at hSw); go_simp; try with_reducible rfl)
          try simp only [Act.put, List.setIfInBounds_toArray, List.set_cons_zero, List.set_cons_succ]
          refine wpAnyN_tk (i := 7) (oi := ⟨some 111, _, _, _, _, _⟩) (v := ?_) rfl (by kernel_rfl) (fun _ _ _ h => h) (by rfl) ?_ (by assumption) ?_
          rotate_left 1
          · (intro w hSw; (try dsimp only at hSw); go_simp; try with_reducible rfl)
          try simp only [Act.put, List.setIfInBounds_toArray, List.set_cons_zero, List.set_cons_succ]
          refine wpAnyN_tk (i := 8) (oi := ⟨some 112, _, _, _, _, _⟩) (v := ?_) rfl (by kernel_rfl) (fun _ _ _ h => h) (by rfl) ?_ (by assumption) ?_
          rotate_left 1
          · (intro w hSw; (try dsimp only at hSw); go_simp; try with_reducible rfl)
          try simp only [Act.put, List.setIfInBounds_toArray, List.set_cons_zero, List.set_cons_succ]
          refine wpAnyN_tk (i := 9) (oi := ⟨some 113, _, _, _, _, _⟩) (v := ?_) rfl (by kernel_rfl) (fun _ _ _ h => h) (by rfl) ?_ (by assumption) ?_
          rotate_left 1
          · (intro w hSw; (try dsimp only at hSw); go_simp; try with_reducible rfl)
          try simp only [Act.put, List.setIfInBounds_toArray, List.set_cons_zero, List.set_cons_succ]
          refine wpAnyN_tk (i := 10) (oi := ⟨some 114, _, _, _, _, _⟩) (v := ?_) rfl (by kernel_rfl) (fun _ _ _ h => h) (by rfl) ?_ (by assumption) ?_
          rotate_left 1
          · (intro w hSw; (try dsimp only at hSw); go_simp; try with_reducible rfl)
          try simp only [Act.put, List.setIfInBounds_toArray, List.set_cons_zero, List.set_cons_succ]
          refine wpAnyN_late (i := 11) (o := ⟨some 115, _, _, _, _, _⟩) (by kernel_rfl) (by kernel_rfl) rfl (fun K hK => ?_)
          go_simp
          refine hK.out _ _ ?_
          clear hK K
          try simp only [Act.put, List.setIfInBounds_toArray, List.set_cons_zero, List.set_cons_succ]
          refine wpAnyN_free (i := 12) (oi := ⟨some 2, _, _, _, _, _⟩) (v := ?_) rfl (by kernel_rfl) (by kernel_rfl) (by kernel_rfl) (by kernel_rfl) (by kernel_rfl) (fun _ _ _ h => h) (Or.inl ⟨by rfl, ?_⟩) ?_
          rotate_left 1
          · (intro w hSw; clear hSw; go_simp; try with_reducible rfl)
          try simp only [Act.put, List.setIfInBounds_toArray, List.set_cons_zero, List.set_cons_succ]
          refine wpAnyN_free (i := 13) (oi := ⟨some 3, _, _, _, _, _⟩) (v := ?_) rfl (by kernel_rfl) (by kernel_rfl) (by kernel_rfl) (by kernel_rfl) (by kernel_rfl) (fun _ _ _ h => h) (Or.inl ⟨by rfl, ?_⟩) ?_
          rotate_left 1
          · (intro w hSw; clear hSw; go_simp; try with_reducible rfl)
          try simp only [Act.put, List.setIfInBounds_toArray, List.set_cons_zero, List.set_cons_succ]
          refine wpAnyN_end (by kernel_rfl) ?_
          have hbk : Blk (wo.alloc (.cells #[.bool true, .int .u8 ((f : Int) % 32), .bool ((f : Int) / 32 * 32 != 0), .slice (some ⟨g, 0, none⟩) t t] 72)).drew wo.heap.size 72 (sumCells (bOf bs) (decide (zOf bs < 0)) (some ⟨g, 0, none⟩) t t) := by
            refine (Blk.new _ _ _).drew.to ?_
            have q1 : (f : Int) % 32 = ((bOf bs : Nat) : Int) := by have := HBO.out; omega
            have q2 : ((f : Int) / 32 * 32 != 0) = decide (zOf bs < 0) := by
              rw [← HSG.out, Bool.eq_iff_iff]
              have := HS1.out
              simp only [bne_iff_ne, ne_eq, decide_eq_true_eq]
              omega
            rw [q1, q2]; rfl
          have hbz : Below w.heap.size w (wo.alloc (.cells #[.bool true, .int .u8 ((f : Int) % 32), .bool ((f : Int) / 32 * 32 != 0), .slice (some ⟨g, 0, none⟩) t t] 72)).drew := (HBW.out.alloc HBW.out.size _).drew
          have hnz : NatC (wo.alloc (.cells #[.bool true, .int .u8 ((f : Int) % 32), .bool ((f : Int) / 32 * 32 != 0), .slice (some ⟨g, 0, none⟩) t t] 72)).drew (some ⟨g, 0, none⟩) t t (((zOf bs).natAbs : Nat) : Int) := HNAT.out.below ((Below.refl _ _).alloc (Nat.le_refl _) _).drew (Nat.le_refl _)
          have HRR := Lib.hid (show RRead bs w (.returned (.tuple #[.pointer (some ⟨wo.heap.size, 0, none⟩), .int .i64 0])) _ from ⟨hbz, .inl ⟨HC0.out, wo.heap.size, rfl, ⟨_, t, t, hbk, hnz⟩, HBW.out.size⟩⟩)
          clear hbk hbz hnz hHeld
          go_wp2_with fail
          go_ret2
          exact HRR.out
end Go.Proofs.Ytgdddpbdcdheeaa
