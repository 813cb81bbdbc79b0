/- Contract of package bushelref02's Read. No conditions. -/
import Derived.Test.YtdbkgpakpadloaaGreatDoorNatR
import Derived.Test.YtdbkgpakpadloaaGreatDoorMRef02
namespace Go.Proofs.YtdbkgpakpadloaaGreatDoor
open Go.RowKit

/-- what the reference's Read says of a text -/
def RRead (s : ByteArray) (w : World) (e : Ending) (w' : World) : Prop := ∃ n a l c, (OkText s ∧ e = .returned (.tuple #[.agg #[.bool n, .slice a l c], .bool true]) ∧ NumC w' n a l c (tv s s.size) ∨ ¬ OkText s ∧ e = .returned (.tuple #[.agg #[.bool n, .slice a l c], .bool false])) ∧ Below w.heap.size w w'
theorem tv_bd {s : ByteArray} : ∀ (i : Nat), (∀ j, j < i → 48 ≤ sb s j ∧ sb s j ≤ 57) → 0 ≤ tv s i ∧ tv s i < 10 ^ i
  | 0, _ => ⟨Int.le_refl _, by show (0 : Int) < 10 ^ 0; decide⟩
  | i + 1, h => by
    have ⟨h1, h2⟩ := tv_bd i fun j hj => h j (by omega)
    have ⟨h3, h4⟩ := h i (by omega)
    rw [Int.pow_succ]
    show 0 ≤ tv s i * 10 + (sb s i - 48) ∧ tv s i * 10 + (sb s i - 48) < _
    omega
theorem fit_ten {z : Int} {i : Nat} (h0 : 0 ≤ z) (h : z < 10 ^ i) (hi : i ≤ 100000) : Fit z := by
  refine Fit.of_pow (k := i) ?_ (by omega)
  have e : ((10 ^ i : Nat) : Int) = 10 ^ i := by rw [Int.natCast_pow]; rfl
  have h1 : z.natAbs < 10 ^ i := by omega
  exact Nat.lt_of_lt_of_le h1 (Nat.pow_le_pow_left (by decide) i)

set_option maxRecDepth 100000 in
set_option maxHeartbeats 4000000 in
theorem rread_any (s : ByteArray) (w : World) (hs : s.size ≤ 9223372036854775807) :
    Calls Tryz.prog 25 #[.string s] w (RRead s w) := by
  have q1 : w.heap.size < w.heap.size + 1 := by omega
  go_enter Tryz.func25, Tryz.ntmps25
  go_upto_region 2 with fail
  obtain ⟨hk0, hk1, hbw, hsz⟩ := two_bx w 61 #[.bool false, .slice none 0 0] #[.bool false, .slice none 0 0]
  have HK0 := Lib.hid hk0
  have HK1 := Lib.hid hk1
  have HBW := Lib.hid hbw
  clear hk0 hk1 hbw hsz
  generalize (w.alloc (.cells #[.bool false, .slice none 0 0] 61)).alloc (.cells #[.bool false, .slice none 0 0] 61) = v at *
  go_cut [23] (fun u wx => (u = .bool true ∧ BadHead s ∨ u = .bool false ∧ ¬ BadHead s) ∧ v = wx)
  case first =>
    by_cases h0 : s.size = 0
    · have he : s.toList.isEmpty = true := by rw [isEmpty_of]; simpa using h0
      go_wp2_with fail
      go_meet
      exact ⟨.inl ⟨rfl, .inl h0⟩, rfl⟩
    · have hp : 0 < s.size := by omega
      have he : s.toList.isEmpty = false := by rw [isEmpty_of]; simpa using h0
      by_cases h1 : 1000 < s.size
      · go_wp2_with fail
        go_meet
        exact ⟨.inl ⟨rfl, .inr (.inl h1)⟩, rfl⟩
      · by_cases h2 : 1 < s.size
        · have hc := sb_at hp
          obtain ⟨c0, hc0⟩ : ∃ c : Int, ((s[0]'hp).toNat : Int) = c := ⟨_, rfl⟩
          rw [hc0] at hc
          have HC := Lib.hid hc
          clear hc
          by_cases h48 : c0 = 48
          · have hq : (((s[0]'hp).toNat : Int) == 48) = true := by rw [hc0, h48]; rfl
            go_wp2_with fail
            go_meet
            exact ⟨.inl ⟨congrArg Value.bool (by first | (simp; done) | (simp; omega)), .inr (.inr ⟨by rw [HC.out]; exact h48, h2⟩)⟩, rfl⟩
          · have hq : (((s[0]'hp).toNat : Int) == 48) = false := by rw [hc0]; simpa using h48
            go_wp2_with fail
            go_meet
            exact ⟨.inr ⟨congrArg Value.bool (by first | (simp; done) | (simp; omega)), fun h => by rcases h with h | h | h; omega; omega; exact h48 (HC.out ▸ h.1)⟩, rfl⟩
        · go_wp2_with fail
          go_meet
          exact ⟨.inr ⟨congrArg Value.bool (by first | (simp; done) | (simp; omega)), fun h => by rcases h with h | h | h <;> omega⟩, rfl⟩
  case rest =>
    obtain ⟨hor, rfl⟩ := hcut
    have r0 : v.cell? ⟨w.heap.size, 0, none⟩ = some (.bool false) := HK0.out.cell 0
    have r1 : v.cell? ⟨w.heap.size, 1, none⟩ = some (.slice none 0 0) := HK0.out.cell 1
    have rf : ∀ o, v.frozen? ⟨w.heap.size, o, none⟩ = false := fun o => HK0.out.frozen o
    have x0 : v.cell? ⟨w.heap.size + 1, 0, none⟩ = some (.bool false) := HK1.out.cell 0
    have x1 : v.cell? ⟨w.heap.size + 1, 1, none⟩ = some (.slice none 0 0) := HK1.out.cell 1
    rcases hor with ⟨rfl, hbad⟩ | ⟨rfl, hbad⟩
    · have HNO : Hid (¬ OkText s) := Lib.hid fun h => by
        obtain ⟨h1, h2, h3, -⟩ := h
        rcases hbad with h | h | h
        · omega
        · omega
        · exact h3 h
      clear hbad
      go_wp2_with fail
      exact bodyPost_ret (v := .tuple #[.agg #[.bool false, .slice none 0 0], .bool false]) (by simp [results, Tryz.results25, go_sem, r0, r1]) rfl
        ⟨_, _, _, _, .inr ⟨HNO.out, rfl⟩, (HBW.out.setCell (Nat.le_refl _) _).setCell (Nat.le_refl _) _⟩
    · have hp : 0 < s.size := Nat.pos_of_ne_zero fun e => hbad (.inl e)
      have h1k : s.size ≤ 1000 := Nat.le_of_not_lt fun e => hbad (.inr (.inl e))
      have HH : Hid (¬ (sb s 0 = 48 ∧ 1 < s.size)) := Lib.hid fun e => hbad (.inr (.inr e))
      have FB : Hid (Fit 10) := Lib.hid (fit_b32 (k := 1) (by decide) (by decide))
      clear hbad r0 r1 rf x0 x1
      go_wp2_with fail
      go_loopg [5] s.size (fun q iu wr => ∃ (i : Nat) (nx : Bool) (px : Option Addr) (lx cx : Nat), iu = .int .i64 i ∧ i + q = s.size ∧ (∀ j, j < i → 48 ≤ sb s j ∧ sb s j ≤ 57) ∧ Blk wr w.heap.size 61 #[.bool false, .slice none 0 0] ∧ Blk wr (w.heap.size + 1) 61 #[.bool nx, .slice px lx cx] ∧ NumC wr nx px lx cx (tv s i) ∧ Below w.heap.size w wr)
      case atStart => exact ⟨0, false, none, 0, 0, rfl, by omega, fun j h => by omega, HK0.out, HK1.out, NumC.zero, HBW.out⟩
      case round =>
        obtain ⟨i, nx, px, lx, cx, rfl, hq, hok, hk0, hk1, hx, hbl⟩ := hrel
        have x0 : wr.cell? ⟨w.heap.size + 1, 0, none⟩ = some (.bool nx) := hk1.cell 0
        have x1 : wr.cell? ⟨w.heap.size + 1, 1, none⟩ = some (.slice px lx cx) := hk1.cell 1
        have r0 : wr.cell? ⟨w.heap.size, 0, none⟩ = some (.bool false) := hk0.cell 0
        have r1 : wr.cell? ⟨w.heap.size, 1, none⟩ = some (.slice none 0 0) := hk0.cell 1
        have rf : ∀ o, wr.frozen? ⟨w.heap.size, o, none⟩ = false := fun o => hk0.frozen o
        have hs1 : w.heap.size + 1 < wr.heap.size := hk1.lt
        have HB0 := Lib.hid hk0
        have HB1 := Lib.hid hk1
        have HQ := Lib.hid hq
        have HOK := Lib.hid hok
        have HX := Lib.hid hx
        have HBL := Lib.hid hbl
        clear hq hok hk0 hk1 hx hbl
        by_cases hi : i < s.size
        · have hc := sb_at hi
          obtain ⟨c0, hc0⟩ : ∃ c : Int, ((s[i]'hi).toNat : Int) = c := ⟨_, rfl⟩
          have hcb : c0 < 256 := by have := (s[i]'hi).toNat_lt; omega
          have hcb0 : 0 ≤ c0 := by omega
          rw [hc0] at hc
          have HC := Lib.hid hc
          clear hc
          by_cases hbadc : c0 < 48 ∨ 57 < c0
          · have HNO : Hid (¬ OkText s) := Lib.hid fun h => by
              have := h.2.2.2 i hi
              rw [HC.out] at this
              omega
            by_cases hlo : c0 < 48
            · go_wp2_with fail
              exact bodyPost_ret (v := .tuple #[.agg #[.bool false, .slice none 0 0], .bool false]) (by simp [results, Tryz.results25, go_sem, r0, r1]) rfl
                ⟨_, _, _, _, .inr ⟨HNO.out, rfl⟩, (HBL.out.setCell (Nat.le_refl _) _).setCell (Nat.le_refl _) _⟩
            · have hhi : 57 < c0 := by omega
              go_wp2_with fail
              exact bodyPost_ret (v := .tuple #[.agg #[.bool false, .slice none 0 0], .bool false]) (by simp [results, Tryz.results25, go_sem, r0, r1]) rfl
                ⟨_, _, _, _, .inr ⟨HNO.out, rfl⟩, (HBL.out.setCell (Nat.le_refl _) _).setCell (Nat.le_refl _) _⟩
          · have hlo : 48 ≤ c0 := by omega
            have hhi : c0 ≤ 57 := by omega
            have hd0 : 0 ≤ c0 - 48 := by omega
            clear hbadc
            have HT : Hid (tv s i * 10 + (c0 - 48) = tv s (i + 1)) := Lib.hid (by show _ = tv s i * 10 + (sb s i - 48); rw [HC.out])
            have HOKN : Hid (∀ j, j < i + 1 → 48 ≤ sb s j ∧ sb s j ≤ 57) := Lib.hid fun j hj => by
              by_cases h : j = i
              · rw [h, HC.out]; exact ⟨hlo, hhi⟩
              · exact HOK.out j (by omega)
            have htb := tv_bd i HOK.out
            have htb1 := tv_bd (i + 1) HOKN.out
            have FX := Lib.hid (fit_ten htb.1 htb.2 (by omega))
            have FXB : Hid (Fit (tv s i * 10)) := Lib.hid (fit_ten (i := i + 1) (by omega) (by have := HT.out; omega) (by omega))
            have FD : Hid (Fit (c0 - 48)) := Lib.hid (fit_ten (i := 2) (by omega) (by omega) (by omega))
            clear htb htb1
            generalize tv s i = X at *
            generalize htX : tv s (i + 1) = X1 at *
            have HTX := Lib.hid htX
            clear htX
            have hbA : Below wr.heap.size wr wr.drew := (Below.refl _ _).drew
            have hw8 : IntKind.u8.wrap (c0 - 48) = c0 - 48 := by simp only [IntKind.wrap, IntKind.bits, IntKind.signed]; simp; omega
            have hw64 : IntKind.u64.wrap (c0 - 48) = c0 - 48 := wrap_u64_small hd0 (by omega)
            go_wp2_with fail
            refine wp_regionL (fun w' => w'.cell? ⟨w.heap.size + 1, 0, none⟩ = some (.bool nx) ∧ w'.cell? ⟨w.heap.size + 1, 1, none⟩ = some (.slice px lx cx)) 10 (by kernel_rfl) (by exact ⟨x0, x1⟩) (fun hHeld => ?_)
            refine wpAnyL_take (i := 0) (oi := ⟨some 42, _, _, _, _, _⟩) (v := ?_) rfl (by kernel_rfl) (by kernel_rfl) (by kernel_rfl) (by kernel_rfl) (by kernel_rfl) (fun _ _ _ h => h) (Or.inl ⟨by rfl, ?_⟩) (by assumption) ?_
            rotate_left 1
            · (intro w hSw; (try dsimp only at hSw); go_simp; try with_reducible rfl)
            try simp only [Act.put, List.setIfInBounds_toArray, List.set_cons_zero, List.set_cons_succ]
            refine wpAnyL_take (i := 3) (oi := ⟨some 45, _, _, _, _, _⟩) (v := ?_) rfl (by kernel_rfl) (by kernel_rfl) (by kernel_rfl) (by kernel_rfl) (by kernel_rfl) (fun _ _ _ h => h) (Or.inl ⟨by rfl, ?_⟩) (by assumption) ?_
            rotate_left 1
            · (intro w hSw; (try dsimp only at hSw); go_simp; try with_reducible rfl)
            try simp only [Act.put, List.setIfInBounds_toArray, List.set_cons_zero, List.set_cons_succ]
            refine wpAnyL_take (i := 4) (oi := ⟨some 46, _, _, _, _, _⟩) (v := ?_) rfl (by kernel_rfl) (by kernel_rfl) (by kernel_rfl) (by kernel_rfl) (by kernel_rfl) (fun _ _ _ h => h) (Or.inl ⟨by rfl, ?_⟩) (by assumption) ?_
            rotate_left 1
            · (intro w hSw; (try dsimp only at hSw); go_simp; try with_reducible rfl)
            try simp only [Act.put, List.setIfInBounds_toArray, List.set_cons_zero, List.set_cons_succ]
            refine wpAnyL_take (i := 5) (oi := ⟨some 47, _, _, _, _, _⟩) (v := ?_) rfl (by kernel_rfl) (by kernel_rfl) (by kernel_rfl) (by kernel_rfl) (by kernel_rfl) (fun _ _ _ h => h) (Or.inl ⟨by rfl, ?_⟩) (by assumption) ?_
            rotate_left 1
            · (intro w hSw; (try dsimp only at hSw); go_simp; try with_reducible rfl)
            try simp only [Act.put, List.setIfInBounds_toArray, List.set_cons_zero, List.set_cons_succ]
            refine wpAnyL_take (i := 6) (oi := ⟨some 48, _, _, _, _, _⟩) (v := ?_) rfl (by kernel_rfl) (by kernel_rfl) (by kernel_rfl) (by kernel_rfl) (by kernel_rfl) (fun _ _ _ h => h) (Or.inl ⟨by rfl, ?_⟩) (by assumption) ?_
            rotate_left 1
            · (intro w hSw; (try dsimp only at hSw); go_simp; try with_reducible rfl)
            try simp only [Act.put, List.setIfInBounds_toArray, List.set_cons_zero, List.set_cons_succ]
            refine wpAnyL_take (i := 7) (oi := ⟨some 49, _, _, _, _, _⟩) (v := ?_) rfl (by kernel_rfl) (by kernel_rfl) (by kernel_rfl) (by kernel_rfl) (by kernel_rfl) (fun _ _ _ h => h) (Or.inl ⟨by rfl, ?_⟩) (by assumption) ?_
            rotate_left 1
            · (intro w hSw; (try dsimp only at hSw); go_simp; try with_reducible rfl)
            try simp only [Act.put, List.setIfInBounds_toArray, List.set_cons_zero, List.set_cons_succ]
            refine wpAnyL_one (i := 1) (o := ⟨some 43, _, _, _, _, _⟩) (by kernel_rfl) rfl (fun K hK => ?_)
            go_simp
            refine (nat_any 10 _ (by omega) (by omega)).mono ?_
            rintro e w2 ⟨n2, p2, l2, c2, rfl, hN2, hb2, -⟩
            have hB2 := hbA.trans (hb2.mono (by exact Nat.le_refl _))
            have w20 : w2.cell? ⟨w.heap.size + 1, 0, none⟩ = some (.bool nx) := by rw [(bcell hB2).1 _ _ hs1]; exact x0
            have w21 : w2.cell? ⟨w.heap.size + 1, 1, none⟩ = some (.slice px lx cx) := by rw [(bcell hB2).1 _ _ hs1]; exact x1
            refine hK.out _ _ (by exact ⟨w20, w21⟩) ?_
            clear hK K hHeld
            intro hHeld
            try simp only [Act.put, List.setIfInBounds_toArray, List.set_cons_zero, List.set_cons_succ]
            refine wpAnyL_one (i := 2) (o := ⟨some 44, _, _, _, _, _⟩) (by kernel_rfl) rfl (fun K hK => ?_)
            go_simp
            refine (mul_any _ _ _ _ _ _ _ _ X 10 _ (HX.out.below hB2 (Nat.le_refl _)) hN2 FX.out FB.out).mono ?_
            rintro e w3 ⟨n3, p3, l3, c3, rfl, hN3, hb3, -⟩
            have hB3 := hB2.trans (hb3.mono hB2.size)
            have w30 : w3.cell? ⟨w.heap.size + 1, 0, none⟩ = some (.bool nx) := by rw [(bcell hB3).1 _ _ hs1]; exact x0
            have w31 : w3.cell? ⟨w.heap.size + 1, 1, none⟩ = some (.slice px lx cx) := by rw [(bcell hB3).1 _ _ hs1]; exact x1
            refine hK.out _ _ (by exact ⟨w30, w31⟩) ?_
            clear hK K hHeld
            intro hHeld
            try simp only [Act.put, List.setIfInBounds_toArray, List.set_cons_zero, List.set_cons_succ]
            refine wpAnyL_one (i := 8) (o := ⟨some 50, _, _, _, _, _⟩) (by kernel_rfl) rfl (fun K hK => ?_)
            go_simp
            refine (nat_any (c0 - 48) _ hd0 (by omega)).mono ?_
            rintro e w4 ⟨n4, p4, l4, c4, rfl, hN4, hb4, -⟩
            have hB4 := hB3.trans (hb4.mono hB3.size)
            have w40 : w4.cell? ⟨w.heap.size + 1, 0, none⟩ = some (.bool nx) := by rw [(bcell hB4).1 _ _ hs1]; exact x0
            have w41 : w4.cell? ⟨w.heap.size + 1, 1, none⟩ = some (.slice px lx cx) := by rw [(bcell hB4).1 _ _ hs1]; exact x1
            refine hK.out _ _ (by exact ⟨w40, w41⟩) ?_
            clear hK K hHeld
            intro hHeld
            try simp only [Act.put, List.setIfInBounds_toArray, List.set_cons_zero, List.set_cons_succ]
            refine wpAnyL_one (i := 9) (o := ⟨some 51, _, _, _, _, _⟩) (by kernel_rfl) rfl (fun K hK => ?_)
            go_simp
            refine (add_any _ _ _ _ _ _ _ _ (X * 10) (c0 - 48) _ (hN3.below hb4 (Nat.le_refl _)) hN4 FXB.out FD.out).mono ?_
            rintro e w5 ⟨n5, p5, l5, c5, rfl, hN5, hb5, hf5⟩
            have hB5 := hB4.trans (hb5.mono hB4.size)
            have hBK := HB1.out.below hB5 hs1
            have xf : ∀ o, w5.frozen? ⟨w.heap.size + 1, o, none⟩ = false := fun o => hBK.frozen o
            have w50 : w5.cell? ⟨w.heap.size + 1, 0, none⟩ = some (.bool nx) := by rw [(bcell hB5).1 _ _ hs1]; exact x0
            have w51 : w5.cell? ⟨w.heap.size + 1, 1, none⟩ = some (.slice px lx cx) := by rw [(bcell hB5).1 _ _ hs1]; exact x1
            refine hK.out _ _ (by exact ⟨w50, w51⟩) ?_
            clear hK K hHeld
            intro hHeld
            try simp only [Act.put, List.setIfInBounds_toArray, List.set_cons_zero, List.set_cons_succ]
            refine wpAnyL_last (o := ⟨none, _, _, _, _, _⟩) (by kernel_rfl) (by kernel_rfl) rfl (fun K hK => ?_)
            go_simp
            refine hK _ _ ?_
            clear hK K hHeld
            try simp only [Act.put, List.setIfInBounds_toArray, List.set_cons_zero, List.set_cons_succ]
            go_wp2_with fail
            rw [HT.out] at hN5
            go_roundg (gk - 1)
            case measure => have := HQ.out; omega
            case rel => exact ⟨i + 1, n5, p5, l5, c5, by go_num, by have := HQ.out; omega, HOKN.out, (HB0.out.below hB5 (by omega)).far (by simp) _ |>.far (by simp) _, ((hBK.set_ 0 _).set_ 1 _).to rfl, by rw [HTX.out]; exact NumC.set2 hN5 w50 w51 _ _ _ _, ((HBL.out.trans (hB5.mono (by omega))).setCell (by simp) _).setCell (by simp) _⟩
        · have hin : i = s.size := by have := HQ.out; omega
          have HOKT : Hid (OkText s) := Lib.hid ⟨hp, h1k, HH.out, fun j hj => HOK.out j (by omega)⟩
          rw [hin] at HX
          clear hin
          go_wp2_with fail
          exact bodyPost_ret (v := .tuple #[.agg #[.bool nx, .slice px lx cx], .bool true]) (by simp [results, Tryz.results25, go_sem, r0, r1]) rfl
            ⟨_, _, _, _, .inl ⟨HOKT.out, rfl, NumC.set2 HX.out r0 r1 _ _ _ _⟩, (HBL.out.setCell (Nat.le_refl _) _).setCell (Nat.le_refl _) _⟩
end Go.Proofs.YtdbkgpakpadloaaGreatDoor
