/- The walk of the law WholeLists: it answers true for every list of at most 300 numbers, and for every longer one by the chapter's examples. -/
import Derived.Test.YtflhmbbkmpdogaaWalkDivides
namespace Go.Proofs.Ytflhmbbkmpdogaa
open Go.RowKit

theorem info_i64 : (Try.prog.info? 2).map (fun i => (i.zero, i.size, i.bytes)) = some (some (.int .i64 0), 1, 8) := by kernel_rfl

theorem sm_congr {f g : Nat → Int} : ∀ (n : Nat), (∀ i, i < n → f i = g i) → sm f n = sm g n
  | 0, _ => rfl
  | n + 1, h => by
    show sm f n + f n = sm g n + g n
    rw [sm_congr n (fun i hi => h i (by omega)), h n (by omega)]
theorem sm_shift {f : Nat → Int} : ∀ (n : Nat), sm f (n + 1) = f 0 + sm (fun i => f (i + 1)) n
  | 0 => by simp [sm]
  | n + 1 => by
    show sm f (n + 1) + f (n + 1) = f 0 + (sm (fun i => f (i + 1)) n + f (n + 1))
    rw [sm_shift n]; omega
/-- in the other order -/
theorem sm_rev : ∀ (n : Nat) (f : Nat → Int), sm (fun i => f (n - 1 - i)) n = sm f n
  | 0, _ => rfl
  | n + 1, f => by
    rw [sm_shift]
    have h := sm_rev n f
    have e : sm (fun i => f (n + 1 - 1 - (i + 1))) n = sm (fun i => f (n - 1 - i)) n := sm_congr n fun i _ => by congr 1; omega
    rw [e, h]
    show f (n + 1 - 1 - 0) + sm f n = sm f n + f n
    rw [show n + 1 - 1 - 0 = n from by omega]; omega
theorem sm_bd {f : Nat → Int} : ∀ (n : Nat), (∀ i, i < n → -9223372036854775808 ≤ f i ∧ f i ≤ 9223372036854775807) → -(9223372036854775808 * (n : Int)) ≤ sm f n ∧ sm f n ≤ 9223372036854775808 * (n : Int)
  | 0, _ => by simp [sm]
  | n + 1, h => by
    have h1 := sm_bd n (fun i hi => h i (by omega))
    have h2 := h n (by omega)
    show _ ≤ sm f n + f n ∧ sm f n + f n ≤ _
    omega
theorem fit_sm {z : Int} {n : Nat} (hn : n ≤ 301) (h1 : -(9223372036854775808 * (n : Int)) ≤ z) (h2 : z ≤ 9223372036854775808 * (n : Int)) : Fit z := Fit.of_pow (k := 20) (by omega) (by decide)

set_option maxHeartbeats 1000000 in
theorem walk_lists (a : Option Addr) (n cap : Nat) (zs : List Int) (w : World) (h : IsRow .i64 w a n cap zs) :
    Calls Try.prog 3 #[.slice a n cap] w fun e w' => e = .returned (.bool true) ∧ Below w.heap.size w w' := by
  have hr := h.row
  have hwf : ∀ i, i < n → -9223372036854775808 ≤ (zs.take n).getD i 0 ∧ (zs.take n).getD i 0 ≤ 9223372036854775807 := by
    intro i hi
    rcases h with ⟨_, h0, _, _⟩ | ⟨x, _, hl, _, hz, _, hw⟩
    · omega
    · rw [getD_take hi]
      exact wf_i64b (hw _ (getD_mem (by omega)))
  clear h
  generalize zs.take n = xs at *
  by_cases hn : n ≤ 300
  · have H := Lib.hid hr
    have HW := Lib.hid hwf
    clear hr hwf
    go_enter Try.func3, Try.ntmps3
    go_wp2_with fail
    go_loopg [4, 5] n (fun k v u wr => ∃ (i : Nat) (nb : Bool) (na : Option Addr) (nn nc : Nat) (va : Option Addr) (vc : Nat) (ys : List Int), u = .int .i64 i ∧ i + k = n ∧ v = .slice va i vc ∧
      wr.cell? ⟨w.heap.size, 0, none⟩ = some (.bool nb) ∧ wr.cell? ⟨w.heap.size, 1, none⟩ = some (.slice na nn nc) ∧ (∀ o, wr.frozen? ⟨w.heap.size, o, none⟩ = false) ∧ NumC wr nb na nn nc (sm (fun i => xs.getD i 0) i) ∧
      OwnK .i64 wr (w.heap.size + 1) 2 v i ys ∧ (∀ j, j < i → ys.getD j 0 = xs.getD (n - 1 - j) 0) ∧ (nc = 0 ∨ ∀ x, na = some x → some x.block ≠ v.ownBlock) ∧ Below w.heap.size w wr ∧ w.heap.size + 1 ≤ wr.heap.size)
    case atStart => exact ⟨0, false, none, 0, 0, none, 0, [], rfl, by omega, rfl, by simp [go_sem], by simp [go_sem], fun o => by simp [go_sem], ⟨[], RowK.nil, Dig.nil, .inl rfl, rfl, (fun h => by cases h)⟩, OwnK.nil _ _ _ _, (fun j hj => by omega), (.inl rfl), (Below.refl _ _).alloc (Nat.le_refl _) _, by simp⟩
    case round =>
      obtain ⟨i, nb, na, nn, nc, va, vc, ys, rfl, hk, rfl, c0, c1, cf, hN, hO, hys, hsep, hbel, hsz⟩ := hrel
      have HK := Lib.hid hk
      have HN := Lib.hid hN
      have HO := Lib.hid hO
      have HYS := Lib.hid hys
      have HSEP := Lib.hid hsep
      have HBE := Lib.hid hbel
      clear hk hN hO hys hsep hbel
      by_cases hi : i < n
      · obtain ⟨-, -, -, ha4⟩ := H.out
        rcases ha4 with hcap0 | ⟨ba, oa, rfl, hba, hca⟩
        · have := H.out.2.1; omega
        obtain ⟨x, hx⟩ : ∃ d, xs.getD i 0 = d := ⟨_, rfl⟩
        obtain ⟨y, hy⟩ : ∃ d, xs.getD (n - 1 - i) 0 = d := ⟨_, rfl⟩
        have hxr := HW.out i hi
        have hyr := HW.out (n - 1 - i) (by omega)
        have hca1 : wr.cell? ⟨ba, oa + i, none⟩ = some (.int .i64 x) := by rw [HBE.out.cell (p := ⟨ba, oa + i, none⟩) hba, ← hx]; exact hca i hi
        have hca2 : w.cell? ⟨ba, oa + (n - 1 - i), none⟩ = some (.int .i64 y) := by rw [← hy]; exact hca (n - 1 - i) (by omega)
        rw [hx] at hxr
        rw [hy] at hyr
        have HX := Lib.hid hx
        have HY := Lib.hid hy
        have hbd := sm_bd i (fun j hj => HW.out j (by omega))
        have HF1 := Lib.hid (fit_sm (by omega) hbd.1 hbd.2)
        clear hca hx hy hbd
        go_wp2_with fail
        go_region_with (first
          | (go_at_call 10; refine (of_any x _ (by omega) (by omega)).mono ?_; rintro e w1 ⟨neg1, a1, n1, c1', rfl, hN1, hb1, hf1⟩; simp only [World.size_drew] at hb1; have HN1 := Lib.hid hN1; have HF1' := Lib.hid hf1; clear hN1 hf1; obtain ⟨bc1, bf1⟩ := bcell (hb1.mono hsz))
          | (go_at_call 9; refine (add_any _ _ _ _ _ _ _ _ _ _ _ (by exact HN.out.below ((Below.refl _ _).drew.trans hb1) (Nat.le_refl _)) HN1.out HF1.out (by exact Fit.i64 (by omega) (by omega))).mono ?_; rintro e w2 ⟨neg2, a2, n2, c2, rfl, hN2, hb2, hf2⟩; have hb3 := hb1.trans (hb2.mono (by have := hb1.size; simpa using this)); have HN2 := Lib.hid hN2; have HF2 := Lib.hid hf2; clear hN2 hf2 bc1 bf1; obtain ⟨bc2, bf2⟩ := bcell (hb3.mono hsz)))
        all_goals
          have hbW : Below wr.heap.size wr w2 := (Below.refl _ _).drew.trans hb3
          have hz2 := hbW.size
          have d0 : w2.cell? ⟨w.heap.size, 0, none⟩ = some (.bool nb) := by rw [bc2 _ _ (by omega)]; exact c0
          have d1 : w2.cell? ⟨w.heap.size, 1, none⟩ = some (.slice na nn nc) := by rw [bc2 _ _ (by omega)]; exact c1
          have hO3 := ((HO.out.below hbW (Nat.le_refl _)).set_below (p := ⟨w.heap.size, 0, none⟩) (by simp) (.bool neg2)).set_below (p := ⟨w.heap.size, 1, none⟩) (by simp) (.slice a2 n2 c2)
          have hN3 := (HN2.out.set d0 (fun _ e => by cases e) (.bool neg2)).set (p := ⟨w.heap.size, 1, none⟩) (u := .slice na nn nc) (by rw [World.cell?_setCell_other _ _ _ _ (by simp)]; exact d1) (fun _ e => by cases e) (.slice a2 n2 c2)
          have hB3 := ((HBE.out.trans (hbW.mono (by omega))).setCell (p := ⟨w.heap.size, 0, none⟩) (Nat.le_refl _) (.bool neg2)).setCell (p := ⟨w.heap.size, 1, none⟩) (Nat.le_refl _) (.slice a2 n2 c2)
          have e0 : ((w2.setCell ⟨w.heap.size, 0, none⟩ (.bool neg2)).setCell ⟨w.heap.size, 1, none⟩ (.slice a2 n2 c2)).cell? ⟨w.heap.size, 0, none⟩ = some (.bool neg2) := by simp [go_sem, d0]
          have e1 : ((w2.setCell ⟨w.heap.size, 0, none⟩ (.bool neg2)).setCell ⟨w.heap.size, 1, none⟩ (.slice a2 n2 c2)).cell? ⟨w.heap.size, 1, none⟩ = some (.slice a2 n2 c2) := by simp [go_sem, d1]
          have ef : ∀ o, ((w2.setCell ⟨w.heap.size, 0, none⟩ (.bool neg2)).setCell ⟨w.heap.size, 1, none⟩ (.slice a2 n2 c2)).frozen? ⟨w.heap.size, o, none⟩ = false := fun o => by simp [go_sem]; rw [bf2 _ _ (by omega)]; exact cf o
          have es : ((w2.setCell ⟨w.heap.size, 0, none⟩ (.bool neg2)).setCell ⟨w.heap.size, 1, none⟩ (.slice a2 n2 c2)).heap.size = w2.heap.size := by simp
          clear bc2 bf2 d0 d1
          generalize (w2.setCell ⟨w.heap.size, 0, none⟩ (.bool neg2)).setCell ⟨w.heap.size, 1, none⟩ (.slice a2 n2 c2) = wz at *
          have ey : wz.cell? ⟨ba, oa + (n - 1 - i), none⟩ = some (.int .i64 y) := by rw [hB3.cell (p := ⟨ba, oa + (n - 1 - i), none⟩) hba]; exact hca2
          have HO3 := Lib.hid hO3
          have HN3 := Lib.hid hN3
          have HB3 := Lib.hid hB3
          have ES := Lib.hid es
          clear hO3 hN3 hB3 es c0 c1 cf hca1 hca2 hbW
          go_wp2_with (at_builtin; refine append1 .i64 22 2 8 info_i64 (by decide) Try.underlying22 rfl _ _ rfl (w.heap.size + 1) wz (.slice va i vc) i ys y rfl rfl HO3.out (by omega) (by have := ES.out; omega) ?_)
          intro g cp w4 hO4 hgr hbl hls
          have hb4 := hbl wz (Below.refl _ _)
          have hz4 := hb4.size
          have hlt := World.ownsRow.lt HO.out
          have hF2 := HF2.out
          have hz1 := hb1.size
          have hNL := HN2.out.lt
          have hsep : c2 = 0 ∨ ∀ x, a2 = some x → some x.block ≠ (Value.slice va i vc).ownBlock := .inr fun x hx e => by
            have h1 := hF2 x hx
            have h2 := hlt x.block e.symm
            simp at hz1; omega
          have hsep2 : c2 = 0 ∨ ∀ x, a2 = some x → some x.block ≠ (Value.slice (some ⟨g, 0, none⟩) (i + 1) cp).ownBlock := by
            rcases hNL with h0 | hNL
            · exact .inl h0
            refine .inr fun x hx e => ?_
            have e' : x.block = g := by simpa [Value.ownBlock] using e
            rcases hls with h5 | h5
            · have h1 := hF2 x hx
              have h2 := hlt g h5
              simp at hz1; omega
            · have := hNL x hx
              have := ES.out
              omega
          have HN4 := Lib.hid (HN3.out.grown hgr hsep)
          have HO4 := Lib.hid hO4
          have HS4 := Lib.hid hsep2
          have HB4 := Lib.hid (HB3.out.trans (hb4.mono (by omega)))
          have k0 : w4.cell? ⟨w.heap.size, 0, none⟩ = some (.bool neg2) := by rw [hb4.cell (p := ⟨w.heap.size, 0, none⟩) (by simp)]; exact e0
          have k1 : w4.cell? ⟨w.heap.size, 1, none⟩ = some (.slice a2 n2 c2) := by rw [hb4.cell (p := ⟨w.heap.size, 1, none⟩) (by simp)]; exact e1
          have kf : ∀ o, w4.frozen? ⟨w.heap.size, o, none⟩ = false := fun o => by rw [hb4.frozen (p := ⟨w.heap.size, o, none⟩) (by simp)]; exact ef o
          have hz5 : w.heap.size + 1 ≤ w4.heap.size := by have := ES.out; omega
          clear hO4 hgr hbl hls hb4 hsep hsep2 hlt hF2 hNL e0 e1 ef ey
          go_wp2_with fail
          go_roundg (gk - 1)
          case measure => have := HK.out; omega
          case rel =>
            have hsv : sm (fun i => xs.getD i 0) (i + 1) = sm (fun i => xs.getD i 0) i + x := by rw [← HX.out]; rfl
            refine ⟨i + 1, neg2, a2, n2, c2, _, _, ys ++ [y], by go_num, by have := HK.out; omega, rfl, k0, k1, kf, ?_, HO4.out, fun j hj => ?_, HS4.out, HB4.out, hz5⟩
            · rw [hsv]; exact HN4.out
            · have hl := HO.out.len
              by_cases hji : j = i
              · rw [hji, ← hl, getD_snoc, hl]; exact HY.out.symm
              · rw [getD_append_lt (by omega)]; exact HYS.out j (by omega)
      · obtain rfl : i = n := by have := HK.out; omega
        have hlen := HO.out.len
        have hyr : ∀ j, j < i → -9223372036854775808 ≤ ys.getD j 0 ∧ ys.getD j 0 ≤ 9223372036854775807 := fun j hj => by rw [HYS.out j hj]; exact HW.out _ (by omega)
        have hT : sm (fun j => ys.getD j 0) i = sm (fun j => xs.getD j 0) i := by rw [sm_congr i (fun j hj => HYS.out j hj), sm_rev i (fun j => xs.getD j 0)]
        have hS1 := sum_ints a i cap xs wr (H.out.below HBE.out (Nat.le_refl _)) (fun j hj => HW.out j hj) (by omega)
        have hS2 := fun w1 (hb : Below wr.heap.size wr w1) => sum_ints va i vc ys w1 (HO.out.row.below hb (Nat.le_refl _)) hyr (by omega)
        rw [hT] at hS2
        have hI := fun w1 (hb : Below wr.heap.size wr w1) => is_any nb na nn nc _ w1 (HN.out.below hb (Nat.le_refl _))
        generalize sm (fun j => xs.getD j 0) i = T at *
        have HS1 := Lib.hid hS1
        have HS2 := Lib.hid hS2
        have HI := Lib.hid hI
        clear hS1 hS2 hI hT hyr hlen
        have eT : (clip T == clip T) = true := by simp
        have eB : (fits T == fits T) = true := by simp
        go_wp2_with fail
        refine HS1.out.mono ?_; rintro e w5 ⟨rfl, hb5⟩
        have hz5 := hb5.size
        have HB5 := Lib.hid hb5
        clear hb5
        go_wp2_with fail
        refine (HS2.out _ HB5.out).mono ?_; rintro e w6 ⟨rfl, hb6⟩
        have hb7 := HB5.out.trans (hb6.mono hz5)
        have hz7 := hb7.size
        have k0 : w6.cell? ⟨w.heap.size, 0, none⟩ = some (.bool nb) := by rw [hb7.cell (p := ⟨w.heap.size, 0, none⟩) (by simp; omega)]; exact c0
        have k1 : w6.cell? ⟨w.heap.size, 1, none⟩ = some (.slice na nn nc) := by rw [hb7.cell (p := ⟨w.heap.size, 1, none⟩) (by simp; omega)]; exact c1
        have HB7 := Lib.hid hb7
        clear hb6 hb7
        go_wp2_with fail
        refine (HI.out _ HB7.out).mono ?_; rintro e w8 ⟨rfl, hb8⟩
        have hb9 := HB7.out.trans (hb8.mono hz7)
        have hz9 := hb9.size
        have HB9 := Lib.hid hb9
        clear hb8 hb9
        go_wp2_with fail
        refine (awake_any _).mono ?_; rintro e w10 ⟨rfl, hb10⟩
        have HB10 := Lib.hid ((HBE.out.trans (HB9.out.mono (by omega))).trans (hb10.mono (by omega)))
        go_wp2_with fail
        go_ret
        exact ⟨rfl, HB10.out⟩
  · clear hr hwf
    go_enter Try.func3, Try.ntmps3
    go_wp2_with fail
    refine (awake_any _).mono ?_; rintro e w2 ⟨rfl, hb2⟩
    go_wp2_with fail
    go_ret
    exact ⟨rfl, hb2⟩
end Go.Proofs.Ytflhmbbkmpdogaa
