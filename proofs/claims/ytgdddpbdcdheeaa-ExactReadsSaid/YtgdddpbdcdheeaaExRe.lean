/- The walk of the law ExactReads. No conditions. -/
import Derived.Test.YtgdddpbdcdheeaaExRd
import Derived.Test.YtgdddpbdcdheeaaExM
import Derived.Test.YtgdddpbdcdheeaaExU
namespace Go.Proofs.Ytgdddpbdcdheeaa
open Go.RowKit Ieee

theorem byt_of {w : World} {a : Option Addr} {n c : Nat} {zs : List Int} (h : IsRow .u8 w a n c zs) : Byt (zs.take n) := by
  intro x hx
  rcases h with ⟨-, h, -, -⟩ | ⟨y, -, h1, -, h2, -, h4⟩
  · subst h; simp at hx
  · have := h4 _ (List.mem_of_mem_take hx)
    simp [Lit.wf, IntKind.min, IntKind.max, IntKind.bits, IntKind.signed] at this
    omega
/-- a result that is put into a new box -/
theorem put_box (w : World) (q0 q1 q2 q3 q4 q5 : Bool) (p : Option Addr) (l c : Nat) :
    Blk (w.alloc (.cells #[.bool q0, .bool q1, .bool q2, .bool q3, .bool q4, .bool q5, .slice p l c] 30)) w.heap.size 30 #[.bool q0, .bool q1, .bool q2, .bool q3, .bool q4, .bool q5, .slice p l c] ∧ Below w.heap.size w (w.alloc (.cells #[.bool q0, .bool q1, .bool q2, .bool q3, .bool q4, .bool q5, .slice p l c] 30)) := by
  exact one_box w 30 _

set_option maxRecDepth 100000 in
set_option maxHeartbeats 4000000 in
theorem walk_exreads (a : Option Addr) (n c : Nat) (zs : List Int) (w : World) (hA : IsRow .u8 w a n c zs) :
    Calls Try.prog 5 #[.slice a n c] w fun e w' => e = .returned (.bool true) ∧ Below w.heap.size w w' := by
  have hr := hA.row
  have hb := byt_of hA
  have hn : n ≤ 9223372036854775807 := by have := hr.2.1; have := hr.2.2.1; unfold maxLen at this; omega
  obtain ⟨bs, hbs⟩ : ∃ bs, zs.take n = bs := ⟨_, rfl⟩
  rw [hbs] at hr hb
  have HR := Lib.hid hr
  have HBY := Lib.hid hb
  clear hA hr hb hbs
  by_cases hl : n ≤ 400
  · have t1 : decide ((400 : Int) < (n : Int)) = false := by simp; omega
    clear hl
    go_enter Try.func5, Try.ntmps5
    go_wp2_with fail
    refine (read_any _ a n c bs HR.out HBY.out).mono ?_; rintro e w1 ⟨hb1, h⟩
    have HB1 := Lib.hid hb1
    have HR1 := Lib.hid (HR.out.below hb1 (Nat.le_refl _))
    obtain ⟨K, hK⟩ : ∃ K, codeN bs = K := ⟨_, rfl⟩
    rw [hK] at h
    have HK := Lib.hid hK
    clear hb1 hK
    rcases h with ⟨rfl, g, rfl, hs, hg⟩ | ⟨hc, rfl⟩
    · obtain ⟨ok1, ok2, ok3, ok4, -⟩ := read_ok HBY.out HK.out
      have HOK := Lib.hid (And.intro ok3 (And.intro ok2 (And.intro ok4 ok1)))
      have HS1 := Lib.hid hs
      clear hs ok1 ok2 ok3 ok4 hg
      go_wp2_with fail
      refine (rsread_any _ a n c bs HR1.out HBY.out).mono ?_; rintro e w2 ⟨hb2, b, z, ng, a2, l2, c2, rfl, hN, hz⟩
      obtain ⟨rfl, rfl⟩ := hz HK.out
      rw [HK.out]
      obtain ⟨q0, q1, q2, q3, q4, hq⟩ : ∃ q0 q1 q2 q3 q4 : Bool, rsCells (bOf bs) = fun ng a l c => #[.bool q0, .bool q1, .bool q2, .bool q3, .bool q4, .bool ng, .slice a l c] := ⟨_, _, _, _, _, rfl⟩
      have HIS : Hid (∀ w', SumAt w' g (bOf bs) (zOf bs) → NumC w' ng a2 l2 c2 (zOf bs) → Calls Try.prog 16 #[.pointer (some ⟨g, 0, none⟩), .agg #[.bool q0, .bool q1, .bool q2, .bool q3, .bool q4, .bool ng, .slice a2 l2 c2]] w' fun e w'' => e = .returned (.bool true) ∧ Below w'.heap.size w' w'') := Lib.hid (fun w' h1 h2 => by
        have h := is_any w' g (bOf bs) (zOf bs) ng a2 l2 c2 h1 h2 HOK.out.1 HOK.out.2.1 HOK.out.2.2.1
        rw [hq] at h
        exact h)
      rw [hq]
      obtain ⟨hk, hbk⟩ := put_box w2 q0 q1 q2 q3 q4 ng a2 l2 c2
      have HK2 := Lib.hid hk
      have HB2 := Lib.hid ((HB1.out.trans (hb2.mono HB1.out.size)).trans (hbk.mono (Nat.le_trans HB1.out.size hb2.size)))
      have HS2 := Lib.hid ((HS1.out.below hb2 (Nat.le_refl _)).below hbk (Nat.le_refl _))
      have HN2 := Lib.hid (hN.below hbk (Nat.le_refl _))
      have HR2 := Lib.hid (BRow.below (BRow.mk (HR1.out.below hb2 (Nat.le_refl _)) HOK.out.2.2.2) hbk (Nat.le_refl _))
      clear hk hbk hb2 hN hz hq HB1 HS1 HR1 HR
      go_upto_region 5 with fail
      generalize (w2.alloc (.cells #[.bool q0, .bool q1, .bool q2, .bool q3, .bool q4, .bool ng, .slice a2 l2 c2] 30)) = w3 at *
      generalize w2.heap.size = s at *
      go_wp2_with fail
      have hk := HK2.out.drew
      have hB := HB2.out.drew
      have hs := HS2.out.below ((Below.refl _ _).drew) (Nat.le_refl _)
      have hN := HN2.out.below ((Below.refl _ _).drew) (Nat.le_refl _)
      have hrow := HR2.out.below ((Below.refl _ _).drew) (Nat.le_refl _)
      clear HK2 HB2 HS2 HN2 HR2
      refine wp_regionN (fun w' => BRow w' a n c bs ∧ w'.cell? ⟨s, 0, none⟩ = some (.bool q0) ∧ w'.cell? ⟨s, 1, none⟩ = some (.bool q1) ∧ w'.cell? ⟨s, 2, none⟩ = some (.bool q2) ∧ w'.cell? ⟨s, 3, none⟩ = some (.bool q3) ∧ w'.cell? ⟨s, 4, none⟩ = some (.bool q4) ∧ w'.cell? ⟨s, 5, none⟩ = some (.bool ng) ∧ w'.cell? ⟨s, 6, none⟩ = some (.slice a2 l2 c2)) [] (by kernel_rfl) (by exact ⟨hrow, hk.cell 0, hk.cell 1, hk.cell 2, hk.cell 3, hk.cell 4, hk.cell 5, hk.cell 6⟩) (fun hHeld => ?_)
      refine wpAnyN_tk (i := 0) (oi := ⟨some 38, _, _, _, _, _⟩) (v := ?_) rfl (by kernel_rfl) (fun _ _ _ h => h) (by rfl) ?_ (by assumption) ?_
      rotate_left 1
      · (intro w hSw; (try dsimp only at hSw); go_simp; try with_reducible rfl)
      try simp only [Act.put, List.setIfInBounds_toArray, List.set_cons_zero, List.set_cons_succ]
      refine wpAnyN_tk (i := 1) (oi := ⟨some 39, _, _, _, _, _⟩) (v := ?_) rfl (by kernel_rfl) (fun _ _ _ h => h) (by rfl) ?_ (by assumption) ?_
      rotate_left 1
      · (intro w hSw; (try dsimp only at hSw); go_simp; try with_reducible rfl)
      try simp only [Act.put, List.setIfInBounds_toArray, List.set_cons_zero, List.set_cons_succ]
      refine wpAnyN_one (i := 2) (o := ⟨some 40, _, _, _, _, _⟩) (by kernel_rfl) rfl (fun K hK => ?_)
      go_simp
      refine (HIS.out _ hs hN).mono ?_
      rintro e w4 ⟨rfl, hbb⟩
      have hk := hk.below hbb hk.lt
      have hs := hs.below hbb (Nat.le_refl _)
      have hrow := hrow.below hbb (Nat.le_refl _)
      have hB := hB.trans (hbb.mono hB.size)
      clear hbb
      refine hK.out _ _ (by exact ⟨hrow, hk.cell 0, hk.cell 1, hk.cell 2, hk.cell 3, hk.cell 4, hk.cell 5, hk.cell 6⟩) ?_
      clear hK K hHeld
      intro hHeld
      try simp only [Act.put, List.setIfInBounds_toArray, List.set_cons_zero, List.set_cons_succ]
      refine wpAnyN_tk (i := 3) (oi := ⟨some 41, _, _, _, _, _⟩) (v := ?_) rfl (by kernel_rfl) (fun _ _ _ h => h) (by rfl) ?_ (by assumption) ?_
      rotate_left 1
      · (intro w hSw; (try dsimp only at hSw); go_simp; try with_reducible rfl)
      try simp only [Act.put, List.setIfInBounds_toArray, List.set_cons_zero, List.set_cons_succ]
      refine wpAnyN_tk (i := 4) (oi := ⟨some 42, _, _, _, _, _⟩) (v := ?_) rfl (by kernel_rfl) (fun _ _ _ h => h) (by rfl) ?_ (by assumption) ?_
      rotate_left 1
      · (intro w hSw; (try dsimp only at hSw); go_simp; try with_reducible rfl)
      try simp only [Act.put, List.setIfInBounds_toArray, List.set_cons_zero, List.set_cons_succ]
      refine wpAnyN_tk (i := 7) (oi := ⟨some 45, _, _, _, _, _⟩) (v := ?_) rfl (by kernel_rfl) (fun _ _ _ h => h) (by rfl) ?_ (by assumption) ?_
      rotate_left 1
      · (intro w hSw; (try dsimp only at hSw); go_simp; try with_reducible rfl)
      try simp only [Act.put, List.setIfInBounds_toArray, List.set_cons_zero, List.set_cons_succ]
      refine wpAnyN_tk (i := 8) (oi := ⟨some 46, _, _, _, _, _⟩) (v := ?_) rfl (by kernel_rfl) (fun _ _ _ h => h) (by rfl) ?_ (by assumption) ?_
      rotate_left 1
      · (intro w hSw; have hcv := bytes_str (hSw.1); go_simp; try with_reducible rfl)
      try simp only [Act.put, List.setIfInBounds_toArray, List.set_cons_zero, List.set_cons_succ]
      refine wpAnyN_one (i := 5) (o := ⟨some 43, _, _, _, _, _⟩) (by kernel_rfl) rfl (fun K hK => ?_)
      go_simp
      refine (sumbytes_any _ g (bOf bs) (zOf bs) hs HOK.out.1 HOK.out.2.1).mono ?_
      rintro e w5 ⟨a3, n3, c3, bs3, rfl, hr3, hbs3, hbb, -⟩
      obtain rfl := (hbs3.one HOK.out.2.2.2).symm
      have hk := hk.below hbb hk.lt
      have hs := hs.below hbb (Nat.le_refl _)
      have hrow := hrow.below hbb (Nat.le_refl _)
      have hB := hB.trans (hbb.mono hB.size)
      clear hbb
      have R1 := BRow.mk hr3 hbs3
      refine hK.out _ _ (by exact ⟨hrow, hk.cell 0, hk.cell 1, hk.cell 2, hk.cell 3, hk.cell 4, hk.cell 5, hk.cell 6⟩) ?_
      clear hK K hHeld
      intro hHeld
      try simp only [Act.put, List.setIfInBounds_toArray, List.set_cons_zero, List.set_cons_succ]
      clear hHeld
      refine wpAnyN_mono (S' := fun w' => BRow w' a3 n3 c3 bs ∧ BRow w' a n c bs ∧ w'.cell? ⟨s, 0, none⟩ = some (.bool q0) ∧ w'.cell? ⟨s, 1, none⟩ = some (.bool q1) ∧ w'.cell? ⟨s, 2, none⟩ = some (.bool q2) ∧ w'.cell? ⟨s, 3, none⟩ = some (.bool q3) ∧ w'.cell? ⟨s, 4, none⟩ = some (.bool q4) ∧ w'.cell? ⟨s, 5, none⟩ = some (.bool ng) ∧ w'.cell? ⟨s, 6, none⟩ = some (.slice a2 l2 c2)) (fun _ h => h.2) ?_
      have hHeld : (fun w' => BRow w' a3 n3 c3 bs ∧ BRow w' a n c bs ∧ w'.cell? ⟨s, 0, none⟩ = some (.bool q0) ∧ w'.cell? ⟨s, 1, none⟩ = some (.bool q1) ∧ w'.cell? ⟨s, 2, none⟩ = some (.bool q2) ∧ w'.cell? ⟨s, 3, none⟩ = some (.bool q3) ∧ w'.cell? ⟨s, 4, none⟩ = some (.bool q4) ∧ w'.cell? ⟨s, 5, none⟩ = some (.bool ng) ∧ w'.cell? ⟨s, 6, none⟩ = some (.slice a2 l2 c2)) w5 := ⟨R1, hrow, hk.cell 0, hk.cell 1, hk.cell 2, hk.cell 3, hk.cell 4, hk.cell 5, hk.cell 6⟩
      refine wpAnyN_tk (i := 6) (oi := ⟨some 44, _, _, _, _, _⟩) (v := ?_) rfl (by kernel_rfl) (fun _ _ _ h => h) (by rfl) ?_ (by assumption) ?_
      rotate_left 1
      · (intro w hSw; have hcv := bytes_str (hSw.1); go_simp; try with_reducible rfl)
      try simp only [Act.put, List.setIfInBounds_toArray, List.set_cons_zero, List.set_cons_succ]
      refine wpAnyN_tk (i := 9) (oi := ⟨some 47, _, _, _, _, _⟩) (v := ?_) rfl (by kernel_rfl) (fun _ _ _ h => h) (by rfl) ?_ (by assumption) ?_
      rotate_left 1
      · (intro w hSw; (try dsimp only at hSw); go_simp; try with_reducible rfl)
      try simp only [Act.put, List.setIfInBounds_toArray, List.set_cons_zero, List.set_cons_succ]
      refine wpAnyN_tk (i := 10) (oi := ⟨some 48, _, _, _, _, _⟩) (v := ?_) rfl (by kernel_rfl) (fun _ _ _ h => h) (by rfl) ?_ (by assumption) ?_
      rotate_left 1
      · (intro w hSw; (try dsimp only at hSw); go_simp; try with_reducible rfl)
      try simp only [Act.put, List.setIfInBounds_toArray, List.set_cons_zero, List.set_cons_succ]
      refine wpAnyN_tk (i := 11) (oi := ⟨some 49, _, _, _, _, _⟩) (v := ?_) rfl (by kernel_rfl) (fun _ _ _ h => h) (by rfl) ?_ (by assumption) ?_
      rotate_left 1
      · (intro w hSw; (try dsimp only at hSw); go_simp; try with_reducible rfl)
      try simp only [Act.put, List.setIfInBounds_toArray, List.set_cons_zero, List.set_cons_succ]
      refine wpAnyN_one (i := 12) (o := ⟨some 50, _, _, _, _, _⟩) (by kernel_rfl) rfl (fun K hK => ?_)
      go_simp
      refine (awake_ex _).mono ?_
      rintro e w6 ⟨rfl, hbb⟩
      have R1 := R1.below hbb (Nat.le_refl _)
      have hk := hk.below hbb hk.lt
      have hs := hs.below hbb (Nat.le_refl _)
      have hrow := hrow.below hbb (Nat.le_refl _)
      have hB := hB.trans (hbb.mono hB.size)
      clear hbb
      refine hK.out _ _ (by exact ⟨R1, hrow, hk.cell 0, hk.cell 1, hk.cell 2, hk.cell 3, hk.cell 4, hk.cell 5, hk.cell 6⟩) ?_
      clear hK K hHeld
      intro hHeld
      try simp only [Act.put, List.setIfInBounds_toArray, List.set_cons_zero, List.set_cons_succ]
      refine wpAnyN_tk (i := 13) (oi := ⟨some 51, _, _, _, _, _⟩) (v := ?_) rfl (by kernel_rfl) (fun _ _ _ h => h) (by rfl) ?_ (by assumption) ?_
      rotate_left 1
      · (intro w hSw; (try dsimp only at hSw); go_simp; try with_reducible rfl)
      try simp only [Act.put, List.setIfInBounds_toArray, List.set_cons_zero, List.set_cons_succ]
      refine wpAnyN_tk (i := 14) (oi := ⟨some 2, _, _, _, _, _⟩) (v := ?_) rfl (by kernel_rfl) (fun _ _ _ h => h) (by rfl) ?_ (by assumption) ?_
      rotate_left 1
      · (intro w hSw; (try dsimp only at hSw); go_simp; try with_reducible rfl)
      try simp only [Act.put, List.setIfInBounds_toArray, List.set_cons_zero, List.set_cons_succ]
      refine wpAnyN_end (by kernel_rfl) ?_
      go_wp2_with fail
      go_ret
      exact ⟨rfl, hB⟩
    · have HC := Lib.hid hc
      have hk0 : ((K : Int) != 0) = true := by simp; omega
      clear hc
      go_wp2_with fail
      refine (rsread_any _ a n c bs HR1.out HBY.out).mono ?_; rintro e w2 ⟨hb2, b, z, ng, a2, l2, c2, rfl, hN, hz⟩
      rw [HK.out]
      obtain ⟨q0, q1, q2, q3, q4, hq⟩ : ∃ q0 q1 q2 q3 q4 : Bool, rsCells b = fun ng a l c => #[.bool q0, .bool q1, .bool q2, .bool q3, .bool q4, .bool ng, .slice a l c] := ⟨_, _, _, _, _, rfl⟩
      rw [hq]
      obtain ⟨hk, hbk⟩ := put_box w2 q0 q1 q2 q3 q4 ng a2 l2 c2
      have HB2 := Lib.hid ((HB1.out.trans (hb2.mono HB1.out.size)).trans (hbk.mono (Nat.le_trans HB1.out.size hb2.size)))
      clear hk hbk hb2 hN hz hq HB1 HR1 HR
      go_upto_region 5 with fail
      generalize (w2.alloc (.cells #[.bool q0, .bool q1, .bool q2, .bool q3, .bool q4, .bool ng, .slice a2 l2 c2] 30)) = w3 at *
      generalize w2.heap.size = s at *
      go_wp2_with fail
      refine (awake_ex _).mono ?_; rintro e w4 ⟨rfl, hb4⟩
      have HB4 := Lib.hid (HB2.out.trans (hb4.mono HB2.out.size))
      clear hb4
      go_wp2_with fail
      go_ret
      exact ⟨rfl, HB4.out⟩
  · have t1 : decide ((400 : Int) < (n : Int)) = true := by simp; omega
    go_enter Try.func5, Try.ntmps5
    go_wp2_with fail
    refine (awake_ex _).mono ?_; rintro e w1 ⟨rfl, hb1⟩
    go_wp2_with fail
    go_ret
    exact ⟨rfl, hb1⟩
end Go.Proofs.Ytgdddpbdcdheeaa
