/- Contract of bushelref35.run: the token of a run. Conditions: the text is a run: it is not empty, and all its bytes are a run's. -/
import Derived.Test.YtaofjnidniekjaaLexC
namespace Go.Proofs.Ytaofjnidniekjaa
open Go.RowKit

theorem risP_at (s : ByteArray) (b : Bool) (w : World) (h : nameB s = b) : Calls Try.prog 46 #[.string s] w fun e w' => e = .returned (.bool b) ∧ Below w.heap.size w w' := by
  rw [← h]; exact ris_any s w
theorem nameB_is {s : ByteArray} (h : nameB s = true) : NameP s := @of_decide_eq_true _ (Classical.propDecidable _) h
theorem qleft {P : Program} {f : FuncId} {args : Array Value} {w : World} {n : Nat} {v : Value}
    (h : Calls P f args (w.drewN n) fun e w' => e = .returned v ∧ w.drewN n = w') : Calls P f args (w.drewN n) fun e w' => e = .returned v ∧ ∃ m, w' = w.drewN m :=
  h.mono fun _ _ ⟨he, hm⟩ => ⟨he, n, hm.symm⟩

set_option maxHeartbeats 400000 in
theorem rrun_at (a er k1 n1 a1 : Int) (t t1 : ByteArray) (w : World) (ht : 0 < t.size) (hs : t.size ≤ 9223372036854775807) (hr : t.data.toList.all runB = true) (ho : TokOut (runR t) t a er k1 n1 a1 t1) :
    Calls Try.prog 22 #[.string t, .int .i64 a] w (RetTok w er k1 n1 a1 t1) := by
  have HOUT := Lib.hid ho
  have HR := Lib.hid hr
  have hhc := head_cases ht hr
  clear ho hr
  have HBA : Hid (Below w.heap.size w (w.alloc (.cells #[.int .i64 0, .string ⟨#[]⟩, .int .i64 0, .int .i64 0] 31))) := Lib.hid ((Below.refl _ _).alloc (Nat.le_refl _) _)
  have HB0 : Hid (Blk (w.alloc (.cells #[.int .i64 0, .string ⟨#[]⟩, .int .i64 0, .int .i64 0] 31)) w.heap.size 31 #[.int .i64 0, .string ⟨#[]⟩, .int .i64 0, .int .i64 0]) := Lib.hid (Blk.new _ _ _)
  have hsz : w.heap.size < (w.alloc (.cells #[.int .i64 0, .string ⟨#[]⟩, .int .i64 0, .int .i64 0] 31)).heap.size := by simp
  obtain ⟨pl, hpl⟩ : ∃ r, place wordList t = r := ⟨_, rfl⟩
  have HPL := Lib.hid hpl
  have HWP : Hid (wordB t = decide (0 ≤ pl)) := by
    have h : wordB t = decide (0 ≤ pl) := by rw [← hpl]; rfl
    exact Lib.hid h
  clear hpl
  have HH := Lib.hid hhc
  clear hhc
  by_cases hw : 0 ≤ pl
  · have HW : Hid (wordB t = true) := Lib.hid (HWP.out.trans (by simpa using hw))
    obtain ⟨rfl, rfl, rfl, rfl, rfl⟩ := HOUT.out.good (runR_word HW.out)
    go_enter Try.func22, Try.ntmps22
    go_wp2_with fail
    generalize (w.alloc (.cells #[.int .i64 0, .string ⟨#[]⟩, .int .i64 0, .int .i64 0] 31)) = wb at *
    refine (rWords_any _).mono ?_; rintro e w1 ⟨rfl, hr1, hb1⟩
    have HR1 := Lib.hid hr1
    have B0 := HB0.out.below hb1 (by omega)
    have HB2 := Lib.hid (HBA.out.trans (hb1.mono HBA.out.size))
    have d0 : w1.cell? ⟨w.heap.size, 0, none⟩ = some (.int .i64 0) := by rw [B0.cell]; rfl
    have d1 : w1.cell? ⟨w.heap.size, 1, none⟩ = some (.string ⟨#[]⟩) := by rw [B0.cell]; rfl
    have d2 : w1.cell? ⟨w.heap.size, 2, none⟩ = some (.int .i64 0) := by rw [B0.cell]; rfl
    have d3 : w1.cell? ⟨w.heap.size, 3, none⟩ = some (.int .i64 0) := by rw [B0.cell]; rfl
    have df : ∀ i, w1.frozen? ⟨w.heap.size, i, none⟩ = false := fun i => B0.frozen i
    clear B0 hb1 hr1
    go_wp2_with fail
    refine (rplace_at _ _ _ _ _ _ _ HR1.out HPL.out).mono ?_; rintro e w2 ⟨rfl, rfl⟩
    go_wp2_with fail
    exact bodyPost_ret (v := .tuple #[.agg #[.int .i64 1, .string t, .int .i64 0, .int .i64 a], .int .i64 0]) (by simp [results, Try.results22, go_sem, d0, d1, d2, d3]) rfl (by exact ⟨rfl, ((((HB2.out.setCell (by simp) _).setCell (by simp) _).setCell (by simp) _).setCell (by simp) _)⟩)
  · have HW : Hid (wordB t = false) := Lib.hid (HWP.out.trans (by simpa using hw))
    cases hnm : nameB t
    · have HNM := Lib.hid hnm
      clear hnm
      go_enter Try.func22, Try.ntmps22
      go_wp2_with fail
      generalize (w.alloc (.cells #[.int .i64 0, .string ⟨#[]⟩, .int .i64 0, .int .i64 0] 31)) = wb at *
      refine (rWords_any _).mono ?_; rintro e w1 ⟨rfl, hr1, hb1⟩
      have HR1 := Lib.hid hr1
      have HB0b := Lib.hid (HB0.out.below hb1 (by omega))
      have HB2 := Lib.hid (HBA.out.trans (hb1.mono HBA.out.size))
      have hs1 : w.heap.size < w1.heap.size := by have := hb1.size; omega
      clear hb1 hr1 HB0
      go_wp2_with fail
      refine (rplace_at _ _ _ _ _ _ _ HR1.out HPL.out).mono ?_; rintro e w2 ⟨rfl, rfl⟩
      go_wp2_with fail
      refine (risP_at t false _ HNM.out).mono ?_; rintro e w2 ⟨rfl, hb1⟩
      have HB0c := Lib.hid (HB0b.out.below hb1 (by omega))
      have HB3 := Lib.hid (HB2.out.trans (hb1.mono HB2.out.size))
      have hs2 : w.heap.size < w2.heap.size := by have := hb1.size; omega
      clear hb1 HB0b
      rcases HH.out with ⟨hd, g1, g2⟩ | ⟨hd, g1⟩ | ⟨hd, g1, g2⟩
      · have HN := Lib.hid (runR_dig hd)
        have hq95 : (((t[0]'ht).toNat : Int) == 95) = false := by simp; omega
        have HSM : Hid (smallB (t[0]'ht) = false) := by
          have h : smallB (t[0]'ht) = false := by unfold smallB; rw [decide_eq_false_iff_not]; omega
          exact Lib.hid h
        have HD := Lib.hid (head_at ht)
        clear hd
        go_wp2_with fail
        go_quiet ((first | (go_at_call 20; exact qleft (lxsmall_any _)) | (go_at_call 19; exact qleft (in_at _ smallS false _ (by decide) ((in_small _).trans HSM.out)))))
        have HB0d := Lib.hid (HB0c.out.drewN nq)
        have HB4 := Lib.hid (blk_dn HB3.out nq)
        have hs3 : w.heap.size < (w2.drewN nq).heap.size := hs2
        generalize w2.drewN nq = w3 at *
        clear HB0c HB3
        have d0 : w3.cell? ⟨w.heap.size, 0, none⟩ = some (.int .i64 0) := by rw [HB0d.out.cell]; rfl
        have d1 : w3.cell? ⟨w.heap.size, 1, none⟩ = some (.string ⟨#[]⟩) := by rw [HB0d.out.cell]; rfl
        have d2 : w3.cell? ⟨w.heap.size, 2, none⟩ = some (.int .i64 0) := by rw [HB0d.out.cell]; rfl
        have d3 : w3.cell? ⟨w.heap.size, 3, none⟩ = some (.int .i64 0) := by rw [HB0d.out.cell]; rfl
        have df : ∀ i, w3.frozen? ⟨w.heap.size, i, none⟩ = false := fun i => HB0d.out.frozen i
        obtain ⟨c0, hc0⟩ : ∃ c, (t[0]'ht).toNat = c := ⟨_, rfl⟩
        cases ha : t.data.toList.all digB
        · obtain ⟨rfl, rfl, rfl, rfl, rfl⟩ := HOUT.out.bad (HN.out.trans (by unfold numR; rw [ha, if_neg (by simp)])) (by decide)
          have HA := Lib.hid ha
          clear ha hc0
          go_wp2_with fail
          refine (tens_any _).mono ?_; rintro e w4 ⟨rfl, rfl⟩
          go_wp2_with fail
          refine (all_at t false _ hs HA.out).mono ?_; rintro e w4 ⟨rfl, rfl⟩
          go_wp2_with fail
          exact bodyPost_ret (v := .tuple #[.agg #[.int .i64 0, .string ⟨#[]⟩, .int .i64 0, .int .i64 0], .int .i64 6]) (by simp [results, Try.results22, go_sem, d0, d1, d2, d3]) rfl (by exact ⟨rfl, ((((HB4.out.setCell (by simp) _).setCell (by simp) _).setCell (by simp) _).setCell (by simp) _)⟩)
        · have HA := Lib.hid ha
          by_cases hz : c0 = 48 ∧ 1 < t.size
          · obtain ⟨rfl, hz2⟩ := hz
            obtain ⟨rfl, rfl, rfl, rfl, rfl⟩ := HOUT.out.bad (HN.out.trans (by unfold numR; rw [if_neg (fun h => h.2 ⟨hz2, by rw [HD.out]; exact UInt8.toNat_inj.1 hc0⟩)])) (by decide)
            have hq : (((t[0]'ht).toNat : Int) == 48) = true := by rw [hc0]; rfl
            clear ha hc0
            go_wp2_with fail
            refine (tens_any _).mono ?_; rintro e w4 ⟨rfl, rfl⟩
            go_wp2_with fail
            refine (all_at t true _ hs HA.out).mono ?_; rintro e w4 ⟨rfl, rfl⟩
            go_wp2_with fail
            exact bodyPost_ret (v := .tuple #[.agg #[.int .i64 0, .string ⟨#[]⟩, .int .i64 0, .int .i64 0], .int .i64 6]) (by simp [results, Try.results22, go_sem, d0, d1, d2, d3]) rfl (by exact ⟨rfl, ((((HB4.out.setCell (by simp) _).setCell (by simp) _).setCell (by simp) _).setCell (by simp) _)⟩)
          · have HNZ : Hid (¬ (1 < t.size ∧ t.data.toList.headD 0 = 48)) := by
                have h : ¬ (1 < t.size ∧ t.data.toList.headD 0 = 48) := fun h => hz ⟨by rw [← hc0, ← HD.out, h.2]; rfl, h.1⟩
                exact Lib.hid h
            have hq : ((((t[0]'ht).toNat : Int) == 48) = false ∧ 1 < (t.size : Int)) ∨ ¬ (1 < (t.size : Int)) := by
              by_cases h : 1 < t.size
              · exact .inl ⟨by simp; omega, by omega⟩
              · exact .inr (by omega)
            clear hz hc0
            by_cases h9 : 9 < t.size
            · obtain ⟨rfl, rfl, rfl, rfl, rfl⟩ := HOUT.out.bad (HN.out.trans (by unfold numR; rw [if_pos ⟨ha, HNZ.out⟩, if_pos h9])) (by decide)
              clear ha
              rcases hq with ⟨hq, hq2⟩ | hq2
              · go_wp2_with fail
                refine (tens_any _).mono ?_; rintro e w4 ⟨rfl, rfl⟩
                go_wp2_with fail
                refine (all_at t true _ hs HA.out).mono ?_; rintro e w4 ⟨rfl, rfl⟩
                go_wp2_with fail
                exact bodyPost_ret (v := .tuple #[.agg #[.int .i64 0, .string ⟨#[]⟩, .int .i64 0, .int .i64 0], .int .i64 4]) (by simp [results, Try.results22, go_sem, d0, d1, d2, d3]) rfl (by exact ⟨rfl, ((((HB4.out.setCell (by simp) _).setCell (by simp) _).setCell (by simp) _).setCell (by simp) _)⟩)
              · omega
            · obtain ⟨rfl, rfl, HN1, rfl, rfl⟩ := HOUT.out.good (HN.out.trans (by unfold numR; rw [if_pos ⟨ha, HNZ.out⟩, if_neg h9]))
              have HH2 := Lib.hid HN1
              have h9' : t.size ≤ 9 := by omega
              clear ha HN1 h9
              rcases hq with ⟨hq, hq2⟩ | hq2
              all_goals
                go_wp2_with fail
                refine (tens_any _).mono ?_; rintro e w4 ⟨rfl, rfl⟩
                go_wp2_with fail
                refine (all_at t true _ hs HA.out).mono ?_; rintro e w4 ⟨rfl, rfl⟩
                go_wp2_with fail
                go_loopg [6, 7] t.size (fun g x u wr => w3 = wr ∧ ∃ k : Nat, k + g = t.size ∧ u = .int .i64 k ∧ x = .int .i64 (numS (t.data.toList.take k)))
                case atStart => exact ⟨rfl, 0, by omega, rfl, rfl⟩
                case round =>
                  obtain ⟨rfl, j, hj, rfl, rfl⟩ := hrel
                  have HJ2 := Lib.hid hj
                  clear hj
                  by_cases hlt2 : j < t.size
                  · have b1 := numS_bd (t.data.toList.take j) (fun c hc => List.all_eq_true.1 HA.out c (List.mem_of_mem_take hc))
                    have b2 : (10 : Int) ^ (t.data.toList.take j).length ≤ 10 ^ 8 := by
                      have h8 : (t.data.toList.take j).length ≤ 8 := by rw [List.length_take]; omega
                      have := Nat.pow_le_pow_right (n := 10) (by decide) h8
                      have e : ((10 ^ (t.data.toList.take j).length : Nat) : Int) = 10 ^ (t.data.toList.take j).length := by rw [Int.natCast_pow]; rfl
                      omega
                    obtain ⟨b3, b4⟩ := b1
                    have HS := Lib.hid (numS_snoc (t.data.toList.take j) (t[j]'hlt2))
                    have b5 : numS (t.data.toList.take j) < 100000000 := by omega
                    obtain ⟨m, hm⟩ : ∃ m, numS (t.data.toList.take j) = m := ⟨_, rfl⟩
                    rw [hm] at b3 b5
                    have HM := Lib.hid hm
                    have a1 : 48 ≤ ((t[j]'hlt2).toNat : Int) := by have he := all_iff.1 HA.out j hlt2; unfold digB at he; rw [decide_eq_true_eq] at he; omega
                    have a2 : ((t[j]'hlt2).toNat : Int) ≤ 57 := by have he := all_iff.1 HA.out j hlt2; unfold digB at he; rw [decide_eq_true_eq] at he; omega
                    rw [hm]
                    clear b2 b4 hm
                    go_wp2_with fail
                    go_roundg (gk - 1)
                    case measure => have := HJ2.out; omega
                    case rel => exact ⟨rfl, j + 1, by have := HJ2.out; omega, by go_num, congrArg (Value.int .i64) (by rw [takeB_snoc hlt2, HS.out, HM.out]; omega)⟩
                  · have e1 : t.data.toList.take j = t.data.toList := List.take_of_length_le (by have := HJ2.out; simp; omega)
                    rw [e1, ← HH2.out]
                    clear e1
                    go_wp2_with fail
                    exact bodyPost_ret (v := .tuple #[.agg #[.int .i64 3, .string t, .int .i64 n1, .int .i64 a], .int .i64 0]) (by simp [results, Try.results22, go_sem, d0, d1, d2, d3]) rfl (by exact ⟨rfl, ((((HB4.out.setCell (by simp) _).setCell (by simp) _).setCell (by simp) _).setCell (by simp) _)⟩)
      · have HSM : Hid (smallB (t[0]'ht) = false) := by
          have h : smallB (t[0]'ht) = false := by unfold smallB; rw [decide_eq_false_iff_not]; omega
          exact Lib.hid h
        obtain ⟨rfl, rfl, rfl, rfl, rfl⟩ := HOUT.out.bad (runR_line HW.out hd) (by decide)
        have hq95 : (((t[0]'ht).toNat : Int) == 95) = true := by rw [g1]; rfl
        clear hd g1
        go_wp2_with fail
        go_quiet ((first | (go_at_call 20; exact qleft (lxsmall_any _)) | (go_at_call 19; exact qleft (in_at _ smallS false _ (by decide) ((in_small _).trans HSM.out)))))
        have HB0d := Lib.hid (HB0c.out.drewN nq)
        have HB4 := Lib.hid (blk_dn HB3.out nq)
        have hs3 : w.heap.size < (w2.drewN nq).heap.size := hs2
        generalize w2.drewN nq = w3 at *
        clear HB0c HB3
        go_wp2_with fail
        go_quiet ((first | (go_at_call 20; exact qleft (lxsmall_any _)) | (go_at_call 19; exact qleft (in_at _ smallS false _ (by decide) ((in_small _).trans HSM.out)))))
        have HB0e := Lib.hid (HB0d.out.drewN nq)
        have HB5 := Lib.hid (blk_dn HB4.out nq)
        generalize w3.drewN nq = w4 at *
        have d0 : w4.cell? ⟨w.heap.size, 0, none⟩ = some (.int .i64 0) := by rw [HB0e.out.cell]; rfl
        have d1 : w4.cell? ⟨w.heap.size, 1, none⟩ = some (.string ⟨#[]⟩) := by rw [HB0e.out.cell]; rfl
        have d2 : w4.cell? ⟨w.heap.size, 2, none⟩ = some (.int .i64 0) := by rw [HB0e.out.cell]; rfl
        have d3 : w4.cell? ⟨w.heap.size, 3, none⟩ = some (.int .i64 0) := by rw [HB0e.out.cell]; rfl
        have df : ∀ i, w4.frozen? ⟨w.heap.size, i, none⟩ = false := fun i => HB0e.out.frozen i
        go_wp2_with fail
        exact bodyPost_ret (v := .tuple #[.agg #[.int .i64 0, .string ⟨#[]⟩, .int .i64 0, .int .i64 0], .int .i64 6]) (by simp [results, Try.results22, go_sem, d0, d1, d2, d3]) rfl (by exact ⟨rfl, ((((HB5.out.setCell (by simp) _).setCell (by simp) _).setCell (by simp) _).setCell (by simp) _)⟩)
      · have HSM : Hid (smallB (t[0]'ht) = true) := by
          have h : smallB (t[0]'ht) = true := by unfold smallB; rw [decide_eq_true_eq]; omega
          exact Lib.hid h
        have h16 : 16 < t.size := Nat.lt_of_not_le (fun h16 => by
          have := name_of ht HR.out hd h16 HW.out
          rw [HNM.out] at this; cases this)
        obtain ⟨rfl, rfl, rfl, rfl, rfl⟩ := HOUT.out.bad (runR_long HW.out hd h16) (by decide)
        clear hd
        go_wp2_with fail
        go_quiet ((first | (go_at_call 20; exact qleft (lxsmall_any _)) | (go_at_call 19; exact qleft (in_at _ smallS true _ (by decide) ((in_small _).trans HSM.out)))))
        have HB0d := Lib.hid (HB0c.out.drewN nq)
        have HB4 := Lib.hid (blk_dn HB3.out nq)
        have hs3 : w.heap.size < (w2.drewN nq).heap.size := hs2
        generalize w2.drewN nq = w3 at *
        clear HB0c HB3
        go_wp2_with fail
        go_quiet ((first | (go_at_call 20; exact qleft (lxsmall_any _)) | (go_at_call 19; exact qleft (in_at _ smallS true _ (by decide) ((in_small _).trans HSM.out)))))
        have HB0e := Lib.hid (HB0d.out.drewN nq)
        have HB5 := Lib.hid (blk_dn HB4.out nq)
        generalize w3.drewN nq = w4 at *
        have d0 : w4.cell? ⟨w.heap.size, 0, none⟩ = some (.int .i64 0) := by rw [HB0e.out.cell]; rfl
        have d1 : w4.cell? ⟨w.heap.size, 1, none⟩ = some (.string ⟨#[]⟩) := by rw [HB0e.out.cell]; rfl
        have d2 : w4.cell? ⟨w.heap.size, 2, none⟩ = some (.int .i64 0) := by rw [HB0e.out.cell]; rfl
        have d3 : w4.cell? ⟨w.heap.size, 3, none⟩ = some (.int .i64 0) := by rw [HB0e.out.cell]; rfl
        have df : ∀ i, w4.frozen? ⟨w.heap.size, i, none⟩ = false := fun i => HB0e.out.frozen i
        go_wp2_with fail
        exact bodyPost_ret (v := .tuple #[.agg #[.int .i64 0, .string ⟨#[]⟩, .int .i64 0, .int .i64 0], .int .i64 4]) (by simp [results, Try.results22, go_sem, d0, d1, d2, d3]) rfl (by exact ⟨rfl, ((((HB5.out.setCell (by simp) _).setCell (by simp) _).setCell (by simp) _).setCell (by simp) _)⟩)
    · have hnp := nameB_is hnm
      have h16 := hnp.2.1
      have hsm : smallB (t.data.toList.headD 0) = true := by rw [head_at ht]; unfold smallB; rw [decide_eq_true_eq]; exact hnp.2.2.1 ht
      obtain ⟨rfl, rfl, rfl, rfl, rfl⟩ := HOUT.out.good (runR_name HW.out hsm h16)
      have HNM := Lib.hid hnm
      clear hnm hsm hnp
      go_enter Try.func22, Try.ntmps22
      go_wp2_with fail
      generalize (w.alloc (.cells #[.int .i64 0, .string ⟨#[]⟩, .int .i64 0, .int .i64 0] 31)) = wb at *
      refine (rWords_any _).mono ?_; rintro e w1 ⟨rfl, hr1, hb1⟩
      have HR1 := Lib.hid hr1
      have HB0b := Lib.hid (HB0.out.below hb1 (by omega))
      have HB2 := Lib.hid (HBA.out.trans (hb1.mono HBA.out.size))
      have hs1 : w.heap.size < w1.heap.size := by have := hb1.size; omega
      clear hb1 hr1 HB0
      go_wp2_with fail
      refine (rplace_at _ _ _ _ _ _ _ HR1.out HPL.out).mono ?_; rintro e w2 ⟨rfl, rfl⟩
      go_wp2_with fail
      refine (risP_at t true _ HNM.out).mono ?_; rintro e w2 ⟨rfl, hb1⟩
      have B0 := HB0b.out.below hb1 (by omega)
      have HB3 := Lib.hid (HB2.out.trans (hb1.mono HB2.out.size))
      have d0 : w2.cell? ⟨w.heap.size, 0, none⟩ = some (.int .i64 0) := by rw [B0.cell]; rfl
      have d1 : w2.cell? ⟨w.heap.size, 1, none⟩ = some (.string ⟨#[]⟩) := by rw [B0.cell]; rfl
      have d2 : w2.cell? ⟨w.heap.size, 2, none⟩ = some (.int .i64 0) := by rw [B0.cell]; rfl
      have d3 : w2.cell? ⟨w.heap.size, 3, none⟩ = some (.int .i64 0) := by rw [B0.cell]; rfl
      have df : ∀ i, w2.frozen? ⟨w.heap.size, i, none⟩ = false := fun i => B0.frozen i
      clear B0 hb1
      go_wp2_with fail
      exact bodyPost_ret (v := .tuple #[.agg #[.int .i64 2, .string t, .int .i64 0, .int .i64 a], .int .i64 0]) (by simp [results, Try.results22, go_sem, d0, d1, d2, d3]) rfl (by exact ⟨rfl, ((((HB3.out.setCell (by simp) _).setCell (by simp) _).setCell (by simp) _).setCell (by simp) _)⟩)
end Go.Proofs.Ytaofjnidniekjaa
