/- Contract of lex.run: the token of a run. Conditions: the text is a run: it is not empty, and all its bytes are a run's. -/
import Derived.Test.YtaofjnidniekjaaLexB
namespace Go.Proofs.Ytaofjnidniekjaa
open Go.RowKit

theorem words_small : ∀ x ∈ wordList, smallB (x.data.toList.headD 0) = true := by decide
theorem word_head {t : ByteArray} (h : wordB t = true) : smallB (t.data.toList.headD 0) = true := by
  unfold wordB at h
  rw [decide_eq_true_eq, place_mem] at h
  exact words_small t h
theorem name_of {t : ByteArray} (h0 : 0 < t.size) (hr : t.data.toList.all runB = true) (hs : smallB (t.data.toList.headD 0) = true) (h16 : t.size ≤ 16) (hw : wordB t = false) : nameB t = true := by
  refine nameB_yes ⟨h0, h16, fun h => ?_, fun i hi => ?_, hw⟩
  · rw [head_at h0] at hs
    unfold smallB at hs
    rw [decide_eq_true_eq] at hs
    exact hs
  · have := all_iff.1 hr i hi
    unfold runB at this
    rw [decide_eq_true_eq] at this
    exact this

theorem runR_dig {t : ByteArray} (h : digB (t.data.toList.headD 0) = true) : runR t = numR t := by
  have h1 : smallB (t.data.toList.headD 0) = false := by
    unfold digB at h; unfold smallB
    rw [decide_eq_true_eq] at h; rw [decide_eq_false_iff_not]; omega
  have h2 : wordB t = false := by
    cases hw : wordB t
    · rfl
    · rw [word_head hw] at h1; cases h1
  have h3 : ¬ (t.data.toList.headD 0 = 95) := by
    intro e; rw [e] at h; exact absurd h (by decide)
  unfold runR numR
  rw [h2, h1, if_neg (by decide), if_neg (fun h => h.elim (fun h => absurd h (by decide)) h3)]
theorem runR_word {t : ByteArray} (h : wordB t = true) : runR t = (0, 1, 0) := by
  unfold runR; rw [if_pos h]
theorem runR_line {t : ByteArray} (h : wordB t = false) (h2 : t.data.toList.headD 0 = 95) : runR t = (6, 0, 0) := by
  unfold runR; rw [h, h2, if_neg (by decide), if_pos (.inr rfl), if_neg (fun e => absurd e.1 (by decide)), if_neg (by decide)]
theorem runR_long {t : ByteArray} (h : wordB t = false) (h2 : smallB (t.data.toList.headD 0) = true) (h3 : 16 < t.size) : runR t = (4, 0, 0) := by
  unfold runR; rw [h, if_neg (by decide), if_pos (.inl h2), if_pos ⟨h2, h3⟩]
theorem runR_name {t : ByteArray} (h : wordB t = false) (h2 : smallB (t.data.toList.headD 0) = true) (h3 : t.size ≤ 16) : runR t = (0, 2, 0) := by
  unfold runR; rw [h, if_neg (by decide), if_pos (.inl h2), if_neg (fun e => by have := e.2; omega), if_pos h2]

theorem head_cases {t : ByteArray} (h0 : 0 < t.size) (hr : t.data.toList.all runB = true) :
    (digB (t.data.toList.headD 0) = true ∧ 48 ≤ (t[0].toNat : Int) ∧ (t[0].toNat : Int) ≤ 57) ∨ (t.data.toList.headD 0 = 95 ∧ t[0].toNat = 95) ∨ (smallB (t.data.toList.headD 0) = true ∧ 97 ≤ (t[0].toNat : Int) ∧ (t[0].toNat : Int) ≤ 122) := by
  have := all_iff.1 hr 0 h0
  rw [head_at h0]
  unfold runB at this
  rw [decide_eq_true_eq] at this
  rcases this with h | h | h
  · exact .inr (.inr ⟨by unfold smallB; rw [decide_eq_true_eq]; exact h, by omega, by omega⟩)
  · exact .inl ⟨by unfold digB; rw [decide_eq_true_eq]; exact h, by omega, by omega⟩
  · exact .inr (.inl ⟨UInt8.toNat_inj.1 h, h⟩)

theorem wordP_at (s : ByteArray) (b : Bool) (w : World) (h : wordB s = b) : Calls Try.prog 42 #[.string s] w fun e w' => e = .returned (.bool b) ∧ Below w.heap.size w w' := by
  rw [← h]; exact nmword_any s w
theorem nameP_at (s : ByteArray) (b : Bool) (w : World) (h : nameB s = b) : Calls Try.prog 43 #[.string s] w fun e w' => e = .returned (.bool b) ∧ Below w.heap.size w w' := by
  rw [← h]; exact pis_any s w

set_option maxHeartbeats 400000 in
theorem lrun_at (a er k1 n1 a1 : Int) (t t1 : ByteArray) (w : World) (ht : 0 < t.size) (hs : t.size ≤ 9223372036854775807) (hr : t.data.toList.all runB = true) (ho : TokOut (runR t) t a er k1 n1 a1 t1) :
    Calls Try.prog 18 #[.string t, .int .i64 a] w (RetTok w er k1 n1 a1 t1) := by
  have HOUT := Lib.hid ho
  have HR := Lib.hid hr
  have hhc := head_cases ht hr
  clear ho hr
  have HBA : Hid (Below w.heap.size w ((w.alloc (.cells #[.int .i64 0, .string ⟨#[]⟩, .int .i64 0, .int .i64 0] 30)).alloc (.cells #[.int .i64 2, .string t, .int .i64 0, .int .i64 a] 30))) := Lib.hid (((Below.refl _ _).alloc (Nat.le_refl _) _).alloc (by simp) _)
  have HB0 : Hid (Blk ((w.alloc (.cells #[.int .i64 0, .string ⟨#[]⟩, .int .i64 0, .int .i64 0] 30)).alloc (.cells #[.int .i64 2, .string t, .int .i64 0, .int .i64 a] 30)) w.heap.size 30 #[.int .i64 0, .string ⟨#[]⟩, .int .i64 0, .int .i64 0]) := Lib.hid ((Blk.new _ _ _).alloc _)
  have HB1 : Hid (Blk ((w.alloc (.cells #[.int .i64 0, .string ⟨#[]⟩, .int .i64 0, .int .i64 0] 30)).alloc (.cells #[.int .i64 2, .string t, .int .i64 0, .int .i64 a] 30)) (w.heap.size + 1) 30 #[.int .i64 2, .string t, .int .i64 0, .int .i64 a]) := by
    have h := Blk.new (w.alloc (.cells #[.int .i64 0, .string ⟨#[]⟩, .int .i64 0, .int .i64 0] 30)) 30 #[.int .i64 2, .string t, .int .i64 0, .int .i64 a]
    exact Lib.hid (by simpa using h)
  have hsz : w.heap.size + 1 < ((w.alloc (.cells #[.int .i64 0, .string ⟨#[]⟩, .int .i64 0, .int .i64 0] 30)).alloc (.cells #[.int .i64 2, .string t, .int .i64 0, .int .i64 a] 30)).heap.size := by simp
  rcases hhc with ⟨hd, g1, g2⟩ | ⟨hd, g1⟩ | ⟨hd, g1, g2⟩
  · have HN := Lib.hid (runR_dig hd)
    clear hd
    go_enter Try.func18, Try.ntmps18
    go_wp2_with fail
    generalize ((w.alloc (.cells #[.int .i64 0, .string ⟨#[]⟩, .int .i64 0, .int .i64 0] 30)).alloc (.cells #[.int .i64 2, .string t, .int .i64 0, .int .i64 a] 30)) = wb at *
    refine (number_at 2 a er k1 n1 a1 t t1 _ ht hs (by have h := HOUT.out; rw [HN.out] at h; exact h)).mono ?_; rintro e w1 ⟨rfl, hb1⟩
    have B0 := HB0.out.below hb1 (by omega)
    have HB2 := Lib.hid (HBA.out.trans (hb1.mono HBA.out.size))
    have d0 : w1.cell? ⟨w.heap.size, 0, none⟩ = some (.int .i64 0) := by rw [B0.cell]; rfl
    have d1 : w1.cell? ⟨w.heap.size, 1, none⟩ = some (.string ⟨#[]⟩) := by rw [B0.cell]; rfl
    have d2 : w1.cell? ⟨w.heap.size, 2, none⟩ = some (.int .i64 0) := by rw [B0.cell]; rfl
    have d3 : w1.cell? ⟨w.heap.size, 3, none⟩ = some (.int .i64 0) := by rw [B0.cell]; rfl
    have df : ∀ i, w1.frozen? ⟨w.heap.size, i, none⟩ = false := fun i => B0.frozen i
    clear B0 hb1
    go_wp2_with fail
    exact bodyPost_ret (v := .tuple #[.agg #[.int .i64 k1, .string t1, .int .i64 n1, .int .i64 a1], .int .i64 er]) (by simp [results, Try.results18, go_sem, d0, d1, d2, d3]) rfl (by exact ⟨rfl, ((((HB2.out.setCell (by simp) _).setCell (by simp) _).setCell (by simp) _).setCell (by simp) _)⟩)
  · have hne : ¬ (((t[0]'ht).toNat : Int) ≤ 57) := by omega
    have hd57 : decide (((t[0]'ht).toNat : Int) ≤ 57) = false := by simpa using hne
    have hq95 : (((t[0]'ht).toNat : Int) == 95) = true := by rw [g1]; rfl
    have g48 : 48 ≤ ((t[0]'ht).toNat : Int) := by omega
    have HW : Hid (wordB t = false) := by
      have h : wordB t = false := by
        cases hw : wordB t
        · rfl
        · have := word_head hw; rw [hd] at this; exact absurd this (by decide)
      exact Lib.hid h
    obtain ⟨rfl, rfl, rfl, rfl, rfl⟩ := HOUT.out.bad (runR_line HW.out hd) (by decide)
    clear hd g1
    go_enter Try.func18, Try.ntmps18
    go_wp2_with fail
    generalize ((w.alloc (.cells #[.int .i64 0, .string ⟨#[]⟩, .int .i64 0, .int .i64 0] 30)).alloc (.cells #[.int .i64 2, .string t, .int .i64 0, .int .i64 a] 30)) = wb at *
    refine (wordP_at t false _ HW.out).mono ?_; rintro e w1 ⟨rfl, hb1⟩
    have B0 := HB0.out.below hb1 (by omega)
    have HB2 := Lib.hid (HBA.out.trans (hb1.mono HBA.out.size))
    have d0 : w1.cell? ⟨w.heap.size, 0, none⟩ = some (.int .i64 0) := by rw [B0.cell]; rfl
    have d1 : w1.cell? ⟨w.heap.size, 1, none⟩ = some (.string ⟨#[]⟩) := by rw [B0.cell]; rfl
    have d2 : w1.cell? ⟨w.heap.size, 2, none⟩ = some (.int .i64 0) := by rw [B0.cell]; rfl
    have d3 : w1.cell? ⟨w.heap.size, 3, none⟩ = some (.int .i64 0) := by rw [B0.cell]; rfl
    have df : ∀ i, w1.frozen? ⟨w.heap.size, i, none⟩ = false := fun i => B0.frozen i
    clear B0 hb1
    go_wp2_with fail
    exact bodyPost_ret (v := .tuple #[.agg #[.int .i64 0, .string ⟨#[]⟩, .int .i64 0, .int .i64 0], .int .i64 6]) (by simp [results, Try.results18, go_sem, d0, d1, d2, d3]) rfl (by exact ⟨rfl, ((((HB2.out.setCell (by simp) _).setCell (by simp) _).setCell (by simp) _).setCell (by simp) _)⟩)
  · have hd57 : decide (((t[0]'ht).toNat : Int) ≤ 57) = false := by simp; omega
    have hq95 : (((t[0]'ht).toNat : Int) == 95) = false := by simp; omega
    have g48 : 48 ≤ ((t[0]'ht).toNat : Int) := by omega
    have HD := Lib.hid hd
    clear hd
    cases hw : wordB t
    · have HW := Lib.hid hw
      clear hw
      by_cases h16 : 16 < t.size
      · obtain ⟨rfl, rfl, rfl, rfl, rfl⟩ := HOUT.out.bad (runR_long HW.out HD.out h16) (by decide)
        go_enter Try.func18, Try.ntmps18
        go_wp2_with fail
        generalize ((w.alloc (.cells #[.int .i64 0, .string ⟨#[]⟩, .int .i64 0, .int .i64 0] 30)).alloc (.cells #[.int .i64 2, .string t, .int .i64 0, .int .i64 a] 30)) = wb at *
        refine (wordP_at t false _ HW.out).mono ?_; rintro e w1 ⟨rfl, hb1⟩
        have B0 := HB0.out.below hb1 (by omega)
        have HB2 := Lib.hid (HBA.out.trans (hb1.mono HBA.out.size))
        have d0 : w1.cell? ⟨w.heap.size, 0, none⟩ = some (.int .i64 0) := by rw [B0.cell]; rfl
        have d1 : w1.cell? ⟨w.heap.size, 1, none⟩ = some (.string ⟨#[]⟩) := by rw [B0.cell]; rfl
        have d2 : w1.cell? ⟨w.heap.size, 2, none⟩ = some (.int .i64 0) := by rw [B0.cell]; rfl
        have d3 : w1.cell? ⟨w.heap.size, 3, none⟩ = some (.int .i64 0) := by rw [B0.cell]; rfl
        have df : ∀ i, w1.frozen? ⟨w.heap.size, i, none⟩ = false := fun i => B0.frozen i
        clear B0 hb1
        go_wp2_with fail
        exact bodyPost_ret (v := .tuple #[.agg #[.int .i64 0, .string ⟨#[]⟩, .int .i64 0, .int .i64 0], .int .i64 4]) (by simp [results, Try.results18, go_sem, d0, d1, d2, d3]) rfl (by exact ⟨rfl, ((((HB2.out.setCell (by simp) _).setCell (by simp) _).setCell (by simp) _).setCell (by simp) _)⟩)
      · obtain ⟨rfl, rfl, rfl, rfl, rfl⟩ := HOUT.out.good (runR_name HW.out HD.out (by omega))
        have HNM := Lib.hid (name_of ht HR.out HD.out (by omega) HW.out)
        go_enter Try.func18, Try.ntmps18
        go_wp2_with fail
        generalize ((w.alloc (.cells #[.int .i64 0, .string ⟨#[]⟩, .int .i64 0, .int .i64 0] 30)).alloc (.cells #[.int .i64 2, .string t, .int .i64 0, .int .i64 a] 30)) = wb at *
        refine (wordP_at t false _ HW.out).mono ?_; rintro e w1 ⟨rfl, hb1⟩
        have HB0b := Lib.hid (HB0.out.below hb1 (by omega))
        have HB1b := Lib.hid (HB1.out.below hb1 (by omega))
        have HB2 := Lib.hid (HBA.out.trans (hb1.mono HBA.out.size))
        have hs1 : w.heap.size + 1 < w1.heap.size := by have := hb1.size; omega
        clear hb1 HB0 HB1
        go_wp2_with fail
        refine (nameP_at t true _ HNM.out).mono ?_; rintro e w2 ⟨rfl, hb1⟩
        have B0 := HB0b.out.below hb1 (by omega)
        have B1 := HB1b.out.below hb1 (by omega)
        have HB3 := Lib.hid (HB2.out.trans (hb1.mono HB2.out.size))
        have d0 : w2.cell? ⟨w.heap.size, 0, none⟩ = some (.int .i64 0) := by rw [B0.cell]; rfl
        have d1 : w2.cell? ⟨w.heap.size, 1, none⟩ = some (.string ⟨#[]⟩) := by rw [B0.cell]; rfl
        have d2 : w2.cell? ⟨w.heap.size, 2, none⟩ = some (.int .i64 0) := by rw [B0.cell]; rfl
        have d3 : w2.cell? ⟨w.heap.size, 3, none⟩ = some (.int .i64 0) := by rw [B0.cell]; rfl
        have c0 : w2.cell? ⟨w.heap.size + 1, 0, none⟩ = some (.int .i64 2) := by rw [B1.cell]; rfl
        have c1 : w2.cell? ⟨w.heap.size + 1, 1, none⟩ = some (.string t) := by rw [B1.cell]; rfl
        have c2 : w2.cell? ⟨w.heap.size + 1, 2, none⟩ = some (.int .i64 0) := by rw [B1.cell]; rfl
        have c3 : w2.cell? ⟨w.heap.size + 1, 3, none⟩ = some (.int .i64 a) := by rw [B1.cell]; rfl
        have df : ∀ i, w2.frozen? ⟨w.heap.size, i, none⟩ = false := fun i => B0.frozen i
        clear B0 B1 hb1
        go_wp2_with fail
        exact bodyPost_ret (v := .tuple #[.agg #[.int .i64 2, .string t, .int .i64 0, .int .i64 a], .int .i64 0]) (by simp [results, Try.results18, go_sem, d0, d1, d2, d3]) rfl (by exact ⟨rfl, ((((HB3.out.setCell (by simp) _).setCell (by simp) _).setCell (by simp) _).setCell (by simp) _)⟩)
    · have HW := Lib.hid hw
      clear hw
      obtain ⟨rfl, rfl, rfl, rfl, rfl⟩ := HOUT.out.good (runR_word HW.out)
      go_enter Try.func18, Try.ntmps18
      go_wp2_with fail
      generalize ((w.alloc (.cells #[.int .i64 0, .string ⟨#[]⟩, .int .i64 0, .int .i64 0] 30)).alloc (.cells #[.int .i64 2, .string t, .int .i64 0, .int .i64 a] 30)) = wb at *
      refine (wordP_at t true _ HW.out).mono ?_; rintro e w2 ⟨rfl, hb1⟩
      have B0 := HB0.out.below hb1 (by omega)
      have B1 := HB1.out.below hb1 (by omega)
      have HB3 := Lib.hid (HBA.out.trans (hb1.mono HBA.out.size))
      have d0 : w2.cell? ⟨w.heap.size, 0, none⟩ = some (.int .i64 0) := by rw [B0.cell]; rfl
      have d1 : w2.cell? ⟨w.heap.size, 1, none⟩ = some (.string ⟨#[]⟩) := by rw [B0.cell]; rfl
      have d2 : w2.cell? ⟨w.heap.size, 2, none⟩ = some (.int .i64 0) := by rw [B0.cell]; rfl
      have d3 : w2.cell? ⟨w.heap.size, 3, none⟩ = some (.int .i64 0) := by rw [B0.cell]; rfl
      have c0 : w2.cell? ⟨w.heap.size + 1, 0, none⟩ = some (.int .i64 2) := by rw [B1.cell]; rfl
      have c1 : w2.cell? ⟨w.heap.size + 1, 1, none⟩ = some (.string t) := by rw [B1.cell]; rfl
      have c2 : w2.cell? ⟨w.heap.size + 1, 2, none⟩ = some (.int .i64 0) := by rw [B1.cell]; rfl
      have c3 : w2.cell? ⟨w.heap.size + 1, 3, none⟩ = some (.int .i64 a) := by rw [B1.cell]; rfl
      have df : ∀ i, w2.frozen? ⟨w.heap.size, i, none⟩ = false := fun i => B0.frozen i
      have cf : ∀ i, w2.frozen? ⟨w.heap.size + 1, i, none⟩ = false := fun i => B1.frozen i
      clear B0 B1 hb1
      go_wp2_with fail
      exact bodyPost_ret (v := .tuple #[.agg #[.int .i64 1, .string t, .int .i64 0, .int .i64 a], .int .i64 0]) (by simp [results, Try.results18, go_sem, d0, d1, d2, d3]) rfl (by exact ⟨rfl, (((((HB3.out.setCell (by simp) _).setCell (by simp) _).setCell (by simp) _).setCell (by simp) _).setCell (by simp) _)⟩)
end Go.Proofs.Ytaofjnidniekjaa
