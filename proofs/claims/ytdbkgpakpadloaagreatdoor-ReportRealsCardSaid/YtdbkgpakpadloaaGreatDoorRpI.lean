/- The chapter's example of report: Line at one row, bushellaw44.awake. Conditions: the library's variables are as the row lists them. -/
import Derived.Test.YtdbkgpakpadloaaGreatDoorRpH
import Derived.Test.YtdbkgpakpadloaaGreatDoorRowG
namespace Go.Proofs.YtdbkgpakpadloaaGreatDoor
open Go.RowKit Ieee

theorem dig_text {d : Nat} (h : d < 10) : IsText (d : Int) ⟨#[UInt8.ofNat (48 + d)]⟩ := by
  have := dec_text d
  rw [Lib.decDigits, dif_pos h] at this
  exact this
theorem num_pos {d : Nat} (h : d < 10) : IsNum (d : Int) ⟨#[UInt8.ofNat (48 + d)]⟩ :=
  ⟨_, by rw [Int.natAbs_natCast]; exact dig_text h, by rw [decide_eq_false (by omega)]; exact lb_inj (by rw [lb_app]; rfl)⟩
theorem num_neg {d : Nat} (h : d < 10) (h0 : 0 < d) : IsNum (-(d : Int)) ⟨#[45, UInt8.ofNat (48 + d)]⟩ :=
  ⟨_, by rw [Int.natAbs_neg, Int.natAbs_natCast]; exact dig_text h, by rw [decide_eq_true (by omega)]; exact lb_inj (by rw [lb_app]; rfl)⟩
theorem real_15 : IsReal 4609434218613702656 ⟨#[51, 112, 45, 49]⟩ := by
  refine ⟨false, 3, -1, .inr ⟨by decide, by decide, 3, 1073, rfl, by decide, ⟨of_decide_eq_true (by kernel_rfl), by decide⟩⟩, .inr (.inr (.inr ⟨by decide, _, _, dig_text (d := 3) (by decide), num_neg (d := 1) (by decide) (by decide), ?_⟩))⟩
  exact lb_inj (by simp only [lb_app]; rfl)
theorem real_8 : IsReal 13844065254536904704 ⟨#[45, 49, 112, 51]⟩ := by
  refine ⟨true, 1, 3, .inr ⟨by decide, by decide, 1, 1077, rfl, by decide, ⟨of_decide_eq_true (by kernel_rfl), by decide⟩⟩, .inr (.inr (.inr ⟨by decide, _, _, dig_text (d := 1) (by decide), num_pos (d := 3) (by decide), ?_⟩))⟩
  exact lb_inj (by simp only [lb_app]; rfl)
theorem info_str44 : (Tryz.prog.info? 9).map (fun i => (i.zero, i.size, i.bytes)) = some (some (.string ByteArray.empty), 1, 16) := by kernel_rfl
theorem run_store_flt44 {P : Program} {w : World} {a : Addr} {m : Mode} (k : FloatKind) (b : Nat) : (store a (.float k b) m).run P w = stored P w a (.float k b) m := run_store P w a _ m rfl
attribute [local go_sem] run_store_flt44
theorem value_ex (w : World) (he : Env w) : Calls Tryz.prog 33 #[.agg #[.bool false, .int .i64 (-7), .float .f64 0]] w (RStr (fun s => s = ⟨#[45, 55]⟩) w) := by
  obtain ⟨hbx, hbw, hsz⟩ := boxed44 w 32 #[.bool false, .int .i64 (-7), .float .f64 0]
  have e0 := hbx 0
  have e1 := hbx 1
  have e2 := hbx 2
  simp only [List.getElem?_toArray, List.getElem?_cons_zero, List.getElem?_cons_succ] at e0 e1 e2
  have HF := Lib.hid (fmt_any (-7) (w.alloc (.cells #[.bool false, .int .i64 (-7), .float .f64 0] 32)) (by decide) (by decide) ((he.below hbw).1))
  have HB := Lib.hid hbw
  clear hbx hbw he
  go_enter Tryz.func33, Tryz.ntmps33
  go_upto_region 1 with fail
  generalize (w.alloc (.cells #[.bool false, .int .i64 (-7), .float .f64 0] 32)) = w1 at *
  go_wp2_with fail
  refine (HF.out).mono ?_; rintro e w2 ⟨t, rfl, ht, hb2⟩
  have HT := Lib.hid (ht.one (num_neg (d := 7) (by decide) (by decide)))
  have HB2 := Lib.hid (HB.out.trans (hb2.mono HB.out.size))
  clear ht hb2
  go_wp2_with fail
  go_ret
  exact RStr.mk HT.out HB2.out
set_option maxHeartbeats 2000000 in
theorem line_ex (g1 g2 : Nat) (w : World) (h1 : w.cell? ⟨g1, 0, none⟩ = some (.int .i64 2)) (h2 : w.cell? ⟨g2, 0, none⟩ = some (.bool false)) (h3 : w.cell? ⟨g2, 1, none⟩ = some (.int .i64 (-7))) (h4 : w.cell? ⟨g2, 2, none⟩ = some (.float .f64 0)) (he : Env w) :
    Calls Tryz.prog 10 #[.agg #[.slice (some ⟨g1, 0, none⟩) 1 1, .slice (some ⟨g2, 0, none⟩) 1 1]] w (RStr (fun s => s = ⟨#[50, 32, 45, 55]⟩) w) := by
  obtain ⟨hbx, hbw, hsz⟩ := boxed44 w 35 #[.slice (some ⟨g1, 0, none⟩) 1 1, .slice (some ⟨g2, 0, none⟩) 1 1]
  have e0 := hbx 0
  have e1 := hbx 1
  simp only [List.getElem?_toArray, List.getElem?_cons_zero, List.getElem?_cons_succ] at e0 e1
  have HE0 := Lib.hid e0
  have HE1 := Lib.hid e1
  have HC1 := Lib.hid (by rw [hbw.cell (World.block_lt_of_cell? w _ h1)]; exact h1 : (w.alloc (.cells #[.slice (some ⟨g1, 0, none⟩) 1 1, .slice (some ⟨g2, 0, none⟩) 1 1] 35)).cell? ⟨g1, 0, none⟩ = some (.int .i64 2))
  have HC2 := Lib.hid (by rw [hbw.cell (World.block_lt_of_cell? w _ h2)]; exact h2 : (w.alloc (.cells #[.slice (some ⟨g1, 0, none⟩) 1 1, .slice (some ⟨g2, 0, none⟩) 1 1] 35)).cell? ⟨g2, 0, none⟩ = some (.bool false))
  have HC3 := Lib.hid (by rw [hbw.cell (World.block_lt_of_cell? w _ h3)]; exact h3 : (w.alloc (.cells #[.slice (some ⟨g1, 0, none⟩) 1 1, .slice (some ⟨g2, 0, none⟩) 1 1] 35)).cell? ⟨g2, 1, none⟩ = some (.int .i64 (-7)))
  have HC4 := Lib.hid (by rw [hbw.cell (World.block_lt_of_cell? w _ h4)]; exact h4 : (w.alloc (.cells #[.slice (some ⟨g1, 0, none⟩) 1 1, .slice (some ⟨g2, 0, none⟩) 1 1] 35)).cell? ⟨g2, 2, none⟩ = some (.float .f64 0))
  have HE := Lib.hid (he.below hbw)
  have HBW := Lib.hid hbw
  have HLT : Hid (w.heap.size < (w.alloc (.cells #[.slice (some ⟨g1, 0, none⟩) 1 1, .slice (some ⟨g2, 0, none⟩) 1 1] 35)).heap.size) := Lib.hid (by rw [hsz]; omega)
  obtain ⟨B1, hB1⟩ : ∃ l, [Value.string ⟨#[50]⟩] = l := ⟨_, rfl⟩
  obtain ⟨B2, hB2⟩ : ∃ l, [Value.string ⟨#[45, 55]⟩] = l := ⟨_, rfl⟩
  have HL1 := Lib.hid hB1
  have HL2 := Lib.hid hB2
  clear hbx hbw hsz h1 h2 h3 h4 he e0 e1 hB1 hB2
  go_enter Tryz.func10, Tryz.ntmps10
  go_upto_region 1 with fail
  generalize (w.alloc (.cells #[.slice (some ⟨g1, 0, none⟩) 1 1, .slice (some ⟨g2, 0, none⟩) 1 1] 35)) = w0 at *
  have e0 := HE0.out
  go_wp2_with fail
  clear e0
  go_loopg [3, 11] 1 (fun q v iu wr => ∃ i : Nat, iu = .int .i64 i ∧ i + q = 1 ∧ wr.ownsRow w0.heap.size 9 1 v i (B1.take i) ∧ Below w0.heap.size w0 wr)
  case atStart => exact ⟨0, rfl, by omega, World.ownsRow_nil _ _ _ _, Below.refl _ _⟩
  case round =>
    obtain ⟨i, rfl, hq, hown, hb⟩ := hrel
    have HOW := Lib.hid hown
    have HB := Lib.hid hb
    clear hown hb
    rcases Nat.lt_or_ge i 1 with hlt | hlt
    · obtain rfl : i = 0 := by omega
      obtain rfl : gk = 1 := by omega
      have c0 : wr.cell? ⟨g1, 0, none⟩ = some (.int .i64 2) := by rw [HB.out.cell (World.block_lt_of_cell? w0 _ HC1.out)]; exact HC1.out
      have HI := Lib.hid (itoa_any 2 wr (by decide) (by decide) ((HE.out.below HB.out).1))
      clear hq
      go_wp2_with fail
      refine (HI.out).mono ?_; rintro e w2 ⟨t, rfl, ht, hb2⟩
      obtain rfl := ht.one (num_pos (d := 2) (by decide))
      have HB2 := Lib.hid (HB.out.trans (hb2.mono HB.out.size))
      have HOW2 := Lib.hid (own_below HOW.out hb2 (Nat.le_refl _))
      have HSZ := Lib.hid HB2.out.size
      clear ht hb2 c0
      go_wp2_with (at_builtin; refine wpList_append_oneG (z := .string ByteArray.empty) (sz := 1) (bytes := 16) info_str44 rfl (by decide) Tryz.underlying69 rfl _ _ rfl w2 _ #[.string ⟨#[50]⟩] w0.heap.size u3 0 (B1.take 0) w2.heap.size rfl rfl rfl rfl HOW2.out (fun u hu => by simp at hu; subst hu; rfl) (by decide) (by decide) HSZ.out ?_)
      intro v' w3 h2 h3 h4
      have HOW3 : Hid (w3.ownsRow w0.heap.size 9 1 v' 1 (B1.take 1)) := Lib.hid (by rw [← HL1.out] at *; exact h2)
      have HB3 := Lib.hid (h4 w0 HB2.out)
      clear h2 h3 h4
      go_wp2_with fail
      go_roundg 0
      case measure => omega
      case rel => exact ⟨1, by go_num, by omega, HOW3.out, HB3.out⟩
    · obtain rfl : i = 1 := by omega
      have e1 : wr.cell? ⟨w.heap.size, 1, none⟩ = some (.slice (some ⟨g2, 0, none⟩) 1 1) := by rw [HB.out.cell (World.block_lt_of_cell? w0 _ HE1.out)]; exact HE1.out
      clear hlt hq
      go_wp2_with fail
      clear e1
      go_loopg [3, 24] 1 (fun q v iu wx => ∃ i : Nat, iu = .int .i64 i ∧ i + q = 1 ∧ wx.ownsRow w0.heap.size 9 1 v (1 + i) (B1.take 1 ++ B2.take i) ∧ Below w0.heap.size w0 wx)
      case atStart => exact ⟨0, rfl, by omega, by rw [List.take_zero, List.append_nil]; exact HOW.out, HB.out⟩
      case round =>
        obtain ⟨i, rfl, hq, hown, hb⟩ := hrel
        clear HOW HB
        rcases Nat.lt_or_ge i 1 with hlt | hlt
        · obtain rfl : i = 0 := by omega
          obtain rfl : gk = 1 := by omega
          have c0 : wr.cell? ⟨g2, 0, none⟩ = some (.bool false) := by rw [hb.cell (World.block_lt_of_cell? w0 _ HC2.out)]; exact HC2.out
          have c1 : wr.cell? ⟨g2, 1, none⟩ = some (.int .i64 (-7)) := by rw [hb.cell (World.block_lt_of_cell? w0 _ HC3.out)]; exact HC3.out
          have c2 : wr.cell? ⟨g2, 2, none⟩ = some (.float .f64 0) := by rw [hb.cell (World.block_lt_of_cell? w0 _ HC4.out)]; exact HC4.out
          obtain ⟨hbx, hbw, hsz⟩ := boxed44 wr 32 #[.bool false, .int .i64 (-7), .float .f64 0]
          have e0 := hbx 0
          have e1 := hbx 1
          have e2 := hbx 2
          simp only [List.getElem?_toArray, List.getElem?_cons_zero, List.getElem?_cons_succ] at e0 e1 e2
          have HB1 := Lib.hid (hb.trans (hbw.mono hb.size))
          have HOW1 := Lib.hid (own_below hown hbw (Nat.le_refl _))
          have HV := Lib.hid (value_ex (wr.alloc (.cells #[.bool false, .int .i64 (-7), .float .f64 0] 32)) (HE.out.below HB1.out))
          clear hbx hbw hsz hq hown hb
          go_wp2_with fail
          refine (HV.out).mono ?_; rintro e w2 ⟨t, rfl, rfl, hb2⟩
          have HB2 := Lib.hid (HB1.out.trans (hb2.mono HB1.out.size))
          have HOW2 := Lib.hid (own_below HOW1.out hb2 (Nat.le_refl _))
          have HSZ := Lib.hid HB2.out.size
          clear hb2 c0 c1 c2 e0 e1 e2
          go_wp2_with (at_builtin; refine wpList_append_oneG (z := .string ByteArray.empty) (sz := 1) (bytes := 16) info_str44 rfl (by decide) Tryz.underlying69 rfl _ _ rfl w2 _ #[.string ⟨#[45, 55]⟩] w0.heap.size u3 1 (B1.take 1 ++ B2.take 0) w2.heap.size rfl rfl rfl rfl HOW2.out (fun u hu => by simp at hu; subst hu; rfl) (by decide) (by decide) HSZ.out ?_)
          intro v' w3 h2 h3 h4
          have HOW3 : Hid (w3.ownsRow w0.heap.size 9 1 v' (1 + 1) (B1.take 1 ++ B2.take 1)) := Lib.hid (by rw [← HL1.out, ← HL2.out] at *; exact h2)
          have HB3 := Lib.hid (h4 w0 HB2.out)
          clear h2 h3 h4
          go_wp2_with fail
          go_roundg 0
          case measure => omega
          case rel => exact ⟨1, by go_num, by omega, HOW3.out, HB3.out⟩
        · obtain rfl : i = 1 := by omega
          obtain ⟨a, c, rfl⟩ := own_form hown
          have hg := RowG.of_own hown
          rw [← HL1.out, ← HL2.out] at hg
          obtain ⟨-, hcap, hmax, hcc⟩ := hg
          rcases hcc with h0 | ⟨b, off, rfl, hbl, hcl⟩
          · omega
          have HJ := Lib.hid (Tryz.strings_Join b off c [⟨#[50]⟩, ⟨#[45, 55]⟩] ⟨#[32]⟩ wr (fun j x hx => by
            rcases j with _ | _ | j
            · have := hcl 0 (by decide); simp at hx; subst hx; exact this
            · have := hcl 1 (by decide); simp at hx; subst hx; exact this
            · simp at hx) hbl (by decide) (by simpa using hcap) (by decide))
          have HB := Lib.hid hb
          clear hown hb hcap hmax hcl hbl hlt hq
          go_wp2_with fail
          refine (HJ.out).mono ?_; rintro e w2 ⟨rfl, hb2⟩
          have HB2 := Lib.hid (HB.out.trans (hb2.mono HB.out.size))
          clear hb2
          go_wp2_with fail
          go_ret
          exact RStr.mk (by rfl) (HBW.out.trans (HB2.out.mono HBW.out.size))
theorem awake_rep (w : World) (he : Env w) : Calls Tryz.prog 4 #[] w fun e w' => e = .returned (.bool true) ∧ Below w.heap.size w w' := by
  have HE := Lib.hid he
  have HR1 := Lib.hid (fun w (h : Env w) => preal_any 4609434218613702656 w (by decide) (fun w' hb => (h.below hb).1))
  have HR2 := Lib.hid (fun w (h : Env w) => preal_any 13844065254536904704 w (by decide) (fun w' hb => (h.below hb).1))
  have t1 : ((⟨#[51, 112, 45, 49]⟩ : ByteArray).toList == [51, 112, 45, 49]) = true := by rw [Lib.toList_data]; rfl
  have t2 : ((⟨#[45, 49, 112, 51]⟩ : ByteArray).toList == [45, 49, 112, 51]) = true := by rw [Lib.toList_data]; rfl
  have t3 : ((⟨#[50, 32, 45, 55]⟩ : ByteArray).toList == [50, 32, 45, 55]) = true := by rw [Lib.toList_data]; rfl
  clear he
  go_enter Tryz.func4, Tryz.ntmps4
  go_wp2_with fail
  refine (HR1.out _ HE.out).mono ?_; rintro e w1 ⟨t, rfl, ht, hb1⟩
  obtain rfl := ht.one real_15
  have HB1 := Lib.hid hb1
  clear ht hb1
  go_wp2_with fail
  refine (HR2.out _ (HE.out.below HB1.out)).mono ?_; rintro e w2 ⟨t, rfl, ht, hb2⟩
  obtain rfl := ht.one real_8
  have HB2 := Lib.hid (HB1.out.trans (hb2.mono HB1.out.size))
  clear ht hb2
  obtain ⟨hbx, hbw, hsz⟩ := boxed44 w2 3 #[.int .i64 2]
  obtain ⟨hcx, hcw, hsy⟩ := boxed44 (w2.alloc (.cells #[.int .i64 2] 3)) 32 #[.bool false, .int .i64 (-7), .float .f64 0]
  rw [hsz] at hcx
  have f0 := hbx 0
  have e0 := hcx 0
  have e1 := hcx 1
  have e2 := hcx 2
  simp only [List.getElem?_toArray, List.getElem?_cons_zero, List.getElem?_cons_succ] at f0 e0 e1 e2
  have f1 := f0
  rw [← hcw.cell (World.block_lt_of_cell? _ _ f0)] at f1
  have HB3 := Lib.hid ((HB2.out.trans (hbw.mono HB2.out.size)).trans (hcw.mono ((HB2.out.trans (hbw.mono HB2.out.size)).size)))
  have HL := Lib.hid (line_ex w2.heap.size (w2.heap.size + 1) _ f1 e0 e1 e2 (HE.out.below HB3.out))
  clear hbx hbw hsz hcx hcw hsy f0 f1 e0 e1 e2
  go_wp2_with fail
  refine (HL.out).mono ?_; rintro e w3 ⟨t, rfl, rfl, hb3⟩
  have HB4 := Lib.hid (HB3.out.trans (hb3.mono HB3.out.size))
  clear hb3
  go_wp2_with fail
  go_ret
  exact ⟨rfl, HB4.out⟩
end Go.Proofs.YtdbkgpakpadloaaGreatDoor
