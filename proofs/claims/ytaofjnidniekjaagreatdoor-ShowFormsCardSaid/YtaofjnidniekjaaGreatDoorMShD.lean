/- The contracts of Form, of package show and of package bushelref37: printed by gen_shwr.py. Conditions: those stated; the library's table of powers of ten is as the row lists it. -/
import Derived.Test.YtaofjnidniekjaaGreatDoorShwQ
import Derived.Test.YtaofjnidniekjaaGreatDoorParRp
namespace Go.Proofs.YtaofjnidniekjaaGreatDoor
open Go.RowKit

theorem TabS.below {w w' : World} (h : TabS w) (hb : Below w.heap.size w w') : TabS w' := by
 unfold TabS Lib.TabIs World.var? at *
 cases hg : Tryz.prog.globalNamed "internal/strconv.uint64pow10" with
 | none => simp [hg] at h
 | some g =>
  simp only [hg, Option.bind_some] at h ⊢
  have hlt : g < w.heap.size := by
   rcases Nat.lt_or_ge g w.heap.size with h' | h'
   ·exact h'
   ·rw [Array.getElem?_eq_none h'] at h; simp at h
  rw [hb.block g hlt]
  exact h
noncomputable def frmOut (s : Sch) : PR → ByteArray × Int × Int
 | .bad a e => (⟨#[]⟩, a, e)
 | .ok q => ((showS s q).1, 0, (showS s q).2)
noncomputable def formR (s : Sch) (t : ByteArray) : ByteArray × Int × Int := frmOut s (parseR s t)
def RForm (w : World) (p : PR) (r : ByteArray × Int × Int) (e : Ending) (w' : World) : Prop := e = .returned (.tuple #[.string r.1, .int .i64 r.2.1, .int .i64 r.2.2]) ∧ Below w.heap.size w w' ∧ ∀ q, p = .ok q → 0 ≤ q.group
theorem qp_at {q : QP} {fl : List Flt} (h : fl.map (fun f => (f.dim, f.codes)) = q.flts) : (q.at' fl).qp = q := by
 obtain ⟨g, f, c, o, l⟩ := q
 show (⟨g, fl.map (fun f => (f.dim, f.codes)), c, o, l⟩ : QP) = _
 rw [h]


set_option maxRecDepth 100000 in
set_option maxHeartbeats 2000000 in
theorem pform_any (w : World) (l : SchL) (s : Sch) (t : ByteArray) (h : SchAt w l s) (ht : t.size ≤ maxLen) (hTb : TabS w) :
  Calls Tryz.prog 12 #[l.val, .string t] w (RForm w (parseR s t) (formR s t)) := by
 obtain ⟨R, hR⟩ : ∃ r, parseR s t = r := ⟨_, rfl⟩
 have hmy := parse_may s t
 have HR0 := Lib.hid hR
 have HFR : Hid (formR s t = frmOut s R) := Lib.hid (by unfold formR; rw [hR])
 obtain ⟨ad, nd, cd, ai, ni, ci, an, nn, cn, av, nv, cv⟩ := l
 obtain ⟨hbx, hbw, hsz⟩ := boxed w 26 #[.slice ad nd cd, .slice ai ni ci, .slice an nn cn, .slice av nv cv]
 have HPA := Lib.hid (pparse_any _ ⟨ad, nd, cd, ai, ni, ci, an, nn, cn, av, nv, cv⟩ s (h.below hbw (Nat.le_refl _)) t ht)
 have HSH := Lib.hid (fun w' hb m q (hq : QryAt w' m q) => pshow_any w' ⟨ad, nd, cd, ai, ni, ci, an, nn, cn, av, nv, cv⟩ s m q (h.below (B := w.heap.size) hb (Nat.le_refl _)) hq (fun v hv => (hTb.below hb).below hv))
 rw [hR] at HPA hmy
 unfold SchL.val at HPA HSH ⊢
 dsimp only at HPA HSH ⊢
 have HMY := Lib.hid hmy
 have HBW := Lib.hid hbw
 have HK0 := Lib.hid (Blk.new w 26 #[.slice ad nd cd, .slice ai ni ci, .slice an nn cn, .slice av nv cv])
 have e0 := hbx 0
 have e1 := hbx 1
 have e2 := hbx 2
 have e3 := hbx 3
 simp only [List.getElem?_toArray, List.getElem?_cons_zero, List.getElem?_cons_succ] at e0 e1 e2 e3
 have HLT : Hid (w.heap.size ≤ (w.alloc (.cells #[.slice ad nd cd, .slice ai ni ci, .slice an nn cn, .slice av nv cv] 26)).heap.size) := Lib.hid (by rw [hsz]; omega)
 clear h hbx hbw hsz hR ht hmy hTb
 go_enter Tryz.func12, Tryz.ntmps12
 go_upto_region 1 with fail
 generalize (w.alloc (.cells #[.slice ad nd cd, .slice ai ni ci, .slice an nn cn, .slice av nv cv] 26)) = w0 at *
 obtain ⟨S, hS⟩ : ∃ S, w.heap.size = S := ⟨_, rfl⟩
 have HSS := Lib.hid hS
 rw [hS] at HBW HK0 HLT HSH e0 e1 e2 e3
 clear hS
 rw [HSS.out]
 go_wp2_with fail
 refine HPA.out.mono ?_
 intro e w1 hret
 rcases R with ⟨a, er⟩ | q
 ·obtain ⟨rfl, hb1⟩ := hret
  have HB1 := Lib.hid (HBW.out.trans (hb1.mono HLT.out))
  have HL1 : Hid (S ≤ w1.heap.size) := Lib.hid (Nat.le_trans HLT.out hb1.size)
  have t1 : (er != 0) = true := by rw [bne_iff_ne]; exact HMY.out.1
  clear hb1 e0 e1 e2 e3
  unfold zeroQ
  go_upto_region 2 with fail
  have hw2 : Below S w (w1.alloc (.cells #[.int .u32 0, .slice none 0 0, .slice none 0 0, .slice none 0 0, .int .i64 0] 32)) := HB1.out.alloc HL1.out _
  generalize (w1.alloc (.cells #[.int .u32 0, .slice none 0 0, .slice none 0 0, .slice none 0 0, .int .i64 0] 32)) = w2 at *
  have HB2 := Lib.hid hw2
  clear hw2
  go_wp2_with fail
  exact bodyPost_ret (v := .tuple #[.string ⟨#[]⟩, .int .i64 a, .int .i64 er]) (by simp [results, Tryz.results12, go_sem]) rfl ⟨by rw [HFR.out]; rfl, by rw [HSS.out]; exact HB2.out, fun q hq => by rw [HR0.out] at hq; cases hq⟩
 ·obtain ⟨⟨af, nf, cf, ac, nc, cc, ao, no, co⟩, fl, rfl, hq, hf, hb1⟩ := hret
  have HB1 := Lib.hid (HBW.out.trans (hb1.mono HLT.out))
  have HL1 : Hid (S ≤ w1.heap.size) := Lib.hid (Nat.le_trans HLT.out hb1.size)
  have HK1 := Lib.hid (HK0.out.below hb1 HK0.out.lt)
  have HQP := Lib.hid (qp_at hf)
  have HGZ : Hid (0 ≤ q.group) := Lib.hid hq.2.2.2.2.2.1.1
  have HQ1 := Lib.hid hq
  clear hb1 e0 e1 e2 e3 hq hf
  obtain ⟨g, fq, cq, oq, lm⟩ := q
  unfold QryL.val
  dsimp only [QP.at']
  go_upto_region 2 with fail
  have hw2 : Below S w (w1.alloc (.cells #[.int .u32 g, .slice af nf cf, .slice ac nc cc, .slice ao no co, .int .i64 lm] 32)) := HB1.out.alloc HL1.out _
  have hw3 : Below w1.heap.size w1 (w1.alloc (.cells #[.int .u32 g, .slice af nf cf, .slice ac nc cc, .slice ao no co, .int .i64 lm] 32)) := (Below.refl _ _).alloc (Nat.le_refl _) _
  have hk2 := Blk.new w1 32 #[.int .u32 g, .slice af nf cf, .slice ac nc cc, .slice ao no co, .int .i64 lm]
  generalize (w1.alloc (.cells #[.int .u32 g, .slice af nf cf, .slice ac nc cc, .slice ao no co, .int .i64 lm] 32)) = w2 at *
  have HB2 := Lib.hid hw2
  have HS2 := Lib.hid (HK1.out.below hw3 HK1.out.lt)
  have HSW := Lib.hid (HSH.out w2 hw2 ⟨af, nf, cf, ac, nc, cc, ao, no, co⟩ _ (HQ1.out.below hw3 (Nat.le_refl _)))
  rw [HQP.out] at HSW
  unfold QryL.val at HSW
  dsimp only [QP.at'] at HSW
  have HL2 : Hid (S ≤ w2.heap.size) := Lib.hid (Nat.le_trans HL1.out hw3.size)
  generalize w1.heap.size = T at hk2 ⊢
  have e0 : w2.cell? ⟨S, 0, none⟩ = some (.slice ad nd cd) := HS2.out.cell 0
  have e1 : w2.cell? ⟨S, 1, none⟩ = some (.slice ai ni ci) := HS2.out.cell 1
  have e2 : w2.cell? ⟨S, 2, none⟩ = some (.slice an nn cn) := HS2.out.cell 2
  have e3 : w2.cell? ⟨S, 3, none⟩ = some (.slice av nv cv) := HS2.out.cell 3
  have y0 : w2.cell? ⟨T, 0, none⟩ = some (.int .u32 g) := hk2.cell 0
  have y1 : w2.cell? ⟨T, 1, none⟩ = some (.slice af nf cf) := hk2.cell 1
  have y2 : w2.cell? ⟨T, 2, none⟩ = some (.slice ac nc cc) := hk2.cell 2
  have y3 : w2.cell? ⟨T, 3, none⟩ = some (.slice ao no co) := hk2.cell 3
  have y4 : w2.cell? ⟨T, 4, none⟩ = some (.int .i64 lm) := hk2.cell 4
  obtain ⟨⟨tt, er⟩, hsr⟩ : ∃ r, showS s ⟨g, fq, cq, oq, lm⟩ = r := ⟨_, rfl⟩
  have HC : Hid (formR s t = (tt, 0, er)) := Lib.hid (by rw [HFR.out]; unfold frmOut; dsimp only; rw [hsr])
  rw [hsr] at HSW
  clear hw2 hw3 hk2 hsr
  go_wp2_with fail
  refine HSW.out.mono ?_
  rintro e w3 ⟨rfl, hb3⟩
  have HB3 := Lib.hid (HB2.out.trans (hb3.mono HL2.out))
  clear hb3 e0 e1 e2 e3 y0 y1 y2 y3 y4
  go_wp2_with fail
  exact bodyPost_ret (v := .tuple #[.string tt, .int .i64 0, .int .i64 er]) (by simp [results, Tryz.results12, go_sem]) rfl ⟨by rw [HC.out], by rw [HSS.out]; exact HB3.out, fun q hq => by rw [HR0.out] at hq; cases hq; exact HGZ.out⟩


set_option maxRecDepth 100000 in
set_option maxHeartbeats 2000000 in
theorem rform_any (w : World) (l : SchL) (s : Sch) (t : ByteArray) (h : SchAt w l s) (ht : t.size ≤ maxLen) :
  Calls Tryz.prog 13 #[l.val, .string t] w (RForm w (parseR s t) (formR s t)) := by
 obtain ⟨R, hR⟩ : ∃ r, parseR s t = r := ⟨_, rfl⟩
 have hmy := parse_may s t
 have HR0 := Lib.hid hR
 have HFR : Hid (formR s t = frmOut s R) := Lib.hid (by unfold formR; rw [hR])
 obtain ⟨ad, nd, cd, ai, ni, ci, an, nn, cn, av, nv, cv⟩ := l
 obtain ⟨hbx, hbw, hsz⟩ := boxed w 26 #[.slice ad nd cd, .slice ai ni ci, .slice an nn cn, .slice av nv cv]
 have HPA := Lib.hid (rparse_any _ ⟨ad, nd, cd, ai, ni, ci, an, nn, cn, av, nv, cv⟩ s (h.below hbw (Nat.le_refl _)) t ht)
 have HSH := Lib.hid (fun w' hb m q (hq : QryAt w' m q) => rshow_any w' ⟨ad, nd, cd, ai, ni, ci, an, nn, cn, av, nv, cv⟩ s m q (h.below (B := w.heap.size) hb (Nat.le_refl _)) hq)
 rw [hR] at HPA hmy
 unfold SchL.val at HPA HSH ⊢
 dsimp only at HPA HSH ⊢
 have HMY := Lib.hid hmy
 have HBW := Lib.hid hbw
 have HK0 := Lib.hid (Blk.new w 26 #[.slice ad nd cd, .slice ai ni ci, .slice an nn cn, .slice av nv cv])
 have e0 := hbx 0
 have e1 := hbx 1
 have e2 := hbx 2
 have e3 := hbx 3
 simp only [List.getElem?_toArray, List.getElem?_cons_zero, List.getElem?_cons_succ] at e0 e1 e2 e3
 have HLT : Hid (w.heap.size ≤ (w.alloc (.cells #[.slice ad nd cd, .slice ai ni ci, .slice an nn cn, .slice av nv cv] 26)).heap.size) := Lib.hid (by rw [hsz]; omega)
 clear h hbx hbw hsz hR ht hmy
 go_enter Tryz.func13, Tryz.ntmps13
 go_upto_region 1 with fail
 generalize (w.alloc (.cells #[.slice ad nd cd, .slice ai ni ci, .slice an nn cn, .slice av nv cv] 26)) = w0 at *
 obtain ⟨S, hS⟩ : ∃ S, w.heap.size = S := ⟨_, rfl⟩
 have HSS := Lib.hid hS
 rw [hS] at HBW HK0 HLT HSH e0 e1 e2 e3
 clear hS
 rw [HSS.out]
 go_wp2_with fail
 refine HPA.out.mono ?_
 intro e w1 hret
 rcases R with ⟨a, er⟩ | q
 ·obtain ⟨rfl, hb1⟩ := hret
  have HB1 := Lib.hid (HBW.out.trans (hb1.mono HLT.out))
  have HL1 : Hid (S ≤ w1.heap.size) := Lib.hid (Nat.le_trans HLT.out hb1.size)
  have t1 : (er != 0) = true := by rw [bne_iff_ne]; exact HMY.out.1
  clear hb1 e0 e1 e2 e3
  unfold zeroQ
  go_upto_region 2 with fail
  have hw2 : Below S w (w1.alloc (.cells #[.int .u32 0, .slice none 0 0, .slice none 0 0, .slice none 0 0, .int .i64 0] 32)) := HB1.out.alloc HL1.out _
  generalize (w1.alloc (.cells #[.int .u32 0, .slice none 0 0, .slice none 0 0, .slice none 0 0, .int .i64 0] 32)) = w2 at *
  have HB2 := Lib.hid hw2
  clear hw2
  go_wp2_with fail
  exact bodyPost_ret (v := .tuple #[.string ⟨#[]⟩, .int .i64 a, .int .i64 er]) (by simp [results, Tryz.results13, go_sem]) rfl ⟨by rw [HFR.out]; rfl, by rw [HSS.out]; exact HB2.out, fun q hq => by rw [HR0.out] at hq; cases hq⟩
 ·obtain ⟨⟨af, nf, cf, ac, nc, cc, ao, no, co⟩, fl, rfl, hq, hf, hb1⟩ := hret
  have HB1 := Lib.hid (HBW.out.trans (hb1.mono HLT.out))
  have HL1 : Hid (S ≤ w1.heap.size) := Lib.hid (Nat.le_trans HLT.out hb1.size)
  have HK1 := Lib.hid (HK0.out.below hb1 HK0.out.lt)
  have HQP := Lib.hid (qp_at hf)
  have HGZ : Hid (0 ≤ q.group) := Lib.hid hq.2.2.2.2.2.1.1
  have HQ1 := Lib.hid hq
  clear hb1 e0 e1 e2 e3 hq hf
  obtain ⟨g, fq, cq, oq, lm⟩ := q
  unfold QryL.val
  dsimp only [QP.at']
  go_upto_region 2 with fail
  have hw2 : Below S w (w1.alloc (.cells #[.int .u32 g, .slice af nf cf, .slice ac nc cc, .slice ao no co, .int .i64 lm] 32)) := HB1.out.alloc HL1.out _
  have hw3 : Below w1.heap.size w1 (w1.alloc (.cells #[.int .u32 g, .slice af nf cf, .slice ac nc cc, .slice ao no co, .int .i64 lm] 32)) := (Below.refl _ _).alloc (Nat.le_refl _) _
  have hk2 := Blk.new w1 32 #[.int .u32 g, .slice af nf cf, .slice ac nc cc, .slice ao no co, .int .i64 lm]
  generalize (w1.alloc (.cells #[.int .u32 g, .slice af nf cf, .slice ac nc cc, .slice ao no co, .int .i64 lm] 32)) = w2 at *
  have HB2 := Lib.hid hw2
  have HS2 := Lib.hid (HK1.out.below hw3 HK1.out.lt)
  have HSW := Lib.hid (HSH.out w2 hw2 ⟨af, nf, cf, ac, nc, cc, ao, no, co⟩ _ (HQ1.out.below hw3 (Nat.le_refl _)))
  rw [HQP.out] at HSW
  unfold QryL.val at HSW
  dsimp only [QP.at'] at HSW
  have HL2 : Hid (S ≤ w2.heap.size) := Lib.hid (Nat.le_trans HL1.out hw3.size)
  generalize w1.heap.size = T at hk2 ⊢
  have e0 : w2.cell? ⟨S, 0, none⟩ = some (.slice ad nd cd) := HS2.out.cell 0
  have e1 : w2.cell? ⟨S, 1, none⟩ = some (.slice ai ni ci) := HS2.out.cell 1
  have e2 : w2.cell? ⟨S, 2, none⟩ = some (.slice an nn cn) := HS2.out.cell 2
  have e3 : w2.cell? ⟨S, 3, none⟩ = some (.slice av nv cv) := HS2.out.cell 3
  have y0 : w2.cell? ⟨T, 0, none⟩ = some (.int .u32 g) := hk2.cell 0
  have y1 : w2.cell? ⟨T, 1, none⟩ = some (.slice af nf cf) := hk2.cell 1
  have y2 : w2.cell? ⟨T, 2, none⟩ = some (.slice ac nc cc) := hk2.cell 2
  have y3 : w2.cell? ⟨T, 3, none⟩ = some (.slice ao no co) := hk2.cell 3
  have y4 : w2.cell? ⟨T, 4, none⟩ = some (.int .i64 lm) := hk2.cell 4
  obtain ⟨⟨tt, er⟩, hsr⟩ : ∃ r, showS s ⟨g, fq, cq, oq, lm⟩ = r := ⟨_, rfl⟩
  have HC : Hid (formR s t = (tt, 0, er)) := Lib.hid (by rw [HFR.out]; unfold frmOut; dsimp only; rw [hsr])
  rw [hsr] at HSW
  clear hw2 hw3 hk2 hsr
  go_wp2_with fail
  refine HSW.out.mono ?_
  rintro e w3 ⟨rfl, hb3⟩
  have HB3 := Lib.hid (HB2.out.trans (hb3.mono HL2.out))
  clear hb3 e0 e1 e2 e3 y0 y1 y2 y3 y4
  go_wp2_with fail
  exact bodyPost_ret (v := .tuple #[.string tt, .int .i64 0, .int .i64 er]) (by simp [results, Tryz.results13, go_sem]) rfl ⟨by rw [HC.out], by rw [HSS.out]; exact HB3.out, fun q hq => by rw [HR0.out] at hq; cases hq; exact HGZ.out⟩

end Go.Proofs.YtaofjnidniekjaaGreatDoor
/- What Show's text is read as (plain), and the chapter's example of show: bushellaw37.awake. Conditions: the library's table of powers of ten is as the row lists it. -/
namespace Go.Proofs.YtaofjnidniekjaaGreatDoor
open Go.RowKit

theorem showS_ok {s : Sch} {q : QP} {t : ByteArray} (h : showS s q = (t, 0)) : qchk s q.qry = 0 ∧ q.limit ≤ 999999999 ∧ t = showTx s q ∧ ∃ L, lexAll t = .ok L := by
 unfold showS at h
 split at h
 ·rename_i h0
  have h1 := congrArg Prod.snd h
  simp only at h1
  omega
 rename_i h0
 split at h
 ·have h1 := congrArg Prod.snd h
  simp only at h1
  omega
 rename_i h1
 cases hl : lexAll (showTx s q) with
 | bad a er =>
  rw [hl] at h
  have h1 := congrArg Prod.snd h
  unfold lxOut at h1
  simp only at h1
  omega
 | ok L =>
  rw [hl] at h
  have h2 : showTx s q = t := congrArg Prod.fst h
  exact ⟨by omega, by omega, h2.symm, L, by rw [← h2]; exact hl⟩
/-- what Show says is read as the same query -/
theorem shown_read {s : Sch} {q : QP} {t : ByteArray} (h : showS s q = (t, 0)) (hg : 0 ≤ q.group) : parseR s t = .ok q := by
 obtain ⟨h1, h2, h3, L, h4⟩ := showS_ok h
 exact show_parse tells_itoa h1 hg h2 (by rw [h3, put_show]; rfl) h4
theorem form_ok {s : Sch} {t u : ByteArray} {a : Int} (h : formR s t = (u, a, 0)) : a = 0 ∧ ∃ q, parseR s t = .ok q ∧ showS s q = (u, 0) := by
 have hm := parse_may s t
 unfold formR at h
 cases hp : parseR s t with
 | bad b er =>
  rw [hp] at h hm
  have h1 : er = 0 := congrArg (fun x => x.2.2) h
  exact absurd h1 hm.1
 | ok q =>
  rw [hp] at h
  have h1 : (showS s q).2 = 0 := congrArg (fun x => x.2.2) h
  have h2 : (showS s q).1 = u := congrArg (fun x => x.1) h
  have h3 : (0 : Int) = a := congrArg (fun x => x.2.1) h
  exact ⟨h3.symm, q, rfl, by rw [← h1, ← h2]⟩
/-- a form is its own form -/
theorem form_form {s : Sch} {t u : ByteArray} {a : Int} (h : formR s t = (u, a, 0)) (hg : ∀ q, parseR s t = .ok q → 0 ≤ q.group) : formR s u = (u, 0, 0) := by
 obtain ⟨-, q, h1, h2⟩ := form_ok h
 have h3 := shown_read h2 (hg q h1)
 unfold formR
 rw [h3]
 unfold frmOut
 dsimp only
 rw [h2]
/-- the example's text, its form, its query -/
def exFI : ByteArray := ⟨#[115, 101, 108, 101, 99, 116, 32, 99, 111, 117, 110, 116, 44, 115, 117, 109, 40, 109, 41, 32, 98, 121, 32, 97, 32, 119, 104, 101, 114, 101, 32, 98, 32, 105, 110, 40, 49, 44, 50, 41, 97, 110, 100, 32, 97, 32, 105, 110, 40, 48, 41, 32, 111, 114, 100, 101, 114, 32, 50, 32, 100, 101, 115, 99, 44, 49, 32, 97, 115, 99, 32, 108, 105, 109, 105, 116, 32, 53]⟩
def exFO : ByteArray := ⟨#[115, 101, 108, 101, 99, 116, 32, 99, 111, 117, 110, 116, 44, 32, 115, 117, 109, 40, 109, 41, 32, 98, 121, 32, 97, 32, 119, 104, 101, 114, 101, 32, 98, 32, 105, 110, 32, 40, 49, 44, 32, 50, 41, 32, 97, 110, 100, 32, 97, 32, 61, 32, 48, 32, 111, 114, 100, 101, 114, 32, 50, 32, 100, 101, 115, 99, 44, 32, 49, 32, 108, 105, 109, 105, 116, 32, 53]⟩
def exFTok : List Tok := match lexAll exFI with
 | .ok l => l
 | .bad _ _ => []
def exFTok2 : List Tok := match lexAll exFO with
 | .ok l => l
 | .bad _ _ => []
theorem exFI_lex : lexAll exFI = .ok exFTok := by kernel_rfl
theorem exFO_lex : lexAll exFO = .ok exFTok2 := by kernel_rfl
def exFQ : QP := ⟨1, [(1, [1, 2]), (0, [0])], [(0, 0), (1, 0)], [(1, true), (0, false)], 5⟩
theorem exFI_query : queryS (dimN exP) (measN exP) exFTok = .ok (exFTok.length - 1, exFQ) := by kernel_rfl
theorem exF_chk : qchk exP exFQ.qry = 0 := by
 unfold qchk fchk
 rw [exP_ok]
 decide
theorem exFI_parse : parseR exP exFI = .ok exFQ := by
 unfold parseR
 rw [exP_ok, if_neg (by decide), exFI_lex]
 dsimp only
 rw [exFI_query]
 dsimp only
 rw [exF_chk, if_neg (by decide)]
theorem exF_text : showTx exP exFQ = exFO := by
 unfold showTx showB
 kernel_rfl
theorem exF_show : showS exP exFQ = (exFO, 0) := by
 unfold showS
 rw [exF_chk, if_neg (by decide), if_neg (by decide), exF_text, exFO_lex]
 rfl
theorem exF_form : formR exP exFI = (exFO, 0, 0) := by
 unfold formR
 rw [exFI_parse]
 unfold frmOut
 dsimp only
 rw [exF_show]
end Go.Proofs.YtaofjnidniekjaaGreatDoor
/- The chapter's example of show, and the walks of the laws ShowTells and ShowForms: printed by gen_shwt.py. Conditions: those stated; the library's table of powers of ten is as the row lists it. -/
namespace Go.Proofs.YtaofjnidniekjaaGreatDoor
open Go.RowKit

set_option maxRecDepth 100000 in
set_option maxHeartbeats 2000000 in
theorem awakeS_any (w : World) (hT : TabS w) : Calls Tryz.prog 7 #[] w fun e w' => e = .returned (.bool true) ∧ Below w.heap.size w w' := by
 go_enter Tryz.func7, Tryz.ntmps7
 go_upto_region 2 with fail
 have hb0 : Below w.heap.size w (((w.alloc (.cells #[.string ⟨#[97]⟩, .int .i64 4, .string ⟨#[98]⟩, .int .i64 4] 53)).alloc (.cells #[.string ⟨#[109]⟩] 9)).alloc (.cells #[.slice (some ⟨w.heap.size, 0, none⟩) 2 2, .slice (some ⟨w.heap.size + 1, 0, none⟩) 1 1, .slice none 0 0, .slice none 0 0] 26)) := (((Below.refl _ _).alloc (Nat.le_refl _) _).alloc (by simp) _).alloc (by simp; omega) _
 have hk0 : Blk (((w.alloc (.cells #[.string ⟨#[97]⟩, .int .i64 4, .string ⟨#[98]⟩, .int .i64 4] 53)).alloc (.cells #[.string ⟨#[109]⟩] 9)).alloc (.cells #[.slice (some ⟨w.heap.size, 0, none⟩) 2 2, .slice (some ⟨w.heap.size + 1, 0, none⟩) 1 1, .slice none 0 0, .slice none 0 0] 26)) w.heap.size 53 #[.string ⟨#[97]⟩, .int .i64 4, .string ⟨#[98]⟩, .int .i64 4] := ((Blk.new w _ _).alloc _).alloc _
 have hk1 : Blk (((w.alloc (.cells #[.string ⟨#[97]⟩, .int .i64 4, .string ⟨#[98]⟩, .int .i64 4] 53)).alloc (.cells #[.string ⟨#[109]⟩] 9)).alloc (.cells #[.slice (some ⟨w.heap.size, 0, none⟩) 2 2, .slice (some ⟨w.heap.size + 1, 0, none⟩) 1 1, .slice none 0 0, .slice none 0 0] 26)) (w.heap.size + 1) 9 #[.string ⟨#[109]⟩] := by
  have h := Blk.new (w.alloc (.cells #[.string ⟨#[97]⟩, .int .i64 4, .string ⟨#[98]⟩, .int .i64 4] 53)) 9 #[.string ⟨#[109]⟩]
  rw [World.size_alloc] at h
  exact h.alloc _
 have hk2 : Blk (((w.alloc (.cells #[.string ⟨#[97]⟩, .int .i64 4, .string ⟨#[98]⟩, .int .i64 4] 53)).alloc (.cells #[.string ⟨#[109]⟩] 9)).alloc (.cells #[.slice (some ⟨w.heap.size, 0, none⟩) 2 2, .slice (some ⟨w.heap.size + 1, 0, none⟩) 1 1, .slice none 0 0, .slice none 0 0] 26)) (w.heap.size + 1 + 1) 26 #[.slice (some ⟨w.heap.size, 0, none⟩) 2 2, .slice (some ⟨w.heap.size + 1, 0, none⟩) 1 1, .slice none 0 0, .slice none 0 0] := by
  have h := Blk.new ((w.alloc (.cells #[.string ⟨#[97]⟩, .int .i64 4, .string ⟨#[98]⟩, .int .i64 4] 53)).alloc (.cells #[.string ⟨#[109]⟩] 9)) 26 #[.slice (some ⟨w.heap.size, 0, none⟩) 2 2, .slice (some ⟨w.heap.size + 1, 0, none⟩) 1 1, .slice none 0 0, .slice none 0 0]
  rw [World.size_alloc, World.size_alloc] at h
  exact h
 have hT0 := hT.below hb0
 generalize (((w.alloc (.cells #[.string ⟨#[97]⟩, .int .i64 4, .string ⟨#[98]⟩, .int .i64 4] 53)).alloc (.cells #[.string ⟨#[109]⟩] 9)).alloc (.cells #[.slice (some ⟨w.heap.size, 0, none⟩) 2 2, .slice (some ⟨w.heap.size + 1, 0, none⟩) 1 1, .slice none 0 0, .slice none 0 0] 26)) = W0 at *
 have HFO := Lib.hid (pform_any W0 (exPL w.heap.size) exP exFI (exP_at hk0 hk1) (by decide) hT0)
 rw [exF_form] at HFO
 obtain ⟨S, hS⟩ : ∃ S, w.heap.size = S := ⟨_, rfl⟩
 have HSS := Lib.hid hS
 unfold SchL.val exPL exFI at HFO
 rw [hS] at HFO hb0 hk0 hk1 hk2 ⊢
 dsimp only at HFO
 have HB0 := Lib.hid hb0
 have HZ0 : Hid (S ≤ W0.heap.size) := Lib.hid (Nat.le_of_lt hk0.lt)
 have x0 := hk2.cell 0
 have x1 := hk2.cell 1
 have x2 := hk2.cell 2
 have x3 := hk2.cell 3
 simp only [List.getElem?_toArray, List.getElem?_cons_zero, List.getElem?_cons_succ] at x0 x1 x2 x3
 clear hS hb0 hk0 hk1 hk2 hT hT0
 go_wp2_with fail
 refine HFO.out.mono ?_
 rintro e w1 ⟨rfl, hb1, -⟩
 have HB1 := Lib.hid (HB0.out.trans (hb1.mono HZ0.out))
 clear hb1 x0 x1 x2 x3 HFO
 dsimp only
 unfold exFO
 go_wp2_with fail
 go_ret
 exact ⟨rfl, by rw [HSS.out]; exact HB1.out⟩


set_option maxRecDepth 100000 in
set_option maxHeartbeats 4000000 in
theorem walk_showforms (l : SchL) (s : Sch) (t : ByteArray) (w : World) (h : SchAt w l s) (ht : t.size ≤ maxLen) (hT : TabS w) :
  Calls Tryz.prog 4 #[l.val, .string t] w fun e w' => e = .returned (.bool true) ∧ Below w.heap.size w w' := by
 obtain ⟨⟨u, a, er⟩, hsr⟩ : ∃ r, formR s t = r := ⟨_, rfl⟩
 have HR := Lib.hid hsr
 have HLI := Lib.hid (fun (w' : World) (hb : Below w.heap.size w w') => rlight_any w' l s (h.below hb (Nat.le_refl _)))
 have HFP := Lib.hid (fun (w' : World) (hb : Below w.heap.size w w') (t : ByteArray) (ht : t.size ≤ maxLen) => pform_any w' l s t (h.below hb (Nat.le_refl _)) ht (hT.below hb))
 have HFR := Lib.hid (fun (w' : World) (hb : Below w.heap.size w w') => rform_any w' l s t (h.below hb (Nat.le_refl _)) ht)
 have HT := Lib.hid (fun (w' : World) (hb : Below w.heap.size w w') => hT.below hb)
 have HSZ := Lib.hid (fun (w' : World) (hb : Below w.heap.size w w') => hb.size)
 have HTL := Lib.hid ht
 rw [hsr] at HFR
 clear hsr h hT ht
 obtain ⟨ad, nd, cd, ai, ni, ci, an, nn, cn, av, nv, cv⟩ := l
 unfold SchL.val at HLI HFP HFR ⊢
 dsimp only at HLI HFP HFR ⊢
 obtain ⟨hbx, hbw, hsz⟩ := boxed w 26 #[.slice ad nd cd, .slice ai ni ci, .slice an nn cn, .slice av nv cv]
 have HBW := Lib.hid hbw
 have HKS := Lib.hid (Blk.new w 26 #[.slice ad nd cd, .slice ai ni ci, .slice an nn cn, .slice av nv cv])
 clear hbw hbx hsz
 go_enter Tryz.func4, Tryz.ntmps4
 go_upto_region 1 with fail
 generalize (w.alloc (.cells #[.slice ad nd cd, .slice ai ni ci, .slice an nn cn, .slice av nv cv] 26)) = w0 at *
 obtain ⟨S, hS⟩ : ∃ S, w.heap.size = S := ⟨_, rfl⟩
 have HSS := Lib.hid hS
 rw [hS] at HBW HKS HLI HFP HFR HT HSZ
 clear hS
 rw [HSS.out]
 have HB0 := HBW
 have e0 : w0.cell? ⟨S, 0, none⟩ = some (.slice ad nd cd) := HKS.out.cell 0
 have e1 : w0.cell? ⟨S, 1, none⟩ = some (.slice ai ni ci) := HKS.out.cell 1
 have e2 : w0.cell? ⟨S, 2, none⟩ = some (.slice an nn cn) := HKS.out.cell 2
 have e3 : w0.cell? ⟨S, 3, none⟩ = some (.slice av nv cv) := HKS.out.cell 3
 go_wp2_with fail
 refine (HLI.out _ HB0.out).mono ?_
 rintro e w1 ⟨b1, rfl, -, hb1⟩
 have HB1 := Lib.hid (HB0.out.trans (hb1.mono (HSZ.out _ HB0.out)))
 have HS1 := Lib.hid (HKS.out.below hb1 HKS.out.lt)
 clear hb1 e0 e1 e2 e3 HLI
 rcases b1 with _ | _
 ·go_wp2_with fail
  refine (awakeS_any w1 (HT.out _ HB1.out)).mono ?_
  rintro e wz ⟨rfl, hbz⟩
  have HBZ := Lib.hid (HB1.out.trans (hbz.mono (HSZ.out _ HB1.out)))
  clear hbz
  go_wp2_with fail
  go_ret
  exact ⟨rfl, by rw [HSS.out]; exact HBZ.out⟩
 have HF1 := Lib.hid (HFP.out w1 HB1.out t HTL.out)
 rw [HR.out] at HF1
 have e0 : w1.cell? ⟨S, 0, none⟩ = some (.slice ad nd cd) := HS1.out.cell 0
 have e1 : w1.cell? ⟨S, 1, none⟩ = some (.slice ai ni ci) := HS1.out.cell 1
 have e2 : w1.cell? ⟨S, 2, none⟩ = some (.slice an nn cn) := HS1.out.cell 2
 have e3 : w1.cell? ⟨S, 3, none⟩ = some (.slice av nv cv) := HS1.out.cell 3
 go_wp2_with fail
 refine HF1.out.mono ?_
 rintro e w2 ⟨rfl, hb2, hg2⟩
 have HG2 := Lib.hid hg2
 have HB2 := Lib.hid (HB1.out.trans (hb2.mono (HSZ.out _ HB1.out)))
 have HS2 := Lib.hid (HS1.out.below hb2 HS1.out.lt)
 clear hb2 hg2 e0 e1 e2 e3 HF1
 have e0 : w2.cell? ⟨S, 0, none⟩ = some (.slice ad nd cd) := HS2.out.cell 0
 have e1 : w2.cell? ⟨S, 1, none⟩ = some (.slice ai ni ci) := HS2.out.cell 1
 have e2 : w2.cell? ⟨S, 2, none⟩ = some (.slice an nn cn) := HS2.out.cell 2
 have e3 : w2.cell? ⟨S, 3, none⟩ = some (.slice av nv cv) := HS2.out.cell 3
 dsimp only
 go_wp2_with fail
 refine (HFR.out _ HB2.out).mono ?_
 rintro e w3 ⟨rfl, hb3, -⟩
 have HB3 := Lib.hid (HB2.out.trans (hb3.mono (HSZ.out _ HB2.out)))
 have HS3 := Lib.hid (HS2.out.below hb3 HS2.out.lt)
 clear hb3 e0 e1 e2 e3 HFR
 dsimp only
 by_cases her : er = 0
 case neg =>
  have t1 : (er != 0) = true := by rw [bne_iff_ne]; exact her
  clear her
  go_wp2_with fail
  refine (awakeS_any w3 (HT.out _ HB3.out)).mono ?_
  rintro e wz ⟨rfl, hbz⟩
  have HBZ := Lib.hid (HB3.out.trans (hbz.mono (HSZ.out _ HB3.out)))
  clear hbz
  go_wp2_with fail
  go_ret
  exact ⟨rfl, by rw [HSS.out]; exact HBZ.out⟩
 case pos =>
 subst her
 have HFF := Lib.hid (form_form HR.out HG2.out)
 have HUL : Hid (u.size ≤ maxLen) := Lib.hid (by
  obtain ⟨-, q, hp, hs⟩ := form_ok HR.out
  obtain ⟨h1, h2, h3, -⟩ := showS_ok hs
  rw [h3]
  have h4 := tx_size (q := q.qry) (s := s) h1 (by show q.limit ≤ _; omega) (fun f hf n hn => by
   have := codes_ok h1
   obtain ⟨g, hg, rfl⟩ := List.mem_map.1 (show f ∈ q.flts.map _ from hf)
   exact Int.le_trans ((this g hg).2 n hn).2 (by decide))
  have e : q.qry.qp = q := by
   obtain ⟨g, fs, c, o, lm⟩ := q
   show (⟨g, (fs.map _).map _, c, o, lm⟩ : QP) = _
   rw [List.map_map]
   congr 1
   exact List.map_id _
  rw [e] at h4
  exact h4)
 have HF2 := Lib.hid (HFP.out w3 HB3.out u HUL.out)
 rw [HFF.out] at HF2
 have e0 : w3.cell? ⟨S, 0, none⟩ = some (.slice ad nd cd) := HS3.out.cell 0
 have e1 : w3.cell? ⟨S, 1, none⟩ = some (.slice ai ni ci) := HS3.out.cell 1
 have e2 : w3.cell? ⟨S, 2, none⟩ = some (.slice an nn cn) := HS3.out.cell 2
 have e3 : w3.cell? ⟨S, 3, none⟩ = some (.slice av nv cv) := HS3.out.cell 3
 clear HFP
 go_wp2_with fail
 refine HF2.out.mono ?_
 rintro e w4 ⟨rfl, hb4, -⟩
 have HB4 := Lib.hid (HB3.out.trans (hb4.mono (HSZ.out _ HB3.out)))
 clear hb4 e0 e1 e2 e3 HF2
 dsimp only
 go_wp2_with fail
 refine (awakeS_any w4 (HT.out _ HB4.out)).mono ?_
 rintro e wz ⟨rfl, hbz⟩
 have HBZ := Lib.hid (HB4.out.trans (hbz.mono (HSZ.out _ HB4.out)))
 clear hbz
 go_wp2_with fail
 go_ret
 exact ⟨rfl, by rw [HSS.out]; exact HBZ.out⟩
end Go.Proofs.YtaofjnidniekjaaGreatDoor
