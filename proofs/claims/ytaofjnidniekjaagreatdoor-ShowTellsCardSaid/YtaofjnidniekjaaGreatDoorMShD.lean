/- The contracts of Form, of package show and of package bushelref37: printed by gen_shwr.py. Conditions: those stated; the library's table of powers of ten is as the row lists it. -/
import Derived.Test.YtaofjnidniekjaaGreatDoorShwQ
import Derived.Test.YtaofjnidniekjaaGreatDoorParRp
namespace Go.Proofs.YtaofjnidniekjaaGreatDoor
open Go.RowKit

theorem TabS.below {w w' : World} (h : TabS w) (hb : Below w.heap.size w w') : TabS w' := by
 unfold TabS Lib.TabIs World.var? at *
 cases hg : Tryz.prog.globalNamed "internal/strconv.uint64pow10" with
 | none => simp [hg] at h
 | some g =>
  simp only [hg, Option.bind_some] at h ⊢
  have hlt : g < w.heap.size := by
   rcases Nat.lt_or_ge g w.heap.size with h' | h'
   ·exact h'
   ·rw [Array.getElem?_eq_none h'] at h; simp at h
  rw [hb.block g hlt]
  exact h
noncomputable def frmOut (s : Sch) : PR → ByteArray × Int × Int
 | .bad a e => (⟨#[]⟩, a, e)
 | .ok q => ((showS s q).1, 0, (showS s q).2)
noncomputable def formR (s : Sch) (t : ByteArray) : ByteArray × Int × Int := frmOut s (parseR s t)
def RForm (w : World) (p : PR) (r : ByteArray × Int × Int) (e : Ending) (w' : World) : Prop := e = .returned (.tuple #[.string r.1, .int .i64 r.2.1, .int .i64 r.2.2]) ∧ Below w.heap.size w w' ∧ ∀ q, p = .ok q → 0 ≤ q.group
theorem qp_at {q : QP} {fl : List Flt} (h : fl.map (fun f => (f.dim, f.codes)) = q.flts) : (q.at' fl).qp = q := by
 obtain ⟨g, f, c, o, l⟩ := q
 show (⟨g, fl.map (fun f => (f.dim, f.codes)), c, o, l⟩ : QP) = _
 rw [h]


set_option maxRecDepth 100000 in
set_option maxHeartbeats 2000000 in
theorem pform_any (w : World) (l : SchL) (s : Sch) (t : ByteArray) (h : SchAt w l s) (ht : t.size ≤ maxLen) (hTb : TabS w) :
  Calls Tryz.prog 12 #[l.val, .string t] w (RForm w (parseR s t) (formR s t)) := by
 obtain ⟨R, hR⟩ : ∃ r, parseR s t = r := ⟨_, rfl⟩
 have hmy := parse_may s t
 have HR0 := Lib.hid hR
 have HFR : Hid (formR s t = frmOut s R) := Lib.hid (by unfold formR; rw [hR])
 obtain ⟨ad, nd, cd, ai, ni, ci, an, nn, cn, av, nv, cv⟩ := l
 obtain ⟨hbx, hbw, hsz⟩ := boxed w 26 #[.slice ad nd cd, .slice ai ni ci, .slice an nn cn, .slice av nv cv]
 have HPA := Lib.hid (pparse_any _ ⟨ad, nd, cd, ai, ni, ci, an, nn, cn, av, nv, cv⟩ s (h.below hbw (Nat.le_refl _)) t ht)
 have HSH := Lib.hid (fun w' hb m q (hq : QryAt w' m q) => pshow_any w' ⟨ad, nd, cd, ai, ni, ci, an, nn, cn, av, nv, cv⟩ s m q (h.below (B := w.heap.size) hb (Nat.le_refl _)) hq (fun v hv => (hTb.below hb).below hv))
 rw [hR] at HPA hmy
 unfold SchL.val at HPA HSH ⊢
 dsimp only at HPA HSH ⊢
 have HMY := Lib.hid hmy
 have HBW := Lib.hid hbw
 have HK0 := Lib.hid (Blk.new w 26 #[.slice ad nd cd, .slice ai ni ci, .slice an nn cn, .slice av nv cv])
 have e0 := hbx 0
 have e1 := hbx 1
 have e2 := hbx 2
 have e3 := hbx 3
 simp only [List.getElem?_toArray, List.getElem?_cons_zero, List.getElem?_cons_succ] at e0 e1 e2 e3
 have HLT : Hid (w.heap.size ≤ (w.alloc (.cells #[.slice ad nd cd, .slice ai ni ci, .slice an nn cn, .slice av nv cv] 26)).heap.size) := Lib.hid (by rw [hsz]; omega)
 clear h hbx hbw hsz hR ht hmy hTb
 go_enter Tryz.func12, Tryz.ntmps12
 go_upto_region 1 with fail
 generalize (w.alloc (.cells #[.slice ad nd cd, .slice ai ni ci, .slice an nn cn, .slice av nv cv] 26)) = w0 at *
 obtain ⟨S, hS⟩ : ∃ S, w.heap.size = S := ⟨_, rfl⟩
 have HSS := Lib.hid hS
 rw [hS] at HBW HK0 HLT HSH e0 e1 e2 e3
 clear hS
 rw [HSS.out]
 go_wp2_with fail
 refine HPA.out.mono ?_
 intro e w1 hret
 rcases R with ⟨a, er⟩ | q
 ·obtain ⟨rfl, hb1⟩ := hret
  have HB1 := Lib.hid (HBW.out.trans (hb1.mono HLT.out))
  have HL1 : Hid (S ≤ w1.heap.size) := Lib.hid (Nat.le_trans HLT.out hb1.size)
  have t1 : (er != 0) = true := by rw [bne_iff_ne]; exact HMY.out.1
  clear hb1 e0 e1 e2 e3
  unfold zeroQ
  go_upto_region 2 with fail
  have hw2 : Below S w (w1.alloc (.cells #[.int .u32 0, .slice none 0 0, .slice none 0 0, .slice none 0 0, .int .i64 0] 32)) := HB1.out.alloc HL1.out _
  generalize (w1.alloc (.cells #[.int .u32 0, .slice none 0 0, .slice none 0 0, .slice none 0 0, .int .i64 0] 32)) = w2 at *
  have HB2 := Lib.hid hw2
  clear hw2
  go_wp2_with fail
  exact bodyPost_ret (v := .tuple #[.string ⟨#[]⟩, .int .i64 a, .int .i64 er]) (by simp [results, Tryz.results12, go_sem]) rfl ⟨by rw [HFR.out]; rfl, by rw [HSS.out]; exact HB2.out, fun q hq => by rw [HR0.out] at hq; cases hq⟩
 ·obtain ⟨⟨af, nf, cf, ac, nc, cc, ao, no, co⟩, fl, rfl, hq, hf, hb1⟩ := hret
  have HB1 := Lib.hid (HBW.out.trans (hb1.mono HLT.out))
  have HL1 : Hid (S ≤ w1.heap.size) := Lib.hid (Nat.le_trans HLT.out hb1.size)
  have HK1 := Lib.hid (HK0.out.below hb1 HK0.out.lt)
  have HQP := Lib.hid (qp_at hf)
  have HGZ : Hid (0 ≤ q.group) := Lib.hid hq.2.2.2.2.2.1.1
  have HQ1 := Lib.hid hq
  clear hb1 e0 e1 e2 e3 hq hf
  obtain ⟨g, fq, cq, oq, lm⟩ := q
  unfold QryL.val
  dsimp only [QP.at']
  go_upto_region 2 with fail
  have hw2 : Below S w (w1.alloc (.cells #[.int .u32 g, .slice af nf cf, .slice ac nc cc, .slice ao no co, .int .i64 lm] 32)) := HB1.out.alloc HL1.out _
  have hw3 : Below w1.heap.size w1 (w1.alloc (.cells #[.int .u32 g, .slice af nf cf, .slice ac nc cc, .slice ao no co, .int .i64 lm] 32)) := (Below.refl _ _).alloc (Nat.le_refl _) _
  have hk2 := Blk.new w1 32 #[.int .u32 g, .slice af nf cf, .slice ac nc cc, .slice ao no co, .int .i64 lm]
  generalize (w1.alloc (.cells #[.int .u32 g, .slice af nf cf, .slice ac nc cc, .slice ao no co, .int .i64 lm] 32)) = w2 at *
  have HB2 := Lib.hid hw2
  have HS2 := Lib.hid (HK1.out.below hw3 HK1.out.lt)
  have HSW := Lib.hid (HSH.out w2 hw2 ⟨af, nf, cf, ac, nc, cc, ao, no, co⟩ _ (HQ1.out.below hw3 (Nat.le_refl _)))
  rw [HQP.out] at HSW
  unfold QryL.val at HSW
  dsimp only [QP.at'] at HSW
  have HL2 : Hid (S ≤ w2.heap.size) := Lib.hid (Nat.le_trans HL1.out hw3.size)
  generalize w1.heap.size = T at hk2 ⊢
  have e0 : w2.cell? ⟨S, 0, none⟩ = some (.slice ad nd cd) := HS2.out.cell 0
  have e1 : w2.cell? ⟨S, 1, none⟩ = some (.slice ai ni ci) := HS2.out.cell 1
  have e2 : w2.cell? ⟨S, 2, none⟩ = some (.slice an nn cn) := HS2.out.cell 2
  have e3 : w2.cell? ⟨S, 3, none⟩ = some (.slice av nv cv) := HS2.out.cell 3
  have y0 : w2.cell? ⟨T, 0, none⟩ = some (.int .u32 g) := hk2.cell 0
  have y1 : w2.cell? ⟨T, 1, none⟩ = some (.slice af nf cf) := hk2.cell 1
  have y2 : w2.cell? ⟨T, 2, none⟩ = some (.slice ac nc cc) := hk2.cell 2
  have y3 : w2.cell? ⟨T, 3, none⟩ = some (.slice ao no co) := hk2.cell 3
  have y4 : w2.cell? ⟨T, 4, none⟩ = some (.int .i64 lm) := hk2.cell 4
  obtain ⟨⟨tt, er⟩, hsr⟩ : ∃ r, showS s ⟨g, fq, cq, oq, lm⟩ = r := ⟨_, rfl⟩
  have HC : Hid (formR s t = (tt, 0, er)) := Lib.hid (by rw [HFR.out]; unfold frmOut; dsimp only; rw [hsr])
  rw [hsr] at HSW
  clear hw2 hw3 hk2 hsr
  go_wp2_with fail
  refine HSW.out.mono ?_
  rintro e w3 ⟨rfl, hb3⟩
  have HB3 := Lib.hid (HB2.out.trans (hb3.mono HL2.out))
  clear hb3 e0 e1 e2 e3 y0 y1 y2 y3 y4
  go_wp2_with fail
  exact bodyPost_ret (v := .tuple #[.string tt, .int .i64 0, .int .i64 er]) (by simp [results, Tryz.results12, go_sem]) rfl ⟨by rw [HC.out], by rw [HSS.out]; exact HB3.out, fun q hq => by rw [HR0.out] at hq; cases hq; exact HGZ.out⟩


end Go.Proofs.YtaofjnidniekjaaGreatDoor
/- What Show's text is read as (plain), and the chapter's example of show: bushellaw37.awake. Conditions: the library's table of powers of ten is as the row lists it. -/
namespace Go.Proofs.YtaofjnidniekjaaGreatDoor
open Go.RowKit

theorem showS_ok {s : Sch} {q : QP} {t : ByteArray} (h : showS s q = (t, 0)) : qchk s q.qry = 0 ∧ q.limit ≤ 999999999 ∧ t = showTx s q ∧ ∃ L, lexAll t = .ok L := by
 unfold showS at h
 split at h
 ·rename_i h0
  have h1 := congrArg Prod.snd h
  simp only at h1
  omega
 rename_i h0
 split at h
 ·have h1 := congrArg Prod.snd h
  simp only at h1
  omega
 rename_i h1
 cases hl : lexAll (showTx s q) with
 | bad a er =>
  rw [hl] at h
  have h1 := congrArg Prod.snd h
  unfold lxOut at h1
  simp only at h1
  omega
 | ok L =>
  rw [hl] at h
  have h2 : showTx s q = t := congrArg Prod.fst h
  exact ⟨by omega, by omega, h2.symm, L, by rw [← h2]; exact hl⟩
/-- what Show says is read as the same query -/
theorem shown_read {s : Sch} {q : QP} {t : ByteArray} (h : showS s q = (t, 0)) (hg : 0 ≤ q.group) : parseR s t = .ok q := by
 obtain ⟨h1, h2, h3, L, h4⟩ := showS_ok h
 exact show_parse tells_itoa h1 hg h2 (by rw [h3, put_show]; rfl) h4
/-- the example's text, its form, its query -/
def exFI : ByteArray := ⟨#[115, 101, 108, 101, 99, 116, 32, 99, 111, 117, 110, 116, 44, 115, 117, 109, 40, 109, 41, 32, 98, 121, 32, 97, 32, 119, 104, 101, 114, 101, 32, 98, 32, 105, 110, 40, 49, 44, 50, 41, 97, 110, 100, 32, 97, 32, 105, 110, 40, 48, 41, 32, 111, 114, 100, 101, 114, 32, 50, 32, 100, 101, 115, 99, 44, 49, 32, 97, 115, 99, 32, 108, 105, 109, 105, 116, 32, 53]⟩
def exFO : ByteArray := ⟨#[115, 101, 108, 101, 99, 116, 32, 99, 111, 117, 110, 116, 44, 32, 115, 117, 109, 40, 109, 41, 32, 98, 121, 32, 97, 32, 119, 104, 101, 114, 101, 32, 98, 32, 105, 110, 32, 40, 49, 44, 32, 50, 41, 32, 97, 110, 100, 32, 97, 32, 61, 32, 48, 32, 111, 114, 100, 101, 114, 32, 50, 32, 100, 101, 115, 99, 44, 32, 49, 32, 108, 105, 109, 105, 116, 32, 53]⟩
def exFTok : List Tok := match lexAll exFI with
 | .ok l => l
 | .bad _ _ => []
def exFTok2 : List Tok := match lexAll exFO with
 | .ok l => l
 | .bad _ _ => []
theorem exFI_lex : lexAll exFI = .ok exFTok := by kernel_rfl
theorem exFO_lex : lexAll exFO = .ok exFTok2 := by kernel_rfl
def exFQ : QP := ⟨1, [(1, [1, 2]), (0, [0])], [(0, 0), (1, 0)], [(1, true), (0, false)], 5⟩
theorem exFI_query : queryS (dimN exP) (measN exP) exFTok = .ok (exFTok.length - 1, exFQ) := by kernel_rfl
theorem exF_chk : qchk exP exFQ.qry = 0 := by
 unfold qchk fchk
 rw [exP_ok]
 decide
theorem exFI_parse : parseR exP exFI = .ok exFQ := by
 unfold parseR
 rw [exP_ok, if_neg (by decide), exFI_lex]
 dsimp only
 rw [exFI_query]
 dsimp only
 rw [exF_chk, if_neg (by decide)]
theorem exF_text : showTx exP exFQ = exFO := by
 unfold showTx showB
 kernel_rfl
theorem exF_show : showS exP exFQ = (exFO, 0) := by
 unfold showS
 rw [exF_chk, if_neg (by decide), if_neg (by decide), exF_text, exFO_lex]
 rfl
theorem exF_form : formR exP exFI = (exFO, 0, 0) := by
 unfold formR
 rw [exFI_parse]
 unfold frmOut
 dsimp only
 rw [exF_show]
end Go.Proofs.YtaofjnidniekjaaGreatDoor
/- The chapter's example of show, and the walks of the laws ShowTells and ShowForms: printed by gen_shwt.py. Conditions: those stated; the library's table of powers of ten is as the row lists it. -/
namespace Go.Proofs.YtaofjnidniekjaaGreatDoor
open Go.RowKit

set_option maxRecDepth 100000 in
set_option maxHeartbeats 2000000 in
theorem awakeS_any (w : World) (hT : TabS w) : Calls Tryz.prog 7 #[] w fun e w' => e = .returned (.bool true) ∧ Below w.heap.size w w' := by
 go_enter Tryz.func7, Tryz.ntmps7
 go_upto_region 2 with fail
 have hb0 : Below w.heap.size w (((w.alloc (.cells #[.string ⟨#[97]⟩, .int .i64 4, .string ⟨#[98]⟩, .int .i64 4] 53)).alloc (.cells #[.string ⟨#[109]⟩] 9)).alloc (.cells #[.slice (some ⟨w.heap.size, 0, none⟩) 2 2, .slice (some ⟨w.heap.size + 1, 0, none⟩) 1 1, .slice none 0 0, .slice none 0 0] 26)) := (((Below.refl _ _).alloc (Nat.le_refl _) _).alloc (by simp) _).alloc (by simp; omega) _
 have hk0 : Blk (((w.alloc (.cells #[.string ⟨#[97]⟩, .int .i64 4, .string ⟨#[98]⟩, .int .i64 4] 53)).alloc (.cells #[.string ⟨#[109]⟩] 9)).alloc (.cells #[.slice (some ⟨w.heap.size, 0, none⟩) 2 2, .slice (some ⟨w.heap.size + 1, 0, none⟩) 1 1, .slice none 0 0, .slice none 0 0] 26)) w.heap.size 53 #[.string ⟨#[97]⟩, .int .i64 4, .string ⟨#[98]⟩, .int .i64 4] := ((Blk.new w _ _).alloc _).alloc _
 have hk1 : Blk (((w.alloc (.cells #[.string ⟨#[97]⟩, .int .i64 4, .string ⟨#[98]⟩, .int .i64 4] 53)).alloc (.cells #[.string ⟨#[109]⟩] 9)).alloc (.cells #[.slice (some ⟨w.heap.size, 0, none⟩) 2 2, .slice (some ⟨w.heap.size + 1, 0, none⟩) 1 1, .slice none 0 0, .slice none 0 0] 26)) (w.heap.size + 1) 9 #[.string ⟨#[109]⟩] := by
  have h := Blk.new (w.alloc (.cells #[.string ⟨#[97]⟩, .int .i64 4, .string ⟨#[98]⟩, .int .i64 4] 53)) 9 #[.string ⟨#[109]⟩]
  rw [World.size_alloc] at h
  exact h.alloc _
 have hk2 : Blk (((w.alloc (.cells #[.string ⟨#[97]⟩, .int .i64 4, .string ⟨#[98]⟩, .int .i64 4] 53)).alloc (.cells #[.string ⟨#[109]⟩] 9)).alloc (.cells #[.slice (some ⟨w.heap.size, 0, none⟩) 2 2, .slice (some ⟨w.heap.size + 1, 0, none⟩) 1 1, .slice none 0 0, .slice none 0 0] 26)) (w.heap.size + 1 + 1) 26 #[.slice (some ⟨w.heap.size, 0, none⟩) 2 2, .slice (some ⟨w.heap.size + 1, 0, none⟩) 1 1, .slice none 0 0, .slice none 0 0] := by
  have h := Blk.new ((w.alloc (.cells #[.string ⟨#[97]⟩, .int .i64 4, .string ⟨#[98]⟩, .int .i64 4] 53)).alloc (.cells #[.string ⟨#[109]⟩] 9)) 26 #[.slice (some ⟨w.heap.size, 0, none⟩) 2 2, .slice (some ⟨w.heap.size + 1, 0, none⟩) 1 1, .slice none 0 0, .slice none 0 0]
  rw [World.size_alloc, World.size_alloc] at h
  exact h
 have hT0 := hT.below hb0
 generalize (((w.alloc (.cells #[.string ⟨#[97]⟩, .int .i64 4, .string ⟨#[98]⟩, .int .i64 4] 53)).alloc (.cells #[.string ⟨#[109]⟩] 9)).alloc (.cells #[.slice (some ⟨w.heap.size, 0, none⟩) 2 2, .slice (some ⟨w.heap.size + 1, 0, none⟩) 1 1, .slice none 0 0, .slice none 0 0] 26)) = W0 at *
 have HFO := Lib.hid (pform_any W0 (exPL w.heap.size) exP exFI (exP_at hk0 hk1) (by decide) hT0)
 rw [exF_form] at HFO
 obtain ⟨S, hS⟩ : ∃ S, w.heap.size = S := ⟨_, rfl⟩
 have HSS := Lib.hid hS
 unfold SchL.val exPL exFI at HFO
 rw [hS] at HFO hb0 hk0 hk1 hk2 ⊢
 dsimp only at HFO
 have HB0 := Lib.hid hb0
 have HZ0 : Hid (S ≤ W0.heap.size) := Lib.hid (Nat.le_of_lt hk0.lt)
 have x0 := hk2.cell 0
 have x1 := hk2.cell 1
 have x2 := hk2.cell 2
 have x3 := hk2.cell 3
 simp only [List.getElem?_toArray, List.getElem?_cons_zero, List.getElem?_cons_succ] at x0 x1 x2 x3
 clear hS hb0 hk0 hk1 hk2 hT hT0
 go_wp2_with fail
 refine HFO.out.mono ?_
 rintro e w1 ⟨rfl, hb1, -⟩
 have HB1 := Lib.hid (HB0.out.trans (hb1.mono HZ0.out))
 clear hb1 x0 x1 x2 x3 HFO
 dsimp only
 unfold exFO
 go_wp2_with fail
 go_ret
 exact ⟨rfl, by rw [HSS.out]; exact HB1.out⟩


set_option maxRecDepth 100000 in
set_option maxHeartbeats 4000000 in
theorem walk_showtells (l : SchL) (s : Sch) (m : QryL) (q : Qry) (w : World) (h : SchAt w l s) (hq : QryAt w m q) (hT : TabS w) :
  Calls Tryz.prog 3 #[l.val, m.val q] w fun e w' => e = .returned (.bool true) ∧ Below w.heap.size w w' := by
 obtain ⟨⟨t, er⟩, hsr⟩ : ∃ r, showS s q.qp = r := ⟨_, rfl⟩
 have HR := Lib.hid hsr
 have HLI := Lib.hid (fun (w' : World) (hb : Below w.heap.size w w') => rlight_any w' l s (h.below hb (Nat.le_refl _)))
 have HLQ := Lib.hid (fun (w' : World) (hb : Below w.heap.size w w') => rqlight_any w' m q (hq.below hb (Nat.le_refl _)))
 have HSP := Lib.hid (fun (w' : World) (hb : Below w.heap.size w w') => pshow_any w' l s m q (h.below hb (Nat.le_refl _)) (hq.below hb (Nat.le_refl _)) (fun v hv => (hT.below hb).below hv))
 have HSR := Lib.hid (fun (w' : World) (hb : Below w.heap.size w w') => rshow_any w' l s m q (h.below hb (Nat.le_refl _)) (hq.below hb (Nat.le_refl _)))
 have HPP := Lib.hid (fun (w' : World) (hb : Below w.heap.size w w') (t : ByteArray) (ht : t.size ≤ maxLen) => pparse_any w' l s (h.below hb (Nat.le_refl _)) t ht)
 have HT := Lib.hid (fun (w' : World) (hb : Below w.heap.size w w') => hT.below hb)
 have HQW := Lib.hid (fun (w' : World) (hb : Below w.heap.size w w') => hq.below hb (Nat.le_refl _))
 have HSZ := Lib.hid (fun (w' : World) (hb : Below w.heap.size w w') => hb.size)
 have HG0 : Hid (0 ≤ q.qp.group) := Lib.hid hq.2.2.2.2.2.1.1
 have HTZ : Hid (er = 0 → t.size ≤ maxLen) := Lib.hid (fun h0 => by
  subst h0
  obtain ⟨h1, h2, h3, -⟩ := showS_ok hsr
  rw [h3]
  exact tx_size (by rw [← qp_chk]; exact h1) hq.2.2.2.2.2.2.1.2 (fun f hf n hn => ((hq.1.2.2 f hf).2.2.2 n hn).2))
 rw [hsr] at HSP HSR
 clear hsr h hT
 obtain ⟨ad, nd, cd, ai, ni, ci, an, nn, cn, av, nv, cv⟩ := l
 obtain ⟨af, nf, cf, ac, nc, cc, ao, no, co⟩ := m
 obtain ⟨gr, fq, cq, oq, lm⟩ := q
 clear hq
 unfold SchL.val QryL.val at HSP HSR ⊢
 unfold SchL.val at HLI HPP
 unfold QryL.val at HLQ
 dsimp only at HSP HSR HLI HLQ HPP ⊢

 obtain ⟨hbx, hby, hbw, hsz⟩ := two_pbox w 26 32 #[.slice ad nd cd, .slice ai ni ci, .slice an nn cn, .slice av nv cv] #[.int .u32 gr, .slice af nf cf, .slice ac nc cc, .slice ao no co, .int .i64 lm]
 have HBW := Lib.hid hbw
 have HKS : Hid (Blk ((w.alloc (.cells #[.slice ad nd cd, .slice ai ni ci, .slice an nn cn, .slice av nv cv] 26)).alloc (.cells #[.int .u32 gr, .slice af nf cf, .slice ac nc cc, .slice ao no co, .int .i64 lm] 32)) w.heap.size 26 #[.slice ad nd cd, .slice ai ni ci, .slice an nn cn, .slice av nv cv]) := Lib.hid ((Blk.new w _ _).alloc _)
 have HKQ : Hid (Blk ((w.alloc (.cells #[.slice ad nd cd, .slice ai ni ci, .slice an nn cn, .slice av nv cv] 26)).alloc (.cells #[.int .u32 gr, .slice af nf cf, .slice ac nc cc, .slice ao no co, .int .i64 lm] 32)) (w.heap.size + 1) 32 #[.int .u32 gr, .slice af nf cf, .slice ac nc cc, .slice ao no co, .int .i64 lm]) := Lib.hid (by
  have h := Blk.new (w.alloc (.cells #[.slice ad nd cd, .slice ai ni ci, .slice an nn cn, .slice av nv cv] 26)) 32 #[.int .u32 gr, .slice af nf cf, .slice ac nc cc, .slice ao no co, .int .i64 lm]
  rw [World.size_alloc] at h
  exact h)

 clear hbw hbx hby hsz
 go_enter Tryz.func3, Tryz.ntmps3
 go_upto_region 1 with fail
 generalize ((w.alloc (.cells #[.slice ad nd cd, .slice ai ni ci, .slice an nn cn, .slice av nv cv] 26)).alloc (.cells #[.int .u32 gr, .slice af nf cf, .slice ac nc cc, .slice ao no co, .int .i64 lm] 32)) = w0 at *
 obtain ⟨S, hS⟩ : ∃ S, w.heap.size = S := ⟨_, rfl⟩
 have HSS := Lib.hid hS
 rw [hS] at HBW HKS HKQ HLI HLQ HSP HSR HPP HT HQW HSZ
 clear hS
 rw [HSS.out]
 have HB0 := HBW
 have e0 : w0.cell? ⟨S, 0, none⟩ = some (.slice ad nd cd) := HKS.out.cell 0
 have e1 : w0.cell? ⟨S, 1, none⟩ = some (.slice ai ni ci) := HKS.out.cell 1
 have e2 : w0.cell? ⟨S, 2, none⟩ = some (.slice an nn cn) := HKS.out.cell 2
 have e3 : w0.cell? ⟨S, 3, none⟩ = some (.slice av nv cv) := HKS.out.cell 3
 go_wp2_with fail
 refine (HLI.out _ HB0.out).mono ?_
 rintro e w1 ⟨b1, rfl, -, hb1⟩
 have HB1 := Lib.hid (HB0.out.trans (hb1.mono (HSZ.out _ HB0.out)))
 have HS1 := Lib.hid (HKS.out.below hb1 HKS.out.lt)
 have HQ1 := Lib.hid (HKQ.out.below hb1 HKQ.out.lt)
 clear hb1 e0 e1 e2 e3 HLI
 rcases b1 with _ | _
 ·go_wp2_with fail
  refine (awakeS_any w1 (HT.out _ HB1.out)).mono ?_
  rintro e wz ⟨rfl, hbz⟩
  have HBZ := Lib.hid (HB1.out.trans (hbz.mono (HSZ.out _ HB1.out)))
  clear hbz
  go_wp2_with fail
  go_ret
  exact ⟨rfl, by rw [HSS.out]; exact HBZ.out⟩
 have y0 : w1.cell? ⟨S + 1, 0, none⟩ = some (.int .u32 gr) := HQ1.out.cell 0
 have y1 : w1.cell? ⟨S + 1, 1, none⟩ = some (.slice af nf cf) := HQ1.out.cell 1
 have y2 : w1.cell? ⟨S + 1, 2, none⟩ = some (.slice ac nc cc) := HQ1.out.cell 2
 have y3 : w1.cell? ⟨S + 1, 3, none⟩ = some (.slice ao no co) := HQ1.out.cell 3
 have y4 : w1.cell? ⟨S + 1, 4, none⟩ = some (.int .i64 lm) := HQ1.out.cell 4
 go_wp2_with fail
 refine (HLQ.out _ HB1.out).mono ?_
 rintro e w2 ⟨⟨b2, rfl⟩, hb2⟩
 have HB2 := Lib.hid (HB1.out.trans (hb2.mono (HSZ.out _ HB1.out)))
 have HS2 := Lib.hid (HS1.out.below hb2 HS1.out.lt)
 have HQ2 := Lib.hid (HQ1.out.below hb2 HQ1.out.lt)
 clear hb2 y0 y1 y2 y3 y4 HLQ
 rcases b2 with _ | _
 ·go_wp2_with fail
  refine (awakeS_any w2 (HT.out _ HB2.out)).mono ?_
  rintro e wz ⟨rfl, hbz⟩
  have HBZ := Lib.hid (HB2.out.trans (hbz.mono (HSZ.out _ HB2.out)))
  clear hbz
  go_wp2_with fail
  go_ret
  exact ⟨rfl, by rw [HSS.out]; exact HBZ.out⟩
 have e0 : w2.cell? ⟨S, 0, none⟩ = some (.slice ad nd cd) := HS2.out.cell 0
 have e1 : w2.cell? ⟨S, 1, none⟩ = some (.slice ai ni ci) := HS2.out.cell 1
 have e2 : w2.cell? ⟨S, 2, none⟩ = some (.slice an nn cn) := HS2.out.cell 2
 have e3 : w2.cell? ⟨S, 3, none⟩ = some (.slice av nv cv) := HS2.out.cell 3
 have y0 : w2.cell? ⟨S + 1, 0, none⟩ = some (.int .u32 gr) := HQ2.out.cell 0
 have y1 : w2.cell? ⟨S + 1, 1, none⟩ = some (.slice af nf cf) := HQ2.out.cell 1
 have y2 : w2.cell? ⟨S + 1, 2, none⟩ = some (.slice ac nc cc) := HQ2.out.cell 2
 have y3 : w2.cell? ⟨S + 1, 3, none⟩ = some (.slice ao no co) := HQ2.out.cell 3
 have y4 : w2.cell? ⟨S + 1, 4, none⟩ = some (.int .i64 lm) := HQ2.out.cell 4
 go_wp2_with fail
 refine (HSP.out _ HB2.out).mono ?_
 rintro e w3 ⟨rfl, hb3⟩
 have HB3 := Lib.hid (HB2.out.trans (hb3.mono (HSZ.out _ HB2.out)))
 have HS3 := Lib.hid (HS2.out.below hb3 HS2.out.lt)
 have HQ3 := Lib.hid (HQ2.out.below hb3 HQ2.out.lt)
 clear hb3 e0 e1 e2 e3 y0 y1 y2 y3 y4 HSP
 have e0 : w3.cell? ⟨S, 0, none⟩ = some (.slice ad nd cd) := HS3.out.cell 0
 have e1 : w3.cell? ⟨S, 1, none⟩ = some (.slice ai ni ci) := HS3.out.cell 1
 have e2 : w3.cell? ⟨S, 2, none⟩ = some (.slice an nn cn) := HS3.out.cell 2
 have e3 : w3.cell? ⟨S, 3, none⟩ = some (.slice av nv cv) := HS3.out.cell 3
 have y0 : w3.cell? ⟨S + 1, 0, none⟩ = some (.int .u32 gr) := HQ3.out.cell 0
 have y1 : w3.cell? ⟨S + 1, 1, none⟩ = some (.slice af nf cf) := HQ3.out.cell 1
 have y2 : w3.cell? ⟨S + 1, 2, none⟩ = some (.slice ac nc cc) := HQ3.out.cell 2
 have y3 : w3.cell? ⟨S + 1, 3, none⟩ = some (.slice ao no co) := HQ3.out.cell 3
 have y4 : w3.cell? ⟨S + 1, 4, none⟩ = some (.int .i64 lm) := HQ3.out.cell 4
 go_wp2_with fail
 refine (HSR.out _ HB3.out).mono ?_
 rintro e w4 ⟨rfl, hb4⟩
 have HB4 := Lib.hid (HB3.out.trans (hb4.mono (HSZ.out _ HB3.out)))
 have HS4 := Lib.hid (HS3.out.below hb4 HS3.out.lt)
 have HQ4 := Lib.hid (HQ3.out.below hb4 HQ3.out.lt)
 clear hb4 e0 e1 e2 e3 y0 y1 y2 y3 y4 HSR
 by_cases her : er = 0
 case neg =>
  have t1 : (er != 0) = true := by rw [bne_iff_ne]; exact her
  clear her
  go_wp2_with fail
  refine (awakeS_any w4 (HT.out _ HB4.out)).mono ?_
  rintro e wz ⟨rfl, hbz⟩
  have HBZ := Lib.hid (HB4.out.trans (hbz.mono (HSZ.out _ HB4.out)))
  clear hbz
  go_wp2_with fail
  go_ret
  exact ⟨rfl, by rw [HSS.out]; exact HBZ.out⟩
 case pos =>
 subst her
 have HSD := Lib.hid (shown_read HR.out HG0.out)
 have HPA := Lib.hid (HPP.out w4 HB4.out t (HTZ.out rfl))
 rw [HSD.out] at HPA
 have e0 : w4.cell? ⟨S, 0, none⟩ = some (.slice ad nd cd) := HS4.out.cell 0
 have e1 : w4.cell? ⟨S, 1, none⟩ = some (.slice ai ni ci) := HS4.out.cell 1
 have e2 : w4.cell? ⟨S, 2, none⟩ = some (.slice an nn cn) := HS4.out.cell 2
 have e3 : w4.cell? ⟨S, 3, none⟩ = some (.slice av nv cv) := HS4.out.cell 3
 clear HPP HTZ
 go_wp2_with fail
 refine HPA.out.mono ?_
 rintro e w5 ⟨⟨bf, nf1, df, bc, nc1, dc, bo, no1, eo⟩, fl, rfl, hq5, hf5, hb5⟩
 have HB5 := Lib.hid (HB4.out.trans (hb5.mono (HSZ.out _ HB4.out)))
 have HQ5 := Lib.hid (HQ4.out.below hb5 HQ4.out.lt)
 clear hb5 e0 e1 e2 e3 HPA
 unfold QryL.val
 dsimp only [QP.at', Qry.qp]
 go_upto_region 10 with fail
 have hw6 : Below S w (w5.alloc (.cells #[.int .u32 gr, .slice bf nf1 df, .slice bc nc1 dc, .slice bo no1 eo, .int .i64 lm] 32)) := HB5.out.alloc (HSZ.out _ HB5.out) _
 have hw7 : Below w5.heap.size w5 (w5.alloc (.cells #[.int .u32 gr, .slice bf nf1 df, .slice bc nc1 dc, .slice bo no1 eo, .int .i64 lm] 32)) := (Below.refl _ _).alloc (Nat.le_refl _) _
 have hk6 := Blk.new w5 32 #[.int .u32 gr, .slice bf nf1 df, .slice bc nc1 dc, .slice bo no1 eo, .int .i64 lm]
 generalize (w5.alloc (.cells #[.int .u32 gr, .slice bf nf1 df, .slice bc nc1 dc, .slice bo no1 eo, .int .i64 lm] 32)) = w6 at *
 have HB6 := Lib.hid hw6
 have HQ6 := Lib.hid (HQ5.out.below hw7 HQ5.out.lt)
 have HSM := Lib.hid (rqsame_any w6 ⟨bf, nf1, df, bc, nc1, dc, bo, no1, eo⟩ ⟨af, nf, cf, ac, nc, cc, ao, no, co⟩ (Qry.qp ⟨gr, fq, cq, oq, lm⟩) fl fq (hq5.below hw7 (Nat.le_refl _)) (HQW.out _ hw6) hf5)
 unfold QryL.val at HSM
 dsimp only [QP.at', Qry.qp] at HSM
 generalize w5.heap.size = T at hk6 ⊢
 have x0 : w6.cell? ⟨T, 0, none⟩ = some (.int .u32 gr) := hk6.cell 0
 have x1 : w6.cell? ⟨T, 1, none⟩ = some (.slice bf nf1 df) := hk6.cell 1
 have x2 : w6.cell? ⟨T, 2, none⟩ = some (.slice bc nc1 dc) := hk6.cell 2
 have x3 : w6.cell? ⟨T, 3, none⟩ = some (.slice bo no1 eo) := hk6.cell 3
 have x4 : w6.cell? ⟨T, 4, none⟩ = some (.int .i64 lm) := hk6.cell 4
 have y0 : w6.cell? ⟨S + 1, 0, none⟩ = some (.int .u32 gr) := HQ6.out.cell 0
 have y1 : w6.cell? ⟨S + 1, 1, none⟩ = some (.slice af nf cf) := HQ6.out.cell 1
 have y2 : w6.cell? ⟨S + 1, 2, none⟩ = some (.slice ac nc cc) := HQ6.out.cell 2
 have y3 : w6.cell? ⟨S + 1, 3, none⟩ = some (.slice ao no co) := HQ6.out.cell 3
 have y4 : w6.cell? ⟨S + 1, 4, none⟩ = some (.int .i64 lm) := HQ6.out.cell 4
 clear hw6 hw7 hk6 hq5 hf5
 go_wp2_with fail
 refine HSM.out.mono ?_
 rintro e w7 ⟨rfl, hb7⟩
 have HB7 := Lib.hid (HB6.out.trans (hb7.mono (HSZ.out _ HB6.out)))
 clear hb7 HSM x0 x1 x2 x3 x4 y0 y1 y2 y3 y4
 go_wp2_with fail
 refine (awakeS_any w7 (HT.out _ HB7.out)).mono ?_
 rintro e wz ⟨rfl, hbz⟩
 have HBZ := Lib.hid (HB7.out.trans (hbz.mono (HSZ.out _ HB7.out)))
 clear hbz
 go_wp2_with fail
 go_ret
 exact ⟨rfl, by rw [HSS.out]; exact HBZ.out⟩

end Go.Proofs.YtaofjnidniekjaaGreatDoor
