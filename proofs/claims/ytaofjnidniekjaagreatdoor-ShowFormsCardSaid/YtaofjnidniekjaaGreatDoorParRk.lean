/- The contract of package bushelref36's Parse: it answers as the plain definition says. Conditions: those stated. -/
import Derived.Test.YtaofjnidniekjaaGreatDoorMRfC
import Derived.Test.YtaofjnidniekjaaGreatDoorMRs1
import Derived.Test.YtaofjnidniekjaaGreatDoorLexH
namespace Go.Proofs.YtaofjnidniekjaaGreatDoor
open Go.RowKit

theorem StG.mono {G G' : Nat → Prop} {X : RX} {m : QryL} {fl : List Flt} {p : PState} {w : World} (h : StG G X m fl p w) (hg : ∀ g, g < w.heap.size → G g → G' g) : StG G' X m fl p w := fun wx ha => h wx ⟨ha.os, ha.tape, ha.output, ha.size, fun g hl hG => ha.block g hl (hg g hl hG)⟩
theorem two_pos' (n : Nat) : (0 : Int) < 2 ^ n := by
 have := Nat.two_pow_pos n
 have e : ((2 ^ n : Nat) : Int) = 2 ^ n := by rw [Int.natCast_pow]; rfl
 omega
def nulL : QryL := ⟨none, 0, 0, none, 0, 0, none, 0, 0⟩
theorem stg_nul (X : RX) (w : World) (p : PState) (hq : p.q = QP.nul) (ha : p.at' < X.L.length) : StG (fun _ => False) X nulL [] p w := fun wx _ => by
 refine ⟨?_, by rw [hq]; rfl, by rw [hq]; exact ⟨Int.le_refl 0, two_pos' _⟩, fun _ => by rw [hq]; exact ⟨Nat.zero_le _, Nat.zero_le _, Nat.zero_le _⟩, ha⟩
 rw [hq]
 exact ⟨⟨⟨rfl, Nat.le_refl _, Nat.zero_le _, .inl rfl⟩, rfl, (fun f hf => nomatch hf)⟩, ⟨rfl, Nat.le_refl _, Nat.zero_le _, .inl rfl⟩, rfl, ⟨rfl, Nat.le_refl _, Nat.zero_le _, .inl rfl⟩, rfl, ⟨Int.le_refl 0, show (0 : Int) ≤ 4294967295 by decide⟩, i64_small (x := 0) (by decide) (by decide), (fun f hf => nomatch hf), (fun f hf => nomatch hf)⟩
/-- the parts behind the columns -/
def hdR (k : Nat) : List UInt8 := if k = 1 then [98, 121] else if k = 2 then [119, 104, 101, 114, 101] else [111, 114, 100, 101, 114]
def btR (k : Nat) : List UInt8 := if k = 2 then [97, 110, 100] else [44]
def stR (X : RX) : Nat → PState
 | 0 => partR (oneR X 0) X.L [44] X.L.length (wantR X.L ⟨0, QP.nul, 0⟩ [115, 101, 108, 101, 99, 116])
 | k + 1 => stepR (oneR X (k + 1)) X.L (hdR (k + 1)) (btR (k + 1)) (stR X k)
theorem stR_says (X : RX) : queryR (dimN X.s) (measN X.s) X.L = endR X.L (limR X.L (stR X 3)) := rfl

set_option maxRecDepth 100000 in
set_option maxHeartbeats 4000000 in
theorem vparse_any (w : World) (l : SchL) (s : Sch) (h : SchAt w l s) (t : ByteArray) (ht : t.size ≤ maxLen)
  (hck : ∀ (w' : World) (m : QryL) (q : Qry), SchAt w' l s → QryAt w' m q → Calls Tryz.prog 22 #[l.val, m.val q] w' (fun e w'' => e = .returned (.int .i64 (qchk s q : Nat)) ∧ Below w'.heap.size w' w'')) :
  Calls Tryz.prog 29 #[l.val, .string t] w (RParse w (parseR s t)) := by
 have HSO := Lib.hid (fun (w' : World) (hb : Below w.heap.size w w') => h.below hb (Nat.le_refl _))
 have HT := Lib.hid ht
 have HCK := Lib.hid hck
 obtain ⟨ad, nd, cd, ai, ni, ci, an, nn, cn, av, nv, cv⟩ := l
 obtain ⟨r, hr⟩ : ∃ r, RParse w (parseR s t) = r := ⟨_, rfl⟩
 have HRN := Lib.hid hr
 rw [hr]
 clear h ht hr hck
 unfold SchL.val
 obtain ⟨W0, hW0⟩ : ∃ W0, ((w.alloc (.cells #[.slice ad nd cd, .slice ai ni ci, .slice an nn cn, .slice av nv cv] 26)).alloc (.cells #[.int .u32 0, .slice none 0 0, .slice none 0 0, .slice none 0 0, .int .i64 0] 32)) = W0 := ⟨_, rfl⟩
 have HB0 : Hid (Below w.heap.size w W0) := Lib.hid (by
  rw [← hW0]
  exact (((Below.refl _ _).alloc (Nat.le_refl _) _).alloc (by simp) _))
 have HZ0 : Hid (W0.heap.size = w.heap.size + 2) := Lib.hid (by rw [← hW0]; simp)
 have HK0 : Hid (Blk W0 (w.heap.size) 26 #[.slice ad nd cd, .slice ai ni ci, .slice an nn cn, .slice av nv cv]) := Lib.hid (by
  rw [← hW0]
  have h := Blk.new w 26 #[.slice ad nd cd, .slice ai ni ci, .slice an nn cn, .slice av nv cv]
  exact h.alloc _)
 have HK1 : Hid (Blk W0 (w.heap.size + 1) 32 #[.int .u32 0, .slice none 0 0, .slice none 0 0, .slice none 0 0, .int .i64 0]) := Lib.hid (by
  rw [← hW0]
  have h := Blk.new (w.alloc (.cells #[.slice ad nd cd, .slice ai ni ci, .slice an nn cn, .slice av nv cv] 26)) 32 #[.int .u32 0, .slice none 0 0, .slice none 0 0, .slice none 0 0, .int .i64 0]
  rw [World.size_alloc] at h
  exact h)
 (try unfold StV)
 (try dsimp only)
 go_enter Tryz.func29, Tryz.ntmps29
 go_upto_region 1 with fail
 clear hW0
 generalize hS : w.heap.size = S at *
 have HSW := Lib.hid hS
 clear hS
 have c0 := HK0.out.c 0
 have c1 := HK0.out.c 1
 have c2 := HK0.out.c 2
 have c3 := HK0.out.c 3
 go_wp2_with fail
 refine (rchk_any _ ⟨ad, nd, cd, ai, ni, ci, an, nn, cn, av, nv, cv⟩ s (HSO.out _ HB0.out)).mono ?_
 rintro e W1 ⟨rfl, hb1⟩
 have HB1 := Lib.hid (HB0.out.trans (hb1.mono (by have := HZ0.out; omega)))
 have HKA1 := Lib.hid (HK0.out.below hb1 HK0.out.lt)
 have HKB1 := Lib.hid (HK1.out.below hb1 HK1.out.lt)
 obtain ⟨k, hk⟩ : ∃ k, chkS s = k := ⟨_, rfl⟩
 rw [hk]
 have HK := Lib.hid hk
 clear hb1 hk
 clear c0 c1 c2 c3
 by_cases hk0 : k = 0
 case neg =>
  have t1 : ((k : Int) != 0) = true := by simp; omega
  have HP : Hid (parseR s t = .bad 0 1) := Lib.hid (by unfold parseR; rw [if_pos (by rw [HK.out]; exact hk0)])
  have q0 := HKB1.out.c 0
  have q1 := HKB1.out.c 1
  have q2 := HKB1.out.c 2
  have q3 := HKB1.out.c 3
  have q4 := HKB1.out.c 4
  have fzq : ∀ o, W1.frozen? ⟨S + 1, o, none⟩ = false := fun o => HKB1.out.frozen o
  go_wp2_with fail
  have HKF := Lib.hid (blk_st5 HKB1.out (.int .u32 0) (.slice none 0 0) (.slice none 0 0) (.slice none 0 0) (.int .i64 0))
  have HBF := Lib.hid (below_st5 HB1.out (b := S + 1) (by omega) (.int .u32 0) (.slice none 0 0) (.slice none 0 0) (.slice none 0 0) (.int .i64 0))
  generalize (((((W1.setCell ⟨S + 1, 0, none⟩ (.int .u32 0)).setCell ⟨S + 1, 1, none⟩ (.slice none 0 0)).setCell ⟨S + 1, 2, none⟩ (.slice none 0 0)).setCell ⟨S + 1, 3, none⟩ (.slice none 0 0)).setCell ⟨S + 1, 4, none⟩ (.int .i64 0)) = Wf at *
  have z0 := HKF.out.c 0
  have z1 := HKF.out.c 1
  have z2 := HKF.out.c 2
  have z3 := HKF.out.c 3
  have z4 := HKF.out.c 4
  refine bodyPost_ret (v := .tuple #[.agg #[.int .u32 0, .slice none 0 0, .slice none 0 0, .slice none 0 0, .int .i64 0], .int .i64 0, .int .i64 1]) (by simp [results, Tryz.results29, go_sem, z0, z1, z2, z3, z4]) rfl ?_
  rw [← HRN.out, HP.out]
  exact ⟨rfl, by rw [HSW.out]; exact HBF.out⟩
 case pos =>
  subst hk0
  go_wp2_with fail
  refine (rtok_any t _ HT.out).mono ?_; rintro e W2 hret
  rcases hret with ⟨L, v, hl, rfl, hown, hb2⟩ | ⟨a, er, hl, her, rfl, hb2⟩
  case inr =>
   have HB2 := Lib.hid (HB1.out.trans (hb2.mono (by have := HKB1.out.lt; omega)))
   have HKB2 := Lib.hid (HKB1.out.below hb2 HKB1.out.lt)
   have HP : Hid (parseR s t = .bad a er) := Lib.hid (by unfold parseR; rw [if_neg (by rw [HK.out]; decide), hl])
   have t1 : (er != 0) = true := by rw [bne_iff_ne]; exact her
   clear hb2 hl her
   have q0 := HKB2.out.c 0
   have q1 := HKB2.out.c 1
   have q2 := HKB2.out.c 2
   have q3 := HKB2.out.c 3
   have q4 := HKB2.out.c 4
   have fzq : ∀ o, W2.frozen? ⟨S + 1, o, none⟩ = false := fun o => HKB2.out.frozen o
   go_wp2_with fail
   have HKF := Lib.hid (blk_st5 HKB2.out (.int .u32 0) (.slice none 0 0) (.slice none 0 0) (.slice none 0 0) (.int .i64 0))
   have HBF := Lib.hid (below_st5 HB2.out (b := S + 1) (by omega) (.int .u32 0) (.slice none 0 0) (.slice none 0 0) (.slice none 0 0) (.int .i64 0))
   generalize (((((W2.setCell ⟨S + 1, 0, none⟩ (.int .u32 0)).setCell ⟨S + 1, 1, none⟩ (.slice none 0 0)).setCell ⟨S + 1, 2, none⟩ (.slice none 0 0)).setCell ⟨S + 1, 3, none⟩ (.slice none 0 0)).setCell ⟨S + 1, 4, none⟩ (.int .i64 0)) = Wf at *
   have z0 := HKF.out.c 0
   have z1 := HKF.out.c 1
   have z2 := HKF.out.c 2
   have z3 := HKF.out.c 3
   have z4 := HKF.out.c 4
   refine bodyPost_ret (v := .tuple #[.agg #[.int .u32 0, .slice none 0 0, .slice none 0 0, .slice none 0 0, .int .i64 0], .int .i64 a, .int .i64 er]) (by simp [results, Tryz.results29, go_sem, z0, z1, z2, z3, z4]) rfl ?_
   rw [← HRN.out, HP.out]
   exact ⟨rfl, by rw [HSW.out]; exact HBF.out⟩
  case inl =>
   obtain ⟨ta, tc, rfl⟩ := hown.form
   have HB2 := Lib.hid (HB1.out.trans (hb2.mono (by have := HKB1.out.lt; omega)))
   have HKA2 := Lib.hid (HKA1.out.below hb2 HKA1.out.lt)
   have HKB2 := Lib.hid (HKB1.out.below hb2 HKB1.out.lt)
   have HP0 : Hid (parseR s t = match queryS (dimN s) (measN s) L with
    | .error f => .bad (tokAt L f.1).a f.2
    | .ok x => if qchk s x.2.qry ≠ 0 then .bad 0 (qchk s x.2.qry) else .ok x.2) := Lib.hid (by unfold parseR; rw [if_neg (by rw [HK.out]; decide), hl]; rfl)
   obtain ⟨X, hX⟩ : ∃ X : RX, X = ⟨⟨ad, nd, cd, ai, ni, ci, an, nn, cn, av, nv, cv⟩, s, ta, tc, L⟩ := ⟨_, rfl⟩
   have HXE := Lib.hid hX
   have HXA : Hid (∀ w', Below W2.heap.size W2 w' → X.At w') := Lib.hid (fun w' hb => by
    have h0 : X.At W2 := by
     rw [hX]
     exact ⟨HSO.out _ HB2.out, HK.out, own_base hown (Nat.zero_le _), lex_tokok hl⟩
    exact h0.below hb (Nat.le_refl _))
   clear hb2 hl hown hX
   have hXV : ∀ m p, StV X m p = .agg #[.slice ad nd cd, .slice ai ni ci, .slice an nn cn, .slice av nv cv, .slice ta L.length tc, .int .i64 (p.at' : Int), .int .u32 p.q.group, .slice m.af m.nf m.cf, .slice m.ac m.nc m.cc, .slice m.ao m.no m.co, .int .i64 p.q.limit, .int .i64 (p.err : Int)] := fun m p => by rw [HXE.out]; rfl
   have HXV := Lib.hid hXV
   have HXL : Hid (X.L = L) := Lib.hid (by rw [HXE.out])
   have HGOOD : Hid (TokOk L) := Lib.hid (by rw [← HXL.out]; exact (HXA.out _ (Below.refl _ _)).good)
   clear hXV
   have c0 := HKA2.out.c 0
   have c1 := HKA2.out.c 1
   have c2 := HKA2.out.c 2
   have c3 := HKA2.out.c 3
   obtain ⟨p1, hp1⟩ : ∃ p, wantR L ⟨0, QP.nul, 0⟩ [115, 101, 108, 101, 99, 116] = p := ⟨_, rfl⟩
   have HP1 := Lib.hid hp1
   have HWT : Hid (∀ w', Below W2.heap.size W2 w' → Calls Tryz.prog 68 #[StV X nulL ⟨0, QP.nul, 0⟩, .string ⟨#[115, 101, 108, 101, 99, 116]⟩] w' (RSt X nulL p1 w')) := Lib.hid (fun w' hb => by
    have h0 := vwant_any X nulL ⟨0, QP.nul, 0⟩ w' (HXA.out w' hb) (by show 0 < X.L.length; rw [HXL.out]; exact HGOOD.out.pos) ⟨#[115, 101, 108, 101, 99, 116]⟩ [115, 101, 108, 101, 99, 116] rfl
    rw [HXL.out, hp1] at h0
    exact h0)
   have HWA : Hid (p1.at' < L.length ∧ p1.q = QP.nul) := Lib.hid (by
    have h0 := want_at HGOOD.out (t := [115, 101, 108, 101, 99, 116]) (show (⟨0, QP.nul, 0⟩ : PState).at' < L.length from HGOOD.out.pos)
    rw [hp1] at h0
    exact ⟨h0.1, h0.2.1⟩)
   have HPA : Hid (∀ w', Below W2.heap.size W2 w' → Calls Tryz.prog 67 #[StV X nulL p1, .int .i64 0, .string ⟨#[44]⟩] w' (RStO X (stR X 0) (fun _ => False) w')) := Lib.hid (fun w' hb => by
    have h0 := vpart_any X nulL [] p1 (fun _ => False) w' (HXA.out w' hb) (stg_nul X w' p1 HWA.out.2 (by rw [HXL.out]; exact HWA.out.1)) (fun g hg => hg.elim) 0 (by omega) (.inl rfl) ⟨#[44]⟩ [44] rfl
    have e1 : stR X 0 = partR (oneR X 0) X.L [44] X.L.length p1 := by unfold stR; rw [HXL.out, hp1]
    rw [e1]
    exact h0)
   clear hp1
   unfold RSt at HWT
   rw [HXV.out nulL ⟨0, QP.nul, 0⟩] at HWT
   rw [HXV.out nulL p1] at HWT HPA
   dsimp only [nulL, QP.nul] at HWT HPA
   go_wp2_with fail
   refine (HWT.out _ (Below.refl _ _)).mono ?_; rintro e W3 ⟨rfl, hb3⟩
   have HB3 := Lib.hid (HB2.out.trans (hb3.mono (by have := HKB2.out.lt; omega)))
   have HW23 := Lib.hid hb3
   have HKA3 := Lib.hid (HKA2.out.below hb3 HKA2.out.lt)
   have HKB3 := Lib.hid (HKB2.out.below hb3 HKB2.out.lt)
   clear hb3
   clear c0 c1 c2 c3
   have c0 := HKA3.out.c 0
   have c1 := HKA3.out.c 1
   have c2 := HKA3.out.c 2
   have c3 := HKA3.out.c 3
   go_wp2_with fail
   refine (HPA.out _ HW23.out).mono ?_; rintro e W4 ⟨m0, fl0, rfl, hst4, hb4⟩
   have HB4 := Lib.hid (HB3.out.trans (hb4.mono (by have := HKB3.out.lt; omega)))
   have HW24 := Lib.hid (HW23.out.trans (hb4.mono HW23.out.size))
   have HKA4 := Lib.hid (HKA3.out.below hb4 HKA3.out.lt)
   have HKB4 := Lib.hid (HKB3.out.below hb4 HKB3.out.lt)
   have HST4 := Lib.hid hst4
   have HSZ4 : Hid (S + 2 ≤ W3.heap.size ∧ W3.heap.size ≤ W4.heap.size) := Lib.hid ⟨HKB3.out.lt, hb4.size⟩
   clear hb4 hst4
   clear c0 c1 c2 c3
   obtain ⟨p2, hp2⟩ : ∃ p, stR X 0 = p := ⟨_, rfl⟩
   have HP2 := Lib.hid hp2
   rw [hp2] at HST4 ⊢
   clear hp2 HWT HPA
   rw [HXV.out]
   go_upto_region 7 with fail
   have HY0 := Blk.new W4 122 #[.slice ad nd cd, .slice ai ni ci, .slice an nn cn, .slice av nv cv, .slice ta L.length tc, .int .i64 (p2.at' : Int), .int .u32 p2.q.group, .slice m0.af m0.nf m0.cf, .slice m0.ac m0.nc m0.cc, .slice m0.ao m0.no m0.co, .int .i64 p2.q.limit, .int .i64 (p2.err : Int)]
   have HW5 : Hid (Below W4.heap.size W4 (W4.alloc (.cells #[.slice ad nd cd, .slice ai ni ci, .slice an nn cn, .slice av nv cv, .slice ta L.length tc, .int .i64 (p2.at' : Int), .int .u32 p2.q.group, .slice m0.af m0.nf m0.cf, .slice m0.ac m0.nc m0.cc, .slice m0.ao m0.no m0.co, .int .i64 p2.q.limit, .int .i64 (p2.err : Int)] 122))) := Lib.hid ((Below.refl _ _).alloc (Nat.le_refl _) _)
   have HZ5 : Hid ((W4.alloc (.cells #[.slice ad nd cd, .slice ai ni ci, .slice an nn cn, .slice av nv cv, .slice ta L.length tc, .int .i64 (p2.at' : Int), .int .u32 p2.q.group, .slice m0.af m0.nf m0.cf, .slice m0.ac m0.nc m0.cc, .slice m0.ao m0.no m0.co, .int .i64 p2.q.limit, .int .i64 (p2.err : Int)] 122)).heap.size = W4.heap.size + 1) := Lib.hid (by simp)
   generalize (W4.alloc (.cells #[.slice ad nd cd, .slice ai ni ci, .slice an nn cn, .slice av nv cv, .slice ta L.length tc, .int .i64 (p2.at' : Int), .int .u32 p2.q.group, .slice m0.af m0.nf m0.cf, .slice m0.ac m0.nc m0.cc, .slice m0.ao m0.no m0.co, .int .i64 p2.q.limit, .int .i64 (p2.err : Int)] 122)) = W5 at *
   have HKY5 := Lib.hid HY0
   obtain ⟨Y, hY⟩ : ∃ Y, W4.heap.size = Y := ⟨_, rfl⟩
   have HYE := Lib.hid hY
   have HSG5 : Hid (StG (fun g => S + 2 ≤ g ∧ g ≠ Y) X m0 fl0 p2 W5) := Lib.hid ((HST4.out.mono (G' := fun g => S + 2 ≤ g ∧ g ≠ Y) (fun g hl hg => by have := HSZ4.out; rcases hg with h | h; exact h.elim; omega)).below HW5.out)
   have HKA5 := Lib.hid (HKA4.out.below HW5.out HKA4.out.lt)
   have HKB5 := Lib.hid (HKB4.out.below HW5.out HKB4.out.lt)
   have HB5 := Lib.hid (HB4.out.trans (HW5.out.mono (by have := HKB4.out.lt; omega)))
   have HW25 := Lib.hid (HW24.out.trans (HW5.out.mono HW24.out.size))
   have HSY : Hid (S + 2 ≤ Y ∧ W2.heap.size ≤ Y) := Lib.hid ⟨by have := HSZ4.out; omega, by rw [← hY]; exact HW24.out.size⟩
   rw [hY] at HKY5 HZ5 ⊢
   clear hY HY0 HW5 HYE
   go_upto_region 8 with fail
   have HH0 := Blk.new W5 9 #[.string ⟨#[115, 101, 108, 101, 99, 116]⟩, .string ⟨#[98, 121]⟩, .string ⟨#[119, 104, 101, 114, 101]⟩, .string ⟨#[111, 114, 100, 101, 114]⟩]
   have HW6 : Hid (Below W5.heap.size W5 (W5.alloc (.cells #[.string ⟨#[115, 101, 108, 101, 99, 116]⟩, .string ⟨#[98, 121]⟩, .string ⟨#[119, 104, 101, 114, 101]⟩, .string ⟨#[111, 114, 100, 101, 114]⟩] 9))) := Lib.hid ((Below.refl _ _).alloc (Nat.le_refl _) _)
   generalize (W5.alloc (.cells #[.string ⟨#[115, 101, 108, 101, 99, 116]⟩, .string ⟨#[98, 121]⟩, .string ⟨#[119, 104, 101, 114, 101]⟩, .string ⟨#[111, 114, 100, 101, 114]⟩] 9)) = W6 at *
   have HKH6 := Lib.hid HH0
   obtain ⟨H, hH⟩ : ∃ H, W5.heap.size = H := ⟨_, rfl⟩
   have HYH : Hid (Y < H) := Lib.hid (by rw [← hH]; exact HKY5.out.lt)
   have HSG6 := Lib.hid (HSG5.out.below HW6.out)
   have HKA6 := Lib.hid (HKA5.out.below HW6.out HKA5.out.lt)
   have HKB6 := Lib.hid (HKB5.out.below HW6.out HKB5.out.lt)
   have HKY6 := Lib.hid (HKY5.out.below HW6.out HKY5.out.lt)
   have HB6 := Lib.hid (HB5.out.trans (HW6.out.mono (by have := HKB5.out.lt; omega)))
   have HW26 := Lib.hid (HW25.out.trans (HW6.out.mono HW25.out.size))
   rw [hH] at HKH6 ⊢
   clear hH HH0 HW6
   clear HKA1 HKB1 HKA2 HKB2 HKA3 HKB3 HKA4 HKB4 HKA5 HKB5 HKY5 HSG5 HST4 HB1 HB2 HB3 HB4 HB5 HB0 HK0 HK1 HZ0 HZ5 HSZ4 HW23 HW24 HW25 HP1 HWA
   go_wp2_with fail
   go_loopg [12] 3 (fun q kv wr => ∃ (mj : QryL) (flj : List Flt) (pj : PState), ((kv = .int .i64 1 ∧ q = 3 ∧ pj = stR X 0) ∨ (kv = .int .i64 2 ∧ q = 2 ∧ pj = stR X 1) ∨ (kv = .int .i64 3 ∧ q = 1 ∧ pj = stR X 2) ∨ (kv = .int .i64 4 ∧ q = 0 ∧ pj = stR X 3)) ∧ Blk wr S 26 #[.slice ad nd cd, .slice ai ni ci, .slice an nn cn, .slice av nv cv] ∧ Blk wr (S + 1) 32 #[.int .u32 0, .slice none 0 0, .slice none 0 0, .slice none 0 0, .int .i64 0] ∧ Blk wr Y 122 #[.slice ad nd cd, .slice ai ni ci, .slice an nn cn, .slice av nv cv, .slice ta L.length tc, .int .i64 (pj.at' : Int), .int .u32 pj.q.group, .slice mj.af mj.nf mj.cf, .slice mj.ac mj.nc mj.cc, .slice mj.ao mj.no mj.co, .int .i64 pj.q.limit, .int .i64 (pj.err : Int)] ∧ StG (fun g => S + 2 ≤ g ∧ g ≠ Y) X mj flj pj wr ∧ Below S w wr ∧ Below W2.heap.size W2 wr ∧ Blk wr H 9 #[.string ⟨#[115, 101, 108, 101, 99, 116]⟩, .string ⟨#[98, 121]⟩, .string ⟨#[119, 104, 101, 114, 101]⟩, .string ⟨#[111, 114, 100, 101, 114]⟩])
   case atStart => exact ⟨m0, fl0, p2, .inl ⟨rfl, rfl, HP2.out.symm⟩, HKA6.out, HKB6.out, HKY6.out, HSG6.out, HB6.out, HW26.out, HKH6.out⟩
   case round =>
    clear HKA6 HKB6 HKY6 HSG6 HB6 HW26 HKH6
    obtain ⟨mj, flj, pj, hk, hka, hkb, hky, hsg, hb, hw, hkh⟩ := hrel
    have HKA := Lib.hid hka
    have HKB := Lib.hid hkb
    have HKY := Lib.hid hky
    have HSG := Lib.hid hsg
    have HB := Lib.hid hb
    have HW := Lib.hid hw
    have HKH := Lib.hid hkh
    clear hka hkb hky hsg hb hw hkh
    rcases hk with ⟨rfl, rfl, hp⟩ | ⟨rfl, rfl, hp⟩ | ⟨rfl, rfl, hp⟩ | ⟨rfl, rfl, hp⟩
    ·have HP := Lib.hid hp
     clear hp
     have HIS : Hid (∀ w', Below W2.heap.size W2 w' → ∀ v, isR L pj [98, 121] = v → Calls Tryz.prog 69 #[StV X mj pj, .string ⟨#[98, 121]⟩] w' (fun e w'' => e = .returned (.bool v) ∧ Below w'.heap.size w' w'')) := Lib.hid (fun w' hb v hv => by
      have h0 := vis_any X mj pj w' (HXA.out w' hb) HSG.out.here.at' ⟨#[98, 121]⟩ v (by rw [HXL.out]; exact hv)
      exact h0)
     obtain ⟨v, hv⟩ : ∃ x, isR L pj [98, 121] = x := ⟨_, rfl⟩
     have HI := Lib.hid (fun w' hb => HIS.out w' hb v hv)
     have HV := Lib.hid hv
     clear HIS hv
     rw [HXV.out] at HI
     have h0 := HKH.out.c 1
     have c0 := HKY.out.c 0
     have c1 := HKY.out.c 1
     have c2 := HKY.out.c 2
     have c3 := HKY.out.c 3
     have c4 := HKY.out.c 4
     have c5 := HKY.out.c 5
     have c6 := HKY.out.c 6
     have c7 := HKY.out.c 7
     have c8 := HKY.out.c 8
     have c9 := HKY.out.c 9
     have c10 := HKY.out.c 10
     have c11 := HKY.out.c 11
     have fzc : ∀ o, wr.frozen? ⟨Y, o, none⟩ = false := fun o => HKY.out.frozen o
     go_upto_region 11 with fail
     go_still_tail 5, (by kernel_rfl)
     change wpList _ _ _ _ _ wr.drew
     go_wp2_with fail
     refine (HI.out _ HW.out.drew).mono ?_; rintro e w3 ⟨rfl, hb3⟩
     have HB33 : Hid (Below wr.heap.size wr w3) := Lib.hid (((Below.refl _ _).drew).trans hb3)
     have HB3 := Lib.hid (HB.out.trans (HB33.out.mono (by have := HKA.out.lt; omega)))
     have HW3 := Lib.hid (HW.out.trans (HB33.out.mono HW.out.size))
     have HKA3 := Lib.hid (HKA.out.below HB33.out HKA.out.lt)
     have HKB3 := Lib.hid (HKB.out.below HB33.out HKB.out.lt)
     have HKY3 := Lib.hid (HKY.out.below HB33.out HKY.out.lt)
     have HKH3 := Lib.hid (HKH.out.below HB33.out HKH.out.lt)
     have HSG3 := Lib.hid (HSG.out.below HB33.out)
     clear hb3 HI h0
     clear c0 c1 c2 c3 c4 c5 c6 c7 c8 c9 c10 c11 fzc
     rcases v with _ | _
     ·go_wp2_with fail
      go_roundg 2
      case measure => omega
      case rel => exact ⟨mj, flj, pj, .inr (.inl ⟨rfl, rfl, by rw [HP.out]; have h1 : isR X.L (stR X 0) [98, 121] = false := (by rw [← HP.out, HXL.out]; exact HV.out); have h2 : stR X 1 = if isR X.L (stR X 0) [98, 121] then partR (oneR X 1) X.L [44] X.L.length (onR (stR X 0)) else stR X 0 := rfl; rw [h2, h1, if_neg (by decide)]⟩), HKA3.out, HKB3.out, HKY3.out, HSG3.out, HB3.out, HW3.out, HKH3.out⟩
     ·obtain ⟨he0, ha1⟩ := word_at HGOOD.out HV.out
      obtain ⟨p4, hp4⟩ : ∃ x, onR pj = x := ⟨_, rfl⟩
      have HOO : Hid (∀ w', Calls Tryz.prog 70 #[StV X mj pj] w' (RSt X mj p4 w')) := Lib.hid (fun w' => by
       rw [← hp4]
       exact von_any X mj pj w' (by have := HGOOD.out.many; omega))
      have HE4 : Hid (p4.err = 0 ∧ p4.at' = pj.at' + 1 ∧ p4.q = pj.q) := Lib.hid (by rw [← hp4]; exact ⟨he0, rfl, rfl⟩)
      have HSP := Lib.hid (HSG3.out.cut.same (p' := p4) HE4.out.2.2 (by rw [HXL.out, HE4.out.2.1]; exact ha1) (fun _ => ⟨he0, by rw [HE4.out.2.1]; omega⟩))
      have HQ5 : Hid (stR X 1 = partR (oneR X 1) X.L [44] X.L.length p4) := Lib.hid (by
       have h1 : isR X.L (stR X 0) [98, 121] = true := by rw [← HP.out, HXL.out]; exact HV.out
       have h2 : stR X 1 = if isR X.L (stR X 0) [98, 121] then partR (oneR X 1) X.L [44] X.L.length (onR (stR X 0)) else stR X 0 := rfl
       rw [h2, if_pos h1, ← HP.out, hp4])
      have HPA : Hid (∀ w', Below w3.heap.size w3 w' → Calls Tryz.prog 67 #[StV X mj p4, .int .i64 1, .string ⟨#[44]⟩] w' (RStO X (stR X 1) (fun g => (S + 2 ≤ g ∧ g ≠ Y) ∧ g < w3.heap.size) w')) := Lib.hid (fun w' hb => by
       rw [HQ5.out]
       exact vpart_any X mj flj p4 _ w' (HXA.out w' (HW3.out.trans (hb.mono HW3.out.size))) (HSP.out.below hb) (fun g hg => Nat.lt_of_lt_of_le hg.2 hb.size) 1 (by omega) (.inr HE4.out.1) ⟨#[44]⟩ [44] rfl)
      obtain ⟨p5, hp5⟩ : ∃ x, stR X 1 = x := ⟨_, rfl⟩
      have HP5 := Lib.hid hp5
      rw [hp5] at HPA
      unfold RSt at HOO
      rw [HXV.out] at HOO HPA
      rw [HXV.out] at HOO
      clear hp4 hp5 he0 ha1
      have c0 := HKY3.out.c 0
      have c1 := HKY3.out.c 1
      have c2 := HKY3.out.c 2
      have c3 := HKY3.out.c 3
      have c4 := HKY3.out.c 4
      have c5 := HKY3.out.c 5
      have c6 := HKY3.out.c 6
      have c7 := HKY3.out.c 7
      have c8 := HKY3.out.c 8
      have c9 := HKY3.out.c 9
      have c10 := HKY3.out.c 10
      have c11 := HKY3.out.c 11
      have fzc : ∀ o, w3.frozen? ⟨Y, o, none⟩ = false := fun o => HKY3.out.frozen o
      go_wp2_with fail
      refine (HOO.out _).mono ?_; rintro e w4 ⟨rfl, hb4⟩
      have HB4 := Lib.hid (HB3.out.trans (hb4.mono (by have := HKA3.out.lt; omega)))
      have HW4 := Lib.hid (HW3.out.trans (hb4.mono HW3.out.size))
      have HKA4 := Lib.hid (HKA3.out.below hb4 HKA3.out.lt)
      have HKB4 := Lib.hid (HKB3.out.below hb4 HKB3.out.lt)
      have HKY4 := Lib.hid (HKY3.out.below hb4 HKY3.out.lt)
      have HKH4 := Lib.hid (HKH3.out.below hb4 HKH3.out.lt)
      have HPP := Lib.hid (HPA.out _ hb4)
      have HSZ4 : Hid (Y < w4.heap.size) := Lib.hid HKY4.out.lt
      clear hb4 HOO
      clear c0 c1 c2 c3 c4 c5 c6 c7 c8 c9 c10 c11 fzc
      go_wp2_with fail
      refine HPP.out.mono ?_; rintro e w5 ⟨m5, fl5, rfl, hst5, hb5⟩
      have HB5 := Lib.hid (HB4.out.trans (hb5.mono (by have := HKA4.out.lt; omega)))
      have HW5 := Lib.hid (HW4.out.trans (hb5.mono HW4.out.size))
      have HKA5 := Lib.hid (HKA4.out.below hb5 HKA4.out.lt)
      have HKB5 := Lib.hid (HKB4.out.below hb5 HKB4.out.lt)
      have HKY5 := Lib.hid (HKY4.out.below hb5 HKY4.out.lt)
      have HKH5 := Lib.hid (HKH4.out.below hb5 HKH4.out.lt)
      have HST5 := Lib.hid hst5
      clear hb5 hst5 HPP HPA
      rw [HXV.out]
      have c0 := HKY5.out.c 0
      have c1 := HKY5.out.c 1
      have c2 := HKY5.out.c 2
      have c3 := HKY5.out.c 3
      have c4 := HKY5.out.c 4
      have c5 := HKY5.out.c 5
      have c6 := HKY5.out.c 6
      have c7 := HKY5.out.c 7
      have c8 := HKY5.out.c 8
      have c9 := HKY5.out.c 9
      have c10 := HKY5.out.c 10
      have c11 := HKY5.out.c 11
      have fzc : ∀ o, w5.frozen? ⟨Y, o, none⟩ = false := fun o => HKY5.out.frozen o
      go_wp2_with fail
      have HSG6 : Hid (StG (fun g => S + 2 ≤ g ∧ g ≠ Y) X m5 fl5 p5 ((((((((((((w5.setCell ⟨Y, 0, none⟩ (.slice ad nd cd)).setCell ⟨Y, 1, none⟩ (.slice ai ni ci)).setCell ⟨Y, 2, none⟩ (.slice an nn cn)).setCell ⟨Y, 3, none⟩ (.slice av nv cv)).setCell ⟨Y, 4, none⟩ (.slice ta L.length tc)).setCell ⟨Y, 5, none⟩ (.int .i64 (p5.at' : Int))).setCell ⟨Y, 6, none⟩ (.int .u32 p5.q.group)).setCell ⟨Y, 7, none⟩ (.slice m5.af m5.nf m5.cf)).setCell ⟨Y, 8, none⟩ (.slice m5.ac m5.nc m5.cc)).setCell ⟨Y, 9, none⟩ (.slice m5.ao m5.no m5.co)).setCell ⟨Y, 10, none⟩ (.int .i64 p5.q.limit)).setCell ⟨Y, 11, none⟩ (.int .i64 (p5.err : Int)))) := Lib.hid (fun wx hag => HST5.out wx (hag.st12 (b := Y) (fun g hg => by have := HSZ4.out; rcases hg with h | h; exact h.1.2; omega) (fun g hg => by have := HSZ4.out; have := HSY.out; rcases hg with h | h; exact h.1; exact ⟨by omega, by omega⟩)))
      clear c0 c1 c2 c3 c4 c5 c6 c7 c8 c9 c10 c11 fzc
      have HKA6 := Lib.hid (blk_far12 HKA5.out (b := Y) (by have := HSY.out; omega) (.slice ad nd cd) (.slice ai ni ci) (.slice an nn cn) (.slice av nv cv) (.slice ta L.length tc) (.int .i64 (p5.at' : Int)) (.int .u32 p5.q.group) (.slice m5.af m5.nf m5.cf) (.slice m5.ac m5.nc m5.cc) (.slice m5.ao m5.no m5.co) (.int .i64 p5.q.limit) (.int .i64 (p5.err : Int)))
      have HKB6 := Lib.hid (blk_far12 HKB5.out (b := Y) (by have := HSY.out; omega) (.slice ad nd cd) (.slice ai ni ci) (.slice an nn cn) (.slice av nv cv) (.slice ta L.length tc) (.int .i64 (p5.at' : Int)) (.int .u32 p5.q.group) (.slice m5.af m5.nf m5.cf) (.slice m5.ac m5.nc m5.cc) (.slice m5.ao m5.no m5.co) (.int .i64 p5.q.limit) (.int .i64 (p5.err : Int)))
      have HKH6 := Lib.hid (blk_far12 HKH5.out (b := Y) (by have := HYH.out; omega) (.slice ad nd cd) (.slice ai ni ci) (.slice an nn cn) (.slice av nv cv) (.slice ta L.length tc) (.int .i64 (p5.at' : Int)) (.int .u32 p5.q.group) (.slice m5.af m5.nf m5.cf) (.slice m5.ac m5.nc m5.cc) (.slice m5.ao m5.no m5.co) (.int .i64 p5.q.limit) (.int .i64 (p5.err : Int)))
      have HKY6 := Lib.hid (blk_st12 HKY5.out (.slice ad nd cd) (.slice ai ni ci) (.slice an nn cn) (.slice av nv cv) (.slice ta L.length tc) (.int .i64 (p5.at' : Int)) (.int .u32 p5.q.group) (.slice m5.af m5.nf m5.cf) (.slice m5.ac m5.nc m5.cc) (.slice m5.ao m5.no m5.co) (.int .i64 p5.q.limit) (.int .i64 (p5.err : Int)))
      have HB6 := Lib.hid (below_st12 HB5.out (b := Y) (by have := HSY.out; omega) (.slice ad nd cd) (.slice ai ni ci) (.slice an nn cn) (.slice av nv cv) (.slice ta L.length tc) (.int .i64 (p5.at' : Int)) (.int .u32 p5.q.group) (.slice m5.af m5.nf m5.cf) (.slice m5.ac m5.nc m5.cc) (.slice m5.ao m5.no m5.co) (.int .i64 p5.q.limit) (.int .i64 (p5.err : Int)))
      have HW6 := Lib.hid (below_st12 HW5.out (b := Y) (by have := HSY.out; omega) (.slice ad nd cd) (.slice ai ni ci) (.slice an nn cn) (.slice av nv cv) (.slice ta L.length tc) (.int .i64 (p5.at' : Int)) (.int .u32 p5.q.group) (.slice m5.af m5.nf m5.cf) (.slice m5.ac m5.nc m5.cc) (.slice m5.ao m5.no m5.co) (.int .i64 p5.q.limit) (.int .i64 (p5.err : Int)))
      generalize ((((((((((((w5.setCell ⟨Y, 0, none⟩ (.slice ad nd cd)).setCell ⟨Y, 1, none⟩ (.slice ai ni ci)).setCell ⟨Y, 2, none⟩ (.slice an nn cn)).setCell ⟨Y, 3, none⟩ (.slice av nv cv)).setCell ⟨Y, 4, none⟩ (.slice ta L.length tc)).setCell ⟨Y, 5, none⟩ (.int .i64 (p5.at' : Int))).setCell ⟨Y, 6, none⟩ (.int .u32 p5.q.group)).setCell ⟨Y, 7, none⟩ (.slice m5.af m5.nf m5.cf)).setCell ⟨Y, 8, none⟩ (.slice m5.ac m5.nc m5.cc)).setCell ⟨Y, 9, none⟩ (.slice m5.ao m5.no m5.co)).setCell ⟨Y, 10, none⟩ (.int .i64 p5.q.limit)).setCell ⟨Y, 11, none⟩ (.int .i64 (p5.err : Int))) = w6 at *
      go_roundg 2
      case measure => omega
      case rel => exact ⟨m5, fl5, p5, .inr (.inl ⟨rfl, rfl, HP5.out.symm⟩), HKA6.out, HKB6.out, HKY6.out, HSG6.out, HB6.out, HW6.out, HKH6.out⟩
    ·have HP := Lib.hid hp
     clear hp
     have HIS : Hid (∀ w', Below W2.heap.size W2 w' → ∀ v, isR L pj [119, 104, 101, 114, 101] = v → Calls Tryz.prog 69 #[StV X mj pj, .string ⟨#[119, 104, 101, 114, 101]⟩] w' (fun e w'' => e = .returned (.bool v) ∧ Below w'.heap.size w' w'')) := Lib.hid (fun w' hb v hv => by
      have h0 := vis_any X mj pj w' (HXA.out w' hb) HSG.out.here.at' ⟨#[119, 104, 101, 114, 101]⟩ v (by rw [HXL.out]; exact hv)
      exact h0)
     obtain ⟨v, hv⟩ : ∃ x, isR L pj [119, 104, 101, 114, 101] = x := ⟨_, rfl⟩
     have HI := Lib.hid (fun w' hb => HIS.out w' hb v hv)
     have HV := Lib.hid hv
     clear HIS hv
     rw [HXV.out] at HI
     have h0 := HKH.out.c 2
     have c0 := HKY.out.c 0
     have c1 := HKY.out.c 1
     have c2 := HKY.out.c 2
     have c3 := HKY.out.c 3
     have c4 := HKY.out.c 4
     have c5 := HKY.out.c 5
     have c6 := HKY.out.c 6
     have c7 := HKY.out.c 7
     have c8 := HKY.out.c 8
     have c9 := HKY.out.c 9
     have c10 := HKY.out.c 10
     have c11 := HKY.out.c 11
     have fzc : ∀ o, wr.frozen? ⟨Y, o, none⟩ = false := fun o => HKY.out.frozen o
     go_upto_region 11 with fail
     go_still_tail 5, (by kernel_rfl)
     change wpList _ _ _ _ _ wr.drew
     go_wp2_with fail
     refine (HI.out _ HW.out.drew).mono ?_; rintro e w3 ⟨rfl, hb3⟩
     have HB33 : Hid (Below wr.heap.size wr w3) := Lib.hid (((Below.refl _ _).drew).trans hb3)
     have HB3 := Lib.hid (HB.out.trans (HB33.out.mono (by have := HKA.out.lt; omega)))
     have HW3 := Lib.hid (HW.out.trans (HB33.out.mono HW.out.size))
     have HKA3 := Lib.hid (HKA.out.below HB33.out HKA.out.lt)
     have HKB3 := Lib.hid (HKB.out.below HB33.out HKB.out.lt)
     have HKY3 := Lib.hid (HKY.out.below HB33.out HKY.out.lt)
     have HKH3 := Lib.hid (HKH.out.below HB33.out HKH.out.lt)
     have HSG3 := Lib.hid (HSG.out.below HB33.out)
     clear hb3 HI h0
     clear c0 c1 c2 c3 c4 c5 c6 c7 c8 c9 c10 c11 fzc
     rcases v with _ | _
     ·go_wp2_with fail
      go_roundg 1
      case measure => omega
      case rel => exact ⟨mj, flj, pj, .inr (.inr (.inl ⟨rfl, rfl, by rw [HP.out]; have h1 : isR X.L (stR X 1) [119, 104, 101, 114, 101] = false := (by rw [← HP.out, HXL.out]; exact HV.out); have h2 : stR X 2 = if isR X.L (stR X 1) [119, 104, 101, 114, 101] then partR (oneR X 2) X.L [97, 110, 100] X.L.length (onR (stR X 1)) else stR X 1 := rfl; rw [h2, h1, if_neg (by decide)]⟩)), HKA3.out, HKB3.out, HKY3.out, HSG3.out, HB3.out, HW3.out, HKH3.out⟩
     ·obtain ⟨he0, ha1⟩ := word_at HGOOD.out HV.out
      obtain ⟨p4, hp4⟩ : ∃ x, onR pj = x := ⟨_, rfl⟩
      have HOO : Hid (∀ w', Calls Tryz.prog 70 #[StV X mj pj] w' (RSt X mj p4 w')) := Lib.hid (fun w' => by
       rw [← hp4]
       exact von_any X mj pj w' (by have := HGOOD.out.many; omega))
      have HE4 : Hid (p4.err = 0 ∧ p4.at' = pj.at' + 1 ∧ p4.q = pj.q) := Lib.hid (by rw [← hp4]; exact ⟨he0, rfl, rfl⟩)
      have HSP := Lib.hid (HSG3.out.cut.same (p' := p4) HE4.out.2.2 (by rw [HXL.out, HE4.out.2.1]; exact ha1) (fun _ => ⟨he0, by rw [HE4.out.2.1]; omega⟩))
      have HQ5 : Hid (stR X 2 = partR (oneR X 2) X.L [97, 110, 100] X.L.length p4) := Lib.hid (by
       have h1 : isR X.L (stR X 1) [119, 104, 101, 114, 101] = true := by rw [← HP.out, HXL.out]; exact HV.out
       have h2 : stR X 2 = if isR X.L (stR X 1) [119, 104, 101, 114, 101] then partR (oneR X 2) X.L [97, 110, 100] X.L.length (onR (stR X 1)) else stR X 1 := rfl
       rw [h2, if_pos h1, ← HP.out, hp4])
      have HPA : Hid (∀ w', Below w3.heap.size w3 w' → Calls Tryz.prog 67 #[StV X mj p4, .int .i64 2, .string ⟨#[97, 110, 100]⟩] w' (RStO X (stR X 2) (fun g => (S + 2 ≤ g ∧ g ≠ Y) ∧ g < w3.heap.size) w')) := Lib.hid (fun w' hb => by
       rw [HQ5.out]
       exact vpart_any X mj flj p4 _ w' (HXA.out w' (HW3.out.trans (hb.mono HW3.out.size))) (HSP.out.below hb) (fun g hg => Nat.lt_of_lt_of_le hg.2 hb.size) 2 (by omega) (.inr HE4.out.1) ⟨#[97, 110, 100]⟩ [97, 110, 100] rfl)
      obtain ⟨p5, hp5⟩ : ∃ x, stR X 2 = x := ⟨_, rfl⟩
      have HP5 := Lib.hid hp5
      rw [hp5] at HPA
      unfold RSt at HOO
      rw [HXV.out] at HOO HPA
      rw [HXV.out] at HOO
      clear hp4 hp5 he0 ha1
      have c0 := HKY3.out.c 0
      have c1 := HKY3.out.c 1
      have c2 := HKY3.out.c 2
      have c3 := HKY3.out.c 3
      have c4 := HKY3.out.c 4
      have c5 := HKY3.out.c 5
      have c6 := HKY3.out.c 6
      have c7 := HKY3.out.c 7
      have c8 := HKY3.out.c 8
      have c9 := HKY3.out.c 9
      have c10 := HKY3.out.c 10
      have c11 := HKY3.out.c 11
      have fzc : ∀ o, w3.frozen? ⟨Y, o, none⟩ = false := fun o => HKY3.out.frozen o
      go_wp2_with fail
      refine (HOO.out _).mono ?_; rintro e w4 ⟨rfl, hb4⟩
      have HB4 := Lib.hid (HB3.out.trans (hb4.mono (by have := HKA3.out.lt; omega)))
      have HW4 := Lib.hid (HW3.out.trans (hb4.mono HW3.out.size))
      have HKA4 := Lib.hid (HKA3.out.below hb4 HKA3.out.lt)
      have HKB4 := Lib.hid (HKB3.out.below hb4 HKB3.out.lt)
      have HKY4 := Lib.hid (HKY3.out.below hb4 HKY3.out.lt)
      have HKH4 := Lib.hid (HKH3.out.below hb4 HKH3.out.lt)
      have HPP := Lib.hid (HPA.out _ hb4)
      have HSZ4 : Hid (Y < w4.heap.size) := Lib.hid HKY4.out.lt
      clear hb4 HOO
      clear c0 c1 c2 c3 c4 c5 c6 c7 c8 c9 c10 c11 fzc
      go_wp2_with fail
      refine HPP.out.mono ?_; rintro e w5 ⟨m5, fl5, rfl, hst5, hb5⟩
      have HB5 := Lib.hid (HB4.out.trans (hb5.mono (by have := HKA4.out.lt; omega)))
      have HW5 := Lib.hid (HW4.out.trans (hb5.mono HW4.out.size))
      have HKA5 := Lib.hid (HKA4.out.below hb5 HKA4.out.lt)
      have HKB5 := Lib.hid (HKB4.out.below hb5 HKB4.out.lt)
      have HKY5 := Lib.hid (HKY4.out.below hb5 HKY4.out.lt)
      have HKH5 := Lib.hid (HKH4.out.below hb5 HKH4.out.lt)
      have HST5 := Lib.hid hst5
      clear hb5 hst5 HPP HPA
      rw [HXV.out]
      have c0 := HKY5.out.c 0
      have c1 := HKY5.out.c 1
      have c2 := HKY5.out.c 2
      have c3 := HKY5.out.c 3
      have c4 := HKY5.out.c 4
      have c5 := HKY5.out.c 5
      have c6 := HKY5.out.c 6
      have c7 := HKY5.out.c 7
      have c8 := HKY5.out.c 8
      have c9 := HKY5.out.c 9
      have c10 := HKY5.out.c 10
      have c11 := HKY5.out.c 11
      have fzc : ∀ o, w5.frozen? ⟨Y, o, none⟩ = false := fun o => HKY5.out.frozen o
      go_wp2_with fail
      have HSG6 : Hid (StG (fun g => S + 2 ≤ g ∧ g ≠ Y) X m5 fl5 p5 ((((((((((((w5.setCell ⟨Y, 0, none⟩ (.slice ad nd cd)).setCell ⟨Y, 1, none⟩ (.slice ai ni ci)).setCell ⟨Y, 2, none⟩ (.slice an nn cn)).setCell ⟨Y, 3, none⟩ (.slice av nv cv)).setCell ⟨Y, 4, none⟩ (.slice ta L.length tc)).setCell ⟨Y, 5, none⟩ (.int .i64 (p5.at' : Int))).setCell ⟨Y, 6, none⟩ (.int .u32 p5.q.group)).setCell ⟨Y, 7, none⟩ (.slice m5.af m5.nf m5.cf)).setCell ⟨Y, 8, none⟩ (.slice m5.ac m5.nc m5.cc)).setCell ⟨Y, 9, none⟩ (.slice m5.ao m5.no m5.co)).setCell ⟨Y, 10, none⟩ (.int .i64 p5.q.limit)).setCell ⟨Y, 11, none⟩ (.int .i64 (p5.err : Int)))) := Lib.hid (fun wx hag => HST5.out wx (hag.st12 (b := Y) (fun g hg => by have := HSZ4.out; rcases hg with h | h; exact h.1.2; omega) (fun g hg => by have := HSZ4.out; have := HSY.out; rcases hg with h | h; exact h.1; exact ⟨by omega, by omega⟩)))
      clear c0 c1 c2 c3 c4 c5 c6 c7 c8 c9 c10 c11 fzc
      have HKA6 := Lib.hid (blk_far12 HKA5.out (b := Y) (by have := HSY.out; omega) (.slice ad nd cd) (.slice ai ni ci) (.slice an nn cn) (.slice av nv cv) (.slice ta L.length tc) (.int .i64 (p5.at' : Int)) (.int .u32 p5.q.group) (.slice m5.af m5.nf m5.cf) (.slice m5.ac m5.nc m5.cc) (.slice m5.ao m5.no m5.co) (.int .i64 p5.q.limit) (.int .i64 (p5.err : Int)))
      have HKB6 := Lib.hid (blk_far12 HKB5.out (b := Y) (by have := HSY.out; omega) (.slice ad nd cd) (.slice ai ni ci) (.slice an nn cn) (.slice av nv cv) (.slice ta L.length tc) (.int .i64 (p5.at' : Int)) (.int .u32 p5.q.group) (.slice m5.af m5.nf m5.cf) (.slice m5.ac m5.nc m5.cc) (.slice m5.ao m5.no m5.co) (.int .i64 p5.q.limit) (.int .i64 (p5.err : Int)))
      have HKH6 := Lib.hid (blk_far12 HKH5.out (b := Y) (by have := HYH.out; omega) (.slice ad nd cd) (.slice ai ni ci) (.slice an nn cn) (.slice av nv cv) (.slice ta L.length tc) (.int .i64 (p5.at' : Int)) (.int .u32 p5.q.group) (.slice m5.af m5.nf m5.cf) (.slice m5.ac m5.nc m5.cc) (.slice m5.ao m5.no m5.co) (.int .i64 p5.q.limit) (.int .i64 (p5.err : Int)))
      have HKY6 := Lib.hid (blk_st12 HKY5.out (.slice ad nd cd) (.slice ai ni ci) (.slice an nn cn) (.slice av nv cv) (.slice ta L.length tc) (.int .i64 (p5.at' : Int)) (.int .u32 p5.q.group) (.slice m5.af m5.nf m5.cf) (.slice m5.ac m5.nc m5.cc) (.slice m5.ao m5.no m5.co) (.int .i64 p5.q.limit) (.int .i64 (p5.err : Int)))
      have HB6 := Lib.hid (below_st12 HB5.out (b := Y) (by have := HSY.out; omega) (.slice ad nd cd) (.slice ai ni ci) (.slice an nn cn) (.slice av nv cv) (.slice ta L.length tc) (.int .i64 (p5.at' : Int)) (.int .u32 p5.q.group) (.slice m5.af m5.nf m5.cf) (.slice m5.ac m5.nc m5.cc) (.slice m5.ao m5.no m5.co) (.int .i64 p5.q.limit) (.int .i64 (p5.err : Int)))
      have HW6 := Lib.hid (below_st12 HW5.out (b := Y) (by have := HSY.out; omega) (.slice ad nd cd) (.slice ai ni ci) (.slice an nn cn) (.slice av nv cv) (.slice ta L.length tc) (.int .i64 (p5.at' : Int)) (.int .u32 p5.q.group) (.slice m5.af m5.nf m5.cf) (.slice m5.ac m5.nc m5.cc) (.slice m5.ao m5.no m5.co) (.int .i64 p5.q.limit) (.int .i64 (p5.err : Int)))
      generalize ((((((((((((w5.setCell ⟨Y, 0, none⟩ (.slice ad nd cd)).setCell ⟨Y, 1, none⟩ (.slice ai ni ci)).setCell ⟨Y, 2, none⟩ (.slice an nn cn)).setCell ⟨Y, 3, none⟩ (.slice av nv cv)).setCell ⟨Y, 4, none⟩ (.slice ta L.length tc)).setCell ⟨Y, 5, none⟩ (.int .i64 (p5.at' : Int))).setCell ⟨Y, 6, none⟩ (.int .u32 p5.q.group)).setCell ⟨Y, 7, none⟩ (.slice m5.af m5.nf m5.cf)).setCell ⟨Y, 8, none⟩ (.slice m5.ac m5.nc m5.cc)).setCell ⟨Y, 9, none⟩ (.slice m5.ao m5.no m5.co)).setCell ⟨Y, 10, none⟩ (.int .i64 p5.q.limit)).setCell ⟨Y, 11, none⟩ (.int .i64 (p5.err : Int))) = w6 at *
      go_roundg 1
      case measure => omega
      case rel => exact ⟨m5, fl5, p5, .inr (.inr (.inl ⟨rfl, rfl, HP5.out.symm⟩)), HKA6.out, HKB6.out, HKY6.out, HSG6.out, HB6.out, HW6.out, HKH6.out⟩
    ·have HP := Lib.hid hp
     clear hp
     have HIS : Hid (∀ w', Below W2.heap.size W2 w' → ∀ v, isR L pj [111, 114, 100, 101, 114] = v → Calls Tryz.prog 69 #[StV X mj pj, .string ⟨#[111, 114, 100, 101, 114]⟩] w' (fun e w'' => e = .returned (.bool v) ∧ Below w'.heap.size w' w'')) := Lib.hid (fun w' hb v hv => by
      have h0 := vis_any X mj pj w' (HXA.out w' hb) HSG.out.here.at' ⟨#[111, 114, 100, 101, 114]⟩ v (by rw [HXL.out]; exact hv)
      exact h0)
     obtain ⟨v, hv⟩ : ∃ x, isR L pj [111, 114, 100, 101, 114] = x := ⟨_, rfl⟩
     have HI := Lib.hid (fun w' hb => HIS.out w' hb v hv)
     have HV := Lib.hid hv
     clear HIS hv
     rw [HXV.out] at HI
     have h0 := HKH.out.c 3
     have c0 := HKY.out.c 0
     have c1 := HKY.out.c 1
     have c2 := HKY.out.c 2
     have c3 := HKY.out.c 3
     have c4 := HKY.out.c 4
     have c5 := HKY.out.c 5
     have c6 := HKY.out.c 6
     have c7 := HKY.out.c 7
     have c8 := HKY.out.c 8
     have c9 := HKY.out.c 9
     have c10 := HKY.out.c 10
     have c11 := HKY.out.c 11
     have fzc : ∀ o, wr.frozen? ⟨Y, o, none⟩ = false := fun o => HKY.out.frozen o
     go_upto_region 11 with fail
     go_still_tail 5, (by kernel_rfl)
     change wpList _ _ _ _ _ wr.drew
     go_wp2_with fail
     refine (HI.out _ HW.out.drew).mono ?_; rintro e w3 ⟨rfl, hb3⟩
     have HB33 : Hid (Below wr.heap.size wr w3) := Lib.hid (((Below.refl _ _).drew).trans hb3)
     have HB3 := Lib.hid (HB.out.trans (HB33.out.mono (by have := HKA.out.lt; omega)))
     have HW3 := Lib.hid (HW.out.trans (HB33.out.mono HW.out.size))
     have HKA3 := Lib.hid (HKA.out.below HB33.out HKA.out.lt)
     have HKB3 := Lib.hid (HKB.out.below HB33.out HKB.out.lt)
     have HKY3 := Lib.hid (HKY.out.below HB33.out HKY.out.lt)
     have HKH3 := Lib.hid (HKH.out.below HB33.out HKH.out.lt)
     have HSG3 := Lib.hid (HSG.out.below HB33.out)
     clear hb3 HI h0
     clear c0 c1 c2 c3 c4 c5 c6 c7 c8 c9 c10 c11 fzc
     rcases v with _ | _
     ·go_wp2_with fail
      go_roundg 0
      case measure => omega
      case rel => exact ⟨mj, flj, pj, .inr (.inr (.inr (⟨rfl, rfl, by rw [HP.out]; have h1 : isR X.L (stR X 2) [111, 114, 100, 101, 114] = false := (by rw [← HP.out, HXL.out]; exact HV.out); have h2 : stR X 3 = if isR X.L (stR X 2) [111, 114, 100, 101, 114] then partR (oneR X 3) X.L [44] X.L.length (onR (stR X 2)) else stR X 2 := rfl; rw [h2, h1, if_neg (by decide)]⟩))), HKA3.out, HKB3.out, HKY3.out, HSG3.out, HB3.out, HW3.out, HKH3.out⟩
     ·obtain ⟨he0, ha1⟩ := word_at HGOOD.out HV.out
      obtain ⟨p4, hp4⟩ : ∃ x, onR pj = x := ⟨_, rfl⟩
      have HOO : Hid (∀ w', Calls Tryz.prog 70 #[StV X mj pj] w' (RSt X mj p4 w')) := Lib.hid (fun w' => by
       rw [← hp4]
       exact von_any X mj pj w' (by have := HGOOD.out.many; omega))
      have HE4 : Hid (p4.err = 0 ∧ p4.at' = pj.at' + 1 ∧ p4.q = pj.q) := Lib.hid (by rw [← hp4]; exact ⟨he0, rfl, rfl⟩)
      have HSP := Lib.hid (HSG3.out.cut.same (p' := p4) HE4.out.2.2 (by rw [HXL.out, HE4.out.2.1]; exact ha1) (fun _ => ⟨he0, by rw [HE4.out.2.1]; omega⟩))
      have HQ5 : Hid (stR X 3 = partR (oneR X 3) X.L [44] X.L.length p4) := Lib.hid (by
       have h1 : isR X.L (stR X 2) [111, 114, 100, 101, 114] = true := by rw [← HP.out, HXL.out]; exact HV.out
       have h2 : stR X 3 = if isR X.L (stR X 2) [111, 114, 100, 101, 114] then partR (oneR X 3) X.L [44] X.L.length (onR (stR X 2)) else stR X 2 := rfl
       rw [h2, if_pos h1, ← HP.out, hp4])
      have HPA : Hid (∀ w', Below w3.heap.size w3 w' → Calls Tryz.prog 67 #[StV X mj p4, .int .i64 3, .string ⟨#[44]⟩] w' (RStO X (stR X 3) (fun g => (S + 2 ≤ g ∧ g ≠ Y) ∧ g < w3.heap.size) w')) := Lib.hid (fun w' hb => by
       rw [HQ5.out]
       exact vpart_any X mj flj p4 _ w' (HXA.out w' (HW3.out.trans (hb.mono HW3.out.size))) (HSP.out.below hb) (fun g hg => Nat.lt_of_lt_of_le hg.2 hb.size) 3 (by omega) (.inr HE4.out.1) ⟨#[44]⟩ [44] rfl)
      obtain ⟨p5, hp5⟩ : ∃ x, stR X 3 = x := ⟨_, rfl⟩
      have HP5 := Lib.hid hp5
      rw [hp5] at HPA
      unfold RSt at HOO
      rw [HXV.out] at HOO HPA
      rw [HXV.out] at HOO
      clear hp4 hp5 he0 ha1
      have c0 := HKY3.out.c 0
      have c1 := HKY3.out.c 1
      have c2 := HKY3.out.c 2
      have c3 := HKY3.out.c 3
      have c4 := HKY3.out.c 4
      have c5 := HKY3.out.c 5
      have c6 := HKY3.out.c 6
      have c7 := HKY3.out.c 7
      have c8 := HKY3.out.c 8
      have c9 := HKY3.out.c 9
      have c10 := HKY3.out.c 10
      have c11 := HKY3.out.c 11
      have fzc : ∀ o, w3.frozen? ⟨Y, o, none⟩ = false := fun o => HKY3.out.frozen o
      go_wp2_with fail
      refine (HOO.out _).mono ?_; rintro e w4 ⟨rfl, hb4⟩
      have HB4 := Lib.hid (HB3.out.trans (hb4.mono (by have := HKA3.out.lt; omega)))
      have HW4 := Lib.hid (HW3.out.trans (hb4.mono HW3.out.size))
      have HKA4 := Lib.hid (HKA3.out.below hb4 HKA3.out.lt)
      have HKB4 := Lib.hid (HKB3.out.below hb4 HKB3.out.lt)
      have HKY4 := Lib.hid (HKY3.out.below hb4 HKY3.out.lt)
      have HKH4 := Lib.hid (HKH3.out.below hb4 HKH3.out.lt)
      have HPP := Lib.hid (HPA.out _ hb4)
      have HSZ4 : Hid (Y < w4.heap.size) := Lib.hid HKY4.out.lt
      clear hb4 HOO
      clear c0 c1 c2 c3 c4 c5 c6 c7 c8 c9 c10 c11 fzc
      go_wp2_with fail
      refine HPP.out.mono ?_; rintro e w5 ⟨m5, fl5, rfl, hst5, hb5⟩
      have HB5 := Lib.hid (HB4.out.trans (hb5.mono (by have := HKA4.out.lt; omega)))
      have HW5 := Lib.hid (HW4.out.trans (hb5.mono HW4.out.size))
      have HKA5 := Lib.hid (HKA4.out.below hb5 HKA4.out.lt)
      have HKB5 := Lib.hid (HKB4.out.below hb5 HKB4.out.lt)
      have HKY5 := Lib.hid (HKY4.out.below hb5 HKY4.out.lt)
      have HKH5 := Lib.hid (HKH4.out.below hb5 HKH4.out.lt)
      have HST5 := Lib.hid hst5
      clear hb5 hst5 HPP HPA
      rw [HXV.out]
      have c0 := HKY5.out.c 0
      have c1 := HKY5.out.c 1
      have c2 := HKY5.out.c 2
      have c3 := HKY5.out.c 3
      have c4 := HKY5.out.c 4
      have c5 := HKY5.out.c 5
      have c6 := HKY5.out.c 6
      have c7 := HKY5.out.c 7
      have c8 := HKY5.out.c 8
      have c9 := HKY5.out.c 9
      have c10 := HKY5.out.c 10
      have c11 := HKY5.out.c 11
      have fzc : ∀ o, w5.frozen? ⟨Y, o, none⟩ = false := fun o => HKY5.out.frozen o
      go_wp2_with fail
      have HSG6 : Hid (StG (fun g => S + 2 ≤ g ∧ g ≠ Y) X m5 fl5 p5 ((((((((((((w5.setCell ⟨Y, 0, none⟩ (.slice ad nd cd)).setCell ⟨Y, 1, none⟩ (.slice ai ni ci)).setCell ⟨Y, 2, none⟩ (.slice an nn cn)).setCell ⟨Y, 3, none⟩ (.slice av nv cv)).setCell ⟨Y, 4, none⟩ (.slice ta L.length tc)).setCell ⟨Y, 5, none⟩ (.int .i64 (p5.at' : Int))).setCell ⟨Y, 6, none⟩ (.int .u32 p5.q.group)).setCell ⟨Y, 7, none⟩ (.slice m5.af m5.nf m5.cf)).setCell ⟨Y, 8, none⟩ (.slice m5.ac m5.nc m5.cc)).setCell ⟨Y, 9, none⟩ (.slice m5.ao m5.no m5.co)).setCell ⟨Y, 10, none⟩ (.int .i64 p5.q.limit)).setCell ⟨Y, 11, none⟩ (.int .i64 (p5.err : Int)))) := Lib.hid (fun wx hag => HST5.out wx (hag.st12 (b := Y) (fun g hg => by have := HSZ4.out; rcases hg with h | h; exact h.1.2; omega) (fun g hg => by have := HSZ4.out; have := HSY.out; rcases hg with h | h; exact h.1; exact ⟨by omega, by omega⟩)))
      clear c0 c1 c2 c3 c4 c5 c6 c7 c8 c9 c10 c11 fzc
      have HKA6 := Lib.hid (blk_far12 HKA5.out (b := Y) (by have := HSY.out; omega) (.slice ad nd cd) (.slice ai ni ci) (.slice an nn cn) (.slice av nv cv) (.slice ta L.length tc) (.int .i64 (p5.at' : Int)) (.int .u32 p5.q.group) (.slice m5.af m5.nf m5.cf) (.slice m5.ac m5.nc m5.cc) (.slice m5.ao m5.no m5.co) (.int .i64 p5.q.limit) (.int .i64 (p5.err : Int)))
      have HKB6 := Lib.hid (blk_far12 HKB5.out (b := Y) (by have := HSY.out; omega) (.slice ad nd cd) (.slice ai ni ci) (.slice an nn cn) (.slice av nv cv) (.slice ta L.length tc) (.int .i64 (p5.at' : Int)) (.int .u32 p5.q.group) (.slice m5.af m5.nf m5.cf) (.slice m5.ac m5.nc m5.cc) (.slice m5.ao m5.no m5.co) (.int .i64 p5.q.limit) (.int .i64 (p5.err : Int)))
      have HKH6 := Lib.hid (blk_far12 HKH5.out (b := Y) (by have := HYH.out; omega) (.slice ad nd cd) (.slice ai ni ci) (.slice an nn cn) (.slice av nv cv) (.slice ta L.length tc) (.int .i64 (p5.at' : Int)) (.int .u32 p5.q.group) (.slice m5.af m5.nf m5.cf) (.slice m5.ac m5.nc m5.cc) (.slice m5.ao m5.no m5.co) (.int .i64 p5.q.limit) (.int .i64 (p5.err : Int)))
      have HKY6 := Lib.hid (blk_st12 HKY5.out (.slice ad nd cd) (.slice ai ni ci) (.slice an nn cn) (.slice av nv cv) (.slice ta L.length tc) (.int .i64 (p5.at' : Int)) (.int .u32 p5.q.group) (.slice m5.af m5.nf m5.cf) (.slice m5.ac m5.nc m5.cc) (.slice m5.ao m5.no m5.co) (.int .i64 p5.q.limit) (.int .i64 (p5.err : Int)))
      have HB6 := Lib.hid (below_st12 HB5.out (b := Y) (by have := HSY.out; omega) (.slice ad nd cd) (.slice ai ni ci) (.slice an nn cn) (.slice av nv cv) (.slice ta L.length tc) (.int .i64 (p5.at' : Int)) (.int .u32 p5.q.group) (.slice m5.af m5.nf m5.cf) (.slice m5.ac m5.nc m5.cc) (.slice m5.ao m5.no m5.co) (.int .i64 p5.q.limit) (.int .i64 (p5.err : Int)))
      have HW6 := Lib.hid (below_st12 HW5.out (b := Y) (by have := HSY.out; omega) (.slice ad nd cd) (.slice ai ni ci) (.slice an nn cn) (.slice av nv cv) (.slice ta L.length tc) (.int .i64 (p5.at' : Int)) (.int .u32 p5.q.group) (.slice m5.af m5.nf m5.cf) (.slice m5.ac m5.nc m5.cc) (.slice m5.ao m5.no m5.co) (.int .i64 p5.q.limit) (.int .i64 (p5.err : Int)))
      generalize ((((((((((((w5.setCell ⟨Y, 0, none⟩ (.slice ad nd cd)).setCell ⟨Y, 1, none⟩ (.slice ai ni ci)).setCell ⟨Y, 2, none⟩ (.slice an nn cn)).setCell ⟨Y, 3, none⟩ (.slice av nv cv)).setCell ⟨Y, 4, none⟩ (.slice ta L.length tc)).setCell ⟨Y, 5, none⟩ (.int .i64 (p5.at' : Int))).setCell ⟨Y, 6, none⟩ (.int .u32 p5.q.group)).setCell ⟨Y, 7, none⟩ (.slice m5.af m5.nf m5.cf)).setCell ⟨Y, 8, none⟩ (.slice m5.ac m5.nc m5.cc)).setCell ⟨Y, 9, none⟩ (.slice m5.ao m5.no m5.co)).setCell ⟨Y, 10, none⟩ (.int .i64 p5.q.limit)).setCell ⟨Y, 11, none⟩ (.int .i64 (p5.err : Int))) = w6 at *
      go_roundg 0
      case measure => omega
      case rel => exact ⟨m5, fl5, p5, .inr (.inr (.inr (⟨rfl, rfl, HP5.out.symm⟩))), HKA6.out, HKB6.out, HKY6.out, HSG6.out, HB6.out, HW6.out, HKH6.out⟩
    ·have HP := Lib.hid hp
     clear hp
     go_upto_region 16 with fail
     have HIS : Hid (∀ w', Below W2.heap.size W2 w' → ∀ v, isR L pj [108, 105, 109, 105, 116] = v → Calls Tryz.prog 69 #[StV X mj pj, .string ⟨#[108, 105, 109, 105, 116]⟩] w' (fun e w'' => e = .returned (.bool v) ∧ Below w'.heap.size w' w'')) := Lib.hid (fun w' hb v hv => by
      have h0 := vis_any X mj pj w' (HXA.out w' hb) HSG.out.here.at' ⟨#[108, 105, 109, 105, 116]⟩ v (by rw [HXL.out]; exact hv)
      exact h0)
     obtain ⟨v, hv⟩ : ∃ x, isR L pj [108, 105, 109, 105, 116] = x := ⟨_, rfl⟩
     have HI := Lib.hid (fun w' hb => HIS.out w' hb v hv)
     have HV := Lib.hid hv
     clear HIS hv
     rw [HXV.out] at HI
     have c0 := HKY.out.c 0
     have c1 := HKY.out.c 1
     have c2 := HKY.out.c 2
     have c3 := HKY.out.c 3
     have c4 := HKY.out.c 4
     have c5 := HKY.out.c 5
     have c6 := HKY.out.c 6
     have c7 := HKY.out.c 7
     have c8 := HKY.out.c 8
     have c9 := HKY.out.c 9
     have c10 := HKY.out.c 10
     have c11 := HKY.out.c 11
     have fzc : ∀ o, wr.frozen? ⟨Y, o, none⟩ = false := fun o => HKY.out.frozen o
     go_wp2_with fail
     refine (HI.out _ HW.out).mono ?_; rintro e w3 ⟨rfl, hb3⟩
     have HB3 := Lib.hid (HB.out.trans (hb3.mono (by have := HKA.out.lt; omega)))
     have HW3 := Lib.hid (HW.out.trans (hb3.mono HW.out.size))
     have HKA3 := Lib.hid (HKA.out.below hb3 HKA.out.lt)
     have HKB3 := Lib.hid (HKB.out.below hb3 HKB.out.lt)
     have HKY3 := Lib.hid (HKY.out.below hb3 HKY.out.lt)
     have HSG3 := Lib.hid (HSG.out.below hb3)
     clear hb3 HI HKA HKB HKY HKH HSG HB HW
     clear c0 c1 c2 c3 c4 c5 c6 c7 c8 c9 c10 c11 fzc
     go_upto_if 54 with fail
     go_cut [] (fun wx => ∃ (m6 : QryL) (fl6 : List Flt) (p6 : PState), p6 = limR L (stR X 3) ∧ Blk wx S 26 #[.slice ad nd cd, .slice ai ni ci, .slice an nn cn, .slice av nv cv] ∧ Blk wx (S + 1) 32 #[.int .u32 0, .slice none 0 0, .slice none 0 0, .slice none 0 0, .int .i64 0] ∧ Blk wx Y 122 #[.slice ad nd cd, .slice ai ni ci, .slice an nn cn, .slice av nv cv, .slice ta L.length tc, .int .i64 (p6.at' : Int), .int .u32 p6.q.group, .slice m6.af m6.nf m6.cf, .slice m6.ac m6.nc m6.cc, .slice m6.ao m6.no m6.co, .int .i64 p6.q.limit, .int .i64 (p6.err : Int)] ∧ StG (fun g => S + 2 ≤ g ∧ g ≠ Y) X m6 fl6 p6 wx ∧ Below S w wx ∧ Below W2.heap.size W2 wx)
     case first =>
      rcases v with _ | _
      ·go_wp2_with fail
       go_meet
       exact ⟨mj, flj, pj, by rw [← HP.out]; unfold limR; rw [HV.out, if_neg (by decide)], HKA3.out, HKB3.out, HKY3.out, HSG3.out, HB3.out, HW3.out⟩
      ·obtain ⟨he0, ha1⟩ := word_at HGOOD.out HV.out
       obtain ⟨p4, hp4⟩ : ∃ x, onR pj = x := ⟨_, rfl⟩
       have HOO : Hid (∀ w', Calls Tryz.prog 70 #[StV X mj pj] w' (RSt X mj p4 w')) := Lib.hid (fun w' => by
        rw [← hp4]
        exact von_any X mj pj w' (by have := HGOOD.out.many; omega))
       have HE4 : Hid (p4.err = 0 ∧ p4.at' = pj.at' + 1 ∧ p4.q = pj.q) := Lib.hid (by rw [← hp4]; exact ⟨he0, rfl, rfl⟩)
       obtain ⟨⟨p5, n5⟩, hn⟩ : ∃ x, numTR L p4 = x := ⟨_, rfl⟩
       have HA4 : Hid (p4.at' < L.length) := Lib.hid (by rw [HE4.out.2.1]; exact ha1)
       have HNA : Hid (p5.at' < L.length ∧ p5.q = p4.q ∧ (p5.err = 0 → p4.err = 0 ∧ p5.at' = p4.at' + 1) ∧ 0 ≤ n5 ∧ n5 ≤ 1000000000000000000) := Lib.hid (by
        have h0 := num_at HGOOD.out HA4.out
        rw [hn] at h0
        exact h0)
       have HNN : Hid (∀ w', Below W2.heap.size W2 w' → Calls Tryz.prog 71 #[StV X mj p4] w' (RStN X mj (p5, n5) w')) := Lib.hid (fun w' hb => by
        have h0 := vnumber_any X mj p4 w' (HXA.out w' hb) (by rw [HXL.out]; exact HA4.out)
        rw [HXL.out, hn] at h0
        exact h0)
       have HLM : Hid (limR L (stR X 3) = ⟨p5.at', { p5.q with limit := n5 }, p5.err⟩) := Lib.hid (by
        rw [← HP.out]; unfold limR; rw [HV.out, if_pos rfl, hp4, hn])
       have HS5 := Lib.hid (HSG3.out.same (p' := p5) (HNA.out.2.1.trans HE4.out.2.2) (by rw [HXL.out]; exact HNA.out.1) (fun h => ⟨he0, by have := HNA.out.2.2.1 h; have := HE4.out.2.1; omega⟩))
       clear hp4 hn he0 ha1
       unfold RSt at HOO
       unfold RStN at HNN
       rw [HXV.out] at HOO HNN
       rw [HXV.out] at HOO HNN
       have c0 := HKY3.out.c 0
       have c1 := HKY3.out.c 1
       have c2 := HKY3.out.c 2
       have c3 := HKY3.out.c 3
       have c4 := HKY3.out.c 4
       have c5 := HKY3.out.c 5
       have c6 := HKY3.out.c 6
       have c7 := HKY3.out.c 7
       have c8 := HKY3.out.c 8
       have c9 := HKY3.out.c 9
       have c10 := HKY3.out.c 10
       have c11 := HKY3.out.c 11
       have fzc : ∀ o, w3.frozen? ⟨Y, o, none⟩ = false := fun o => HKY3.out.frozen o
       go_wp2_with fail
       refine (HOO.out _).mono ?_; rintro e w4 ⟨rfl, hb4⟩
       have HB4 := Lib.hid (HB3.out.trans (hb4.mono (by have := HKA3.out.lt; omega)))
       have HW4 := Lib.hid (HW3.out.trans (hb4.mono HW3.out.size))
       have HKA4 := Lib.hid (HKA3.out.below hb4 HKA3.out.lt)
       have HKB4 := Lib.hid (HKB3.out.below hb4 HKB3.out.lt)
       have HKY4 := Lib.hid (HKY3.out.below hb4 HKY3.out.lt)
       have HS54 := Lib.hid (HS5.out.below hb4)
       clear hb4 HOO
       clear c0 c1 c2 c3 c4 c5 c6 c7 c8 c9 c10 c11 fzc
       go_wp2_with fail
       refine (HNN.out _ HW4.out).mono ?_; rintro e w5 ⟨rfl, hb5⟩
       have HB5 := Lib.hid (HB4.out.trans (hb5.mono (by have := HKA4.out.lt; omega)))
       have HW5 := Lib.hid (HW4.out.trans (hb5.mono HW4.out.size))
       have HKA5 := Lib.hid (HKA4.out.below hb5 HKA4.out.lt)
       have HKB5 := Lib.hid (HKB4.out.below hb5 HKB4.out.lt)
       have HKY5 := Lib.hid (HKY4.out.below hb5 HKY4.out.lt)
       have HS55 := Lib.hid (HS54.out.below hb5)
       clear hb5 HNN
       have c0 := HKY5.out.c 0
       have c1 := HKY5.out.c 1
       have c2 := HKY5.out.c 2
       have c3 := HKY5.out.c 3
       have c4 := HKY5.out.c 4
       have c5 := HKY5.out.c 5
       have c6 := HKY5.out.c 6
       have c7 := HKY5.out.c 7
       have c8 := HKY5.out.c 8
       have c9 := HKY5.out.c 9
       have c10 := HKY5.out.c 10
       have c11 := HKY5.out.c 11
       have fzc : ∀ o, w5.frozen? ⟨Y, o, none⟩ = false := fun o => HKY5.out.frozen o
       dsimp only
       go_wp2_with fail
       have HI5 : Hid (I64 n5) := Lib.hid (by have h1 := HNA.out.2.2.2.1; have h2 := HNA.out.2.2.2.2; exact i64_small (by omega) (by omega))
       have HSG6 : Hid (StG (fun g => S + 2 ≤ g ∧ g ≠ Y) X mj flj p5 ((((((((((((w5.setCell ⟨Y, 0, none⟩ (.slice ad nd cd)).setCell ⟨Y, 1, none⟩ (.slice ai ni ci)).setCell ⟨Y, 2, none⟩ (.slice an nn cn)).setCell ⟨Y, 3, none⟩ (.slice av nv cv)).setCell ⟨Y, 4, none⟩ (.slice ta L.length tc)).setCell ⟨Y, 5, none⟩ (.int .i64 (p5.at' : Int))).setCell ⟨Y, 6, none⟩ (.int .u32 p5.q.group)).setCell ⟨Y, 7, none⟩ (.slice mj.af mj.nf mj.cf)).setCell ⟨Y, 8, none⟩ (.slice mj.ac mj.nc mj.cc)).setCell ⟨Y, 9, none⟩ (.slice mj.ao mj.no mj.co)).setCell ⟨Y, 10, none⟩ (.int .i64 p5.q.limit)).setCell ⟨Y, 11, none⟩ (.int .i64 (p5.err : Int)))) := Lib.hid (fun wx hag => HS55.out wx (hag.st12 (b := Y) (fun g hg => hg.2) (fun g hg => hg)))
       have HKA6 := Lib.hid (blk_far12 HKA5.out (b := Y) (by have := HSY.out; omega) (.slice ad nd cd) (.slice ai ni ci) (.slice an nn cn) (.slice av nv cv) (.slice ta L.length tc) (.int .i64 (p5.at' : Int)) (.int .u32 p5.q.group) (.slice mj.af mj.nf mj.cf) (.slice mj.ac mj.nc mj.cc) (.slice mj.ao mj.no mj.co) (.int .i64 p5.q.limit) (.int .i64 (p5.err : Int)))
       have HKB6 := Lib.hid (blk_far12 HKB5.out (b := Y) (by have := HSY.out; omega) (.slice ad nd cd) (.slice ai ni ci) (.slice an nn cn) (.slice av nv cv) (.slice ta L.length tc) (.int .i64 (p5.at' : Int)) (.int .u32 p5.q.group) (.slice mj.af mj.nf mj.cf) (.slice mj.ac mj.nc mj.cc) (.slice mj.ao mj.no mj.co) (.int .i64 p5.q.limit) (.int .i64 (p5.err : Int)))
       have HKY6 := Lib.hid (blk_st12 HKY5.out (.slice ad nd cd) (.slice ai ni ci) (.slice an nn cn) (.slice av nv cv) (.slice ta L.length tc) (.int .i64 (p5.at' : Int)) (.int .u32 p5.q.group) (.slice mj.af mj.nf mj.cf) (.slice mj.ac mj.nc mj.cc) (.slice mj.ao mj.no mj.co) (.int .i64 p5.q.limit) (.int .i64 (p5.err : Int)))
       have HB6 := Lib.hid (below_st12 HB5.out (b := Y) (by have := HSY.out; omega) (.slice ad nd cd) (.slice ai ni ci) (.slice an nn cn) (.slice av nv cv) (.slice ta L.length tc) (.int .i64 (p5.at' : Int)) (.int .u32 p5.q.group) (.slice mj.af mj.nf mj.cf) (.slice mj.ac mj.nc mj.cc) (.slice mj.ao mj.no mj.co) (.int .i64 p5.q.limit) (.int .i64 (p5.err : Int)))
       have HW6 := Lib.hid (below_st12 HW5.out (b := Y) (by have := HSY.out; omega) (.slice ad nd cd) (.slice ai ni ci) (.slice an nn cn) (.slice av nv cv) (.slice ta L.length tc) (.int .i64 (p5.at' : Int)) (.int .u32 p5.q.group) (.slice mj.af mj.nf mj.cf) (.slice mj.ac mj.nc mj.cc) (.slice mj.ao mj.no mj.co) (.int .i64 p5.q.limit) (.int .i64 (p5.err : Int)))
       generalize ((((((((((((w5.setCell ⟨Y, 0, none⟩ (.slice ad nd cd)).setCell ⟨Y, 1, none⟩ (.slice ai ni ci)).setCell ⟨Y, 2, none⟩ (.slice an nn cn)).setCell ⟨Y, 3, none⟩ (.slice av nv cv)).setCell ⟨Y, 4, none⟩ (.slice ta L.length tc)).setCell ⟨Y, 5, none⟩ (.int .i64 (p5.at' : Int))).setCell ⟨Y, 6, none⟩ (.int .u32 p5.q.group)).setCell ⟨Y, 7, none⟩ (.slice mj.af mj.nf mj.cf)).setCell ⟨Y, 8, none⟩ (.slice mj.ac mj.nc mj.cc)).setCell ⟨Y, 9, none⟩ (.slice mj.ao mj.no mj.co)).setCell ⟨Y, 10, none⟩ (.int .i64 p5.q.limit)).setCell ⟨Y, 11, none⟩ (.int .i64 (p5.err : Int))) = w6 at *
       have HSG7 : Hid (StG (fun g => S + 2 ≤ g ∧ g ≠ Y) X mj flj (⟨p5.at', { p5.q with limit := n5 }, p5.err⟩ : PState) (w6.setCell ⟨Y, 10, none⟩ (.int .i64 n5))) := Lib.hid (fun wx hag => by
        have h := HSG6.out wx (hag.st1 (fun g hg => hg.2) (fun g hg => hg))
        exact ⟨⟨h.q.1, h.q.2.1, h.q.2.2.1, h.q.2.2.2.1, h.q.2.2.2.2.1, h.q.2.2.2.2.2.1, HI5.out, h.q.2.2.2.2.2.2.2⟩, h.fs, h.grp, h.len, h.at'⟩)
       go_meet
       exact ⟨mj, flj, (⟨p5.at', { p5.q with limit := n5 }, p5.err⟩ : PState), HLM.out.symm, HKA6.out.far (p := ⟨Y, 10, none⟩) (by have := HSY.out; show S ≠ Y; omega) _, HKB6.out.far (p := ⟨Y, 10, none⟩) (by have := HSY.out; show S + 1 ≠ Y; omega) _, (HKY6.out.set_ 10 (.int .i64 n5)).to (cs' := #[.slice ad nd cd, .slice ai ni ci, .slice an nn cn, .slice av nv cv, .slice ta L.length tc, .int .i64 (p5.at' : Int), .int .u32 p5.q.group, .slice mj.af mj.nf mj.cf, .slice mj.ac mj.nc mj.cc, .slice mj.ao mj.no mj.co, .int .i64 n5, .int .i64 (p5.err : Int)]) rfl, HSG7.out, below_set HB6.out (p := ⟨Y, 10, none⟩) (by have := HSY.out; show S ≤ Y; omega) _, below_set HW6.out (p := ⟨Y, 10, none⟩) (by have := HSY.out; show W2.heap.size ≤ Y; omega) _⟩
     case rest =>
      clear HKA3 HKB3 HKY3 HSG3 HB3 HW3 HV HP
      obtain ⟨m6, fl6, p6, hp, hka, hkb, hky, hsg, hb, hw⟩ := hcut
      have HP := Lib.hid hp
      have HKA := Lib.hid hka
      have HKB := Lib.hid hkb
      have HKY := Lib.hid hky
      have HSG := Lib.hid hsg
      have HB := Lib.hid hb
      have HW := Lib.hid hw
      clear hp hka hkb hky hsg hb hw
      obtain ⟨w6, rfl⟩ : ∃ x, x = wc := ⟨_, rfl⟩
      have HQS := Lib.hid (query_says (dimN s) (measN s) L)
      have HQE : Hid (queryR (dimN s) (measN s) L = endR L p6) := Lib.hid (by
       have h0 := stR_says X
       rw [HXL.out, ← HP.out] at h0
       rw [← h0, HXE.out])
      rw [HQE.out] at HQS
      have HA6 : Hid (p6.at' < L.length) := Lib.hid (by rw [← HXL.out]; exact HSG.out.here.at')
      obtain ⟨⟨tk, tt, tn, tp⟩, htk⟩ : ∃ x, tokAt L p6.at' = x := ⟨_, rfl⟩
      have HTK := Lib.hid htk
      have HNX : Hid (∀ p', p'.at' = p6.at' → ∀ w', Below W2.heap.size W2 w' → Calls Tryz.prog 72 #[StV X m6 p'] w' (fun e w'' => e = .returned (.agg #[.int .i64 tk, .string tt, .int .i64 tn, .int .i64 tp]) ∧ Below w'.heap.size w' w'')) := Lib.hid (fun p' hp' w' hb => by
       have h0 := vnext_any X m6 p' w' (HXA.out w' hb) (by rw [hp']; exact HSG.out.here.at')
       rw [hp', HXL.out, htk] at h0
       exact h0)
      have hf0 := tok_f0' tk tn tp tt
      have hf3 := tok_f3' tk tn tp tt
      clear htk HQE
      have HN6 := Lib.hid (HNX.out p6 rfl)
      rw [HXV.out] at HN6
      by_cases he : p6.err = 0
      ·have hd1 : (((p6.err : Nat) : Int) == 0) = true := by simp [he]
       have HEE : Hid (p6.err = 0) := Lib.hid he
       clear he
       by_cases hk : tk = 0
       ·subst hk
        have hd2 : (((p6.err : Nat) : Int) != 0) = false := by simp [HEE.out]
        have HPE : Hid (endR L p6 = p6) := Lib.hid (by unfold endR; rw [if_neg (fun h => h.2 (by rw [HTK.out]))])
        have c0 := HKY.out.c 0
        have c1 := HKY.out.c 1
        have c2 := HKY.out.c 2
        have c3 := HKY.out.c 3
        have c4 := HKY.out.c 4
        have c5 := HKY.out.c 5
        have c6 := HKY.out.c 6
        have c7 := HKY.out.c 7
        have c8 := HKY.out.c 8
        have c9 := HKY.out.c 9
        have c10 := HKY.out.c 10
        have c11 := HKY.out.c 11
        have fzc : ∀ o, w6.frozen? ⟨Y, o, none⟩ = false := fun o => HKY.out.frozen o
        go_wp2_with fail
        refine (HN6.out _ HW.out).mono ?_; rintro e w7 ⟨rfl, hb7⟩
        have HB7 := Lib.hid (HB.out.trans (hb7.mono (by have := HKA.out.lt; omega)))
        have HW7 := Lib.hid (HW.out.trans (hb7.mono HW.out.size))
        have HKA7 := Lib.hid (HKA.out.below hb7 HKA.out.lt)
        have HKB7 := Lib.hid (HKB.out.below hb7 HKB.out.lt)
        have HKY7 := Lib.hid (HKY.out.below hb7 HKY.out.lt)
        have HSG7 := Lib.hid (HSG.out.below hb7)
        clear hb7 HN6 HKA HKB HKY HB HW
        clear c0 c1 c2 c3 c4 c5 c6 c7 c8 c9 c10 c11 fzc
        have c0 := HKY7.out.c 0
        have c1 := HKY7.out.c 1
        have c2 := HKY7.out.c 2
        have c3 := HKY7.out.c 3
        have c4 := HKY7.out.c 4
        have c5 := HKY7.out.c 5
        have c6 := HKY7.out.c 6
        have c7 := HKY7.out.c 7
        have c8 := HKY7.out.c 8
        have c9 := HKY7.out.c 9
        have c10 := HKY7.out.c 10
        have c11 := HKY7.out.c 11
        have fzc : ∀ o, w7.frozen? ⟨Y, o, none⟩ = false := fun o => HKY7.out.frozen o
        have a0 := HKA7.out.c 0
        have a1 := HKA7.out.c 1
        have a2 := HKA7.out.c 2
        have a3 := HKA7.out.c 3
        have HC := Lib.hid (HCK.out w7 m6 (p6.q.at' fl6) (HSO.out _ HB7.out) HSG7.out.here.q)
        rw [qchk_at s p6.q HSG7.out.here.fs] at HC
        unfold SchL.val QryL.val at HC
        dsimp only [QP.at'] at HC
        go_wp2_with fail
        refine HC.out.mono ?_; rintro e w8 ⟨rfl, hb8⟩
        have HB8 := Lib.hid (HB7.out.trans (hb8.mono (by have := HKA7.out.lt; omega)))
        have HKB8 := Lib.hid (HKB7.out.below hb8 HKB7.out.lt)
        have HKY8 := Lib.hid (HKY7.out.below hb8 HKY7.out.lt)
        have HSG8 := Lib.hid (HSG7.out.below hb8)
        clear hb8 HC
        clear c0 c1 c2 c3 c4 c5 c6 c7 c8 c9 c10 c11 fzc
        clear a0 a1 a2 a3
        have HPR1 : Hid (parseR s t = if qchk s p6.q.qry ≠ 0 then .bad 0 (qchk s p6.q.qry) else .ok p6.q) := Lib.hid (by
         have h0 := HQS.out
         rw [HPE.out] at h0
         rw [HP0.out]
         rcases hq : queryS (dimN s) (measN s) L with f | x
         ·rw [hq] at h0
          exact absurd (h0.2.1.symm.trans HEE.out) h0.2.2
         ·rw [hq] at h0
          have h0 : p6 = ⟨x.1, x.2, 0⟩ := h0
          show (if qchk s x.2.qry ≠ 0 then PR.bad 0 (qchk s x.2.qry) else PR.ok x.2) = _
          rw [h0])
        obtain ⟨k, hk⟩ : ∃ k, qchk s p6.q.qry = k := ⟨_, rfl⟩
        rw [hk] at HPR1 ⊢
        clear hk
        by_cases hk0 : k = 0
        ·subst hk0
         have HPR : Hid (parseR s t = .ok p6.q) := Lib.hid (by rw [HPR1.out, if_neg (by decide)])
         have c0 := HKY8.out.c 0
         have c1 := HKY8.out.c 1
         have c2 := HKY8.out.c 2
         have c3 := HKY8.out.c 3
         have c4 := HKY8.out.c 4
         have c5 := HKY8.out.c 5
         have c6 := HKY8.out.c 6
         have c7 := HKY8.out.c 7
         have c8 := HKY8.out.c 8
         have c9 := HKY8.out.c 9
         have c10 := HKY8.out.c 10
         have c11 := HKY8.out.c 11
         have fzc : ∀ o, w8.frozen? ⟨Y, o, none⟩ = false := fun o => HKY8.out.frozen o
         have q0 := HKB8.out.c 0
         have q1 := HKB8.out.c 1
         have q2 := HKB8.out.c 2
         have q3 := HKB8.out.c 3
         have q4 := HKB8.out.c 4
         have fzq : ∀ o, w8.frozen? ⟨S + 1, o, none⟩ = false := fun o => HKB8.out.frozen o
         go_wp2_with fail
         have HAG : Hid (AgrG (fun g => S + 2 ≤ g ∧ g ≠ Y) w8 (((((w8.setCell ⟨S + 1, 0, none⟩ (.int .u32 p6.q.group)).setCell ⟨S + 1, 1, none⟩ (.slice m6.af m6.nf m6.cf)).setCell ⟨S + 1, 2, none⟩ (.slice m6.ac m6.nc m6.cc)).setCell ⟨S + 1, 3, none⟩ (.slice m6.ao m6.no m6.co)).setCell ⟨S + 1, 4, none⟩ (.int .i64 p6.q.limit))) := Lib.hid (AgrG.st1 (AgrG.st1 (AgrG.st1 (AgrG.st1 (AgrG.st1 (AgrG.refl (fun g => S + 2 ≤ g ∧ g ≠ Y) _) (b := S + 1) (fun g hg => by omega) (fun _ h => h)) (b := S + 1) (fun g hg => by omega) (fun _ h => h)) (b := S + 1) (fun g hg => by omega) (fun _ h => h)) (b := S + 1) (fun g hg => by omega) (fun _ h => h)) (b := S + 1) (fun g hg => by omega) (fun _ h => h))
         clear c0 c1 c2 c3 c4 c5 c6 c7 c8 c9 c10 c11 fzc
         have HKF := Lib.hid (blk_st5 HKB8.out (.int .u32 p6.q.group) (.slice m6.af m6.nf m6.cf) (.slice m6.ac m6.nc m6.cc) (.slice m6.ao m6.no m6.co) (.int .i64 p6.q.limit))
         have HBF := Lib.hid (below_st5 HB8.out (b := S + 1) (by omega) (.int .u32 p6.q.group) (.slice m6.af m6.nf m6.cf) (.slice m6.ac m6.nc m6.cc) (.slice m6.ao m6.no m6.co) (.int .i64 p6.q.limit))
         generalize (((((w8.setCell ⟨S + 1, 0, none⟩ (.int .u32 p6.q.group)).setCell ⟨S + 1, 1, none⟩ (.slice m6.af m6.nf m6.cf)).setCell ⟨S + 1, 2, none⟩ (.slice m6.ac m6.nc m6.cc)).setCell ⟨S + 1, 3, none⟩ (.slice m6.ao m6.no m6.co)).setCell ⟨S + 1, 4, none⟩ (.int .i64 p6.q.limit)) = Wf at *
         have z0 := HKF.out.c 0
         have z1 := HKF.out.c 1
         have z2 := HKF.out.c 2
         have z3 := HKF.out.c 3
         have z4 := HKF.out.c 4
         refine bodyPost_ret (v := .tuple #[.agg #[.int .u32 p6.q.group, .slice m6.af m6.nf m6.cf, .slice m6.ac m6.nc m6.cc, .slice m6.ao m6.no m6.co, .int .i64 p6.q.limit], .int .i64 0, .int .i64 0]) (by simp [results, Tryz.results29, go_sem, z0, z1, z2, z3, z4]) rfl ?_
         rw [← HRN.out, HPR.out]
         have h := HSG8.out _ HAG.out
         exact ⟨m6, fl6, rfl, h.q, h.fs, by rw [HSW.out]; exact HBF.out⟩
        ·have hk1 : ((k : Int) != 0) = true := by simp; omega
         have HPR : Hid (parseR s t = .bad 0 k) := Lib.hid (by rw [HPR1.out, if_pos hk0])
         clear hk0
         have q0 := HKB8.out.c 0
         have q1 := HKB8.out.c 1
         have q2 := HKB8.out.c 2
         have q3 := HKB8.out.c 3
         have q4 := HKB8.out.c 4
         have fzq : ∀ o, w8.frozen? ⟨S + 1, o, none⟩ = false := fun o => HKB8.out.frozen o
         go_wp2_with fail
         have HKF := Lib.hid (blk_st5 HKB8.out (.int .u32 0) (.slice none 0 0) (.slice none 0 0) (.slice none 0 0) (.int .i64 0))
         have HBF := Lib.hid (below_st5 HB8.out (b := S + 1) (by omega) (.int .u32 0) (.slice none 0 0) (.slice none 0 0) (.slice none 0 0) (.int .i64 0))
         generalize (((((w8.setCell ⟨S + 1, 0, none⟩ (.int .u32 0)).setCell ⟨S + 1, 1, none⟩ (.slice none 0 0)).setCell ⟨S + 1, 2, none⟩ (.slice none 0 0)).setCell ⟨S + 1, 3, none⟩ (.slice none 0 0)).setCell ⟨S + 1, 4, none⟩ (.int .i64 0)) = Wf at *
         have z0 := HKF.out.c 0
         have z1 := HKF.out.c 1
         have z2 := HKF.out.c 2
         have z3 := HKF.out.c 3
         have z4 := HKF.out.c 4
         refine bodyPost_ret (v := .tuple #[.agg #[.int .u32 0, .slice none 0 0, .slice none 0 0, .slice none 0 0, .int .i64 0], .int .i64 0, .int .i64 (k : Int)]) (by simp [results, Tryz.results29, go_sem, z0, z1, z2, z3, z4]) rfl ?_
         rw [← HRN.out, HPR.out]
         exact ⟨rfl, by rw [HSW.out]; exact HBF.out⟩
       ·have hk2 : (tk != 0) = true := by simp [hk]
        have HTE : Hid (tk ≠ 0) := Lib.hid hk
        clear hk
        have HPE : Hid (endR L p6 = failR p6 6) := Lib.hid (by unfold endR; rw [if_pos ⟨HEE.out, by rw [HTK.out]; exact HTE.out⟩])
        obtain ⟨p7, hp7⟩ : ∃ x, failR p6 6 = x := ⟨_, rfl⟩
        have HF7 : Hid (∀ w', Calls Tryz.prog 73 #[StV X m6 p6, .int .i64 6] w' (RSt X m6 p7 w')) := Lib.hid (fun w' => by
         rw [← hp7]
         exact vfail_any X m6 p6 w' 6)
        have HE7 : Hid (p7.err = 6 ∧ p7.at' = p6.at') := Lib.hid (by rw [← hp7]; unfold failR; rw [if_pos HEE.out]; exact ⟨rfl, rfl⟩)
        have HN7 := Lib.hid (HNX.out p7 HE7.out.2)
        rw [hp7] at HPE
        rw [HXV.out] at HN7
        clear hp7
        unfold RSt at HF7
        rw [HXV.out] at HF7
        rw [HXV.out] at HF7
        have c0 := HKY.out.c 0
        have c1 := HKY.out.c 1
        have c2 := HKY.out.c 2
        have c3 := HKY.out.c 3
        have c4 := HKY.out.c 4
        have c5 := HKY.out.c 5
        have c6 := HKY.out.c 6
        have c7 := HKY.out.c 7
        have c8 := HKY.out.c 8
        have c9 := HKY.out.c 9
        have c10 := HKY.out.c 10
        have c11 := HKY.out.c 11
        have fzc : ∀ o, w6.frozen? ⟨Y, o, none⟩ = false := fun o => HKY.out.frozen o
        go_wp2_with fail
        refine (HN6.out _ HW.out).mono ?_; rintro e w7 ⟨rfl, hb7⟩
        have HB7 := Lib.hid (HB.out.trans (hb7.mono (by have := HKA.out.lt; omega)))
        have HW7 := Lib.hid (HW.out.trans (hb7.mono HW.out.size))
        have HKB7 := Lib.hid (HKB.out.below hb7 HKB.out.lt)
        have HKY7 := Lib.hid (HKY.out.below hb7 HKY.out.lt)
        clear hb7 HN6 HKA HKB HKY HB HW
        clear c0 c1 c2 c3 c4 c5 c6 c7 c8 c9 c10 c11 fzc
        have c0 := HKY7.out.c 0
        have c1 := HKY7.out.c 1
        have c2 := HKY7.out.c 2
        have c3 := HKY7.out.c 3
        have c4 := HKY7.out.c 4
        have c5 := HKY7.out.c 5
        have c6 := HKY7.out.c 6
        have c7 := HKY7.out.c 7
        have c8 := HKY7.out.c 8
        have c9 := HKY7.out.c 9
        have c10 := HKY7.out.c 10
        have c11 := HKY7.out.c 11
        have fzc : ∀ o, w7.frozen? ⟨Y, o, none⟩ = false := fun o => HKY7.out.frozen o
        go_wp2_with fail
        refine (HF7.out _).mono ?_; rintro e w8 ⟨rfl, hb8⟩
        have HB8 := Lib.hid (HB7.out.trans (hb8.mono (by have := HKB7.out.lt; omega)))
        have HW8 := Lib.hid (HW7.out.trans (hb8.mono HW7.out.size))
        have HKB8 := Lib.hid (HKB7.out.below hb8 HKB7.out.lt)
        have HKY8 := Lib.hid (HKY7.out.below hb8 HKY7.out.lt)
        clear hb8 HF7
        clear c0 c1 c2 c3 c4 c5 c6 c7 c8 c9 c10 c11 fzc
        have c0 := HKY8.out.c 0
        have c1 := HKY8.out.c 1
        have c2 := HKY8.out.c 2
        have c3 := HKY8.out.c 3
        have c4 := HKY8.out.c 4
        have c5 := HKY8.out.c 5
        have c6 := HKY8.out.c 6
        have c7 := HKY8.out.c 7
        have c8 := HKY8.out.c 8
        have c9 := HKY8.out.c 9
        have c10 := HKY8.out.c 10
        have c11 := HKY8.out.c 11
        have fzc : ∀ o, w8.frozen? ⟨Y, o, none⟩ = false := fun o => HKY8.out.frozen o
        have t1 : (((p7.err : Nat) : Int) != 0) = true := by rw [HE7.out.1]; decide
        go_upto_region 20 with fail
        clear c0 c1 c2 c3 c4 c5 c6 c7 c8 c9 c10 c11 fzc
        have HKB9 := Lib.hid (blk_far12 HKB8.out (b := Y) (by have := HSY.out; omega) (.slice ad nd cd) (.slice ai ni ci) (.slice an nn cn) (.slice av nv cv) (.slice ta L.length tc) (.int .i64 (p7.at' : Int)) (.int .u32 p7.q.group) (.slice m6.af m6.nf m6.cf) (.slice m6.ac m6.nc m6.cc) (.slice m6.ao m6.no m6.co) (.int .i64 p7.q.limit) (.int .i64 (p7.err : Int)))
        have HKY9 := Lib.hid (blk_st12 HKY8.out (.slice ad nd cd) (.slice ai ni ci) (.slice an nn cn) (.slice av nv cv) (.slice ta L.length tc) (.int .i64 (p7.at' : Int)) (.int .u32 p7.q.group) (.slice m6.af m6.nf m6.cf) (.slice m6.ac m6.nc m6.cc) (.slice m6.ao m6.no m6.co) (.int .i64 p7.q.limit) (.int .i64 (p7.err : Int)))
        have HB9 := Lib.hid (below_st12 HB8.out (b := Y) (by have := HSY.out; omega) (.slice ad nd cd) (.slice ai ni ci) (.slice an nn cn) (.slice av nv cv) (.slice ta L.length tc) (.int .i64 (p7.at' : Int)) (.int .u32 p7.q.group) (.slice m6.af m6.nf m6.cf) (.slice m6.ac m6.nc m6.cc) (.slice m6.ao m6.no m6.co) (.int .i64 p7.q.limit) (.int .i64 (p7.err : Int)))
        have HW9 := Lib.hid (below_st12 HW8.out (b := Y) (by have := HSY.out; omega) (.slice ad nd cd) (.slice ai ni ci) (.slice an nn cn) (.slice av nv cv) (.slice ta L.length tc) (.int .i64 (p7.at' : Int)) (.int .u32 p7.q.group) (.slice m6.af m6.nf m6.cf) (.slice m6.ac m6.nc m6.cc) (.slice m6.ao m6.no m6.co) (.int .i64 p7.q.limit) (.int .i64 (p7.err : Int)))
        generalize ((((((((((((w8.setCell ⟨Y, 0, none⟩ (.slice ad nd cd)).setCell ⟨Y, 1, none⟩ (.slice ai ni ci)).setCell ⟨Y, 2, none⟩ (.slice an nn cn)).setCell ⟨Y, 3, none⟩ (.slice av nv cv)).setCell ⟨Y, 4, none⟩ (.slice ta L.length tc)).setCell ⟨Y, 5, none⟩ (.int .i64 (p7.at' : Int))).setCell ⟨Y, 6, none⟩ (.int .u32 p7.q.group)).setCell ⟨Y, 7, none⟩ (.slice m6.af m6.nf m6.cf)).setCell ⟨Y, 8, none⟩ (.slice m6.ac m6.nc m6.cc)).setCell ⟨Y, 9, none⟩ (.slice m6.ao m6.no m6.co)).setCell ⟨Y, 10, none⟩ (.int .i64 p7.q.limit)).setCell ⟨Y, 11, none⟩ (.int .i64 (p7.err : Int))) = w9 at *
        clear HKB8 HKY8 HB8 HW8 HKB7 HKY7 HB7 HW7 HEE
        have HEE : Hid (p7.err ≠ 0) := Lib.hid (by rw [HE7.out.1]; decide)
        have HPT : Hid (p7.at' = p6.at') := Lib.hid HE7.out.2
        have HPR : Hid (parseR s t = .bad tp (p7.err : Int)) := Lib.hid (by
         have h0 := HQS.out
         rw [HPE.out] at h0
         rw [HP0.out]
         rcases hq : queryS (dimN s) (measN s) L with f | x
         ·rw [hq] at h0
          show PR.bad (tokAt L f.1).a f.2 = _
          rw [← h0.1, ← h0.2.1, HPT.out, HTK.out]
         ·rw [hq] at h0
          have h0 : p7 = ⟨x.1, x.2, 0⟩ := h0
          exact absurd (by rw [h0]) HEE.out)
        have HNE := Lib.hid HN7.out
        clear HN7
        have c0 := HKY9.out.c 0
        have c1 := HKY9.out.c 1
        have c2 := HKY9.out.c 2
        have c3 := HKY9.out.c 3
        have c4 := HKY9.out.c 4
        have c5 := HKY9.out.c 5
        have c6 := HKY9.out.c 6
        have c7 := HKY9.out.c 7
        have c8 := HKY9.out.c 8
        have c9 := HKY9.out.c 9
        have c10 := HKY9.out.c 10
        have c11 := HKY9.out.c 11
        go_upto_region 21 with fail
        clear c0 c1 c2 c3 c4 c5 c6 c7 c8 c9 c10 c11
        clear t1
        have HYD := Lib.hid HKY9.out.drew
        refine wp_regionN (fun w' => Blk w' Y 122 #[.slice ad nd cd, .slice ai ni ci, .slice an nn cn, .slice av nv cv, .slice ta L.length tc, .int .i64 (p7.at' : Int), .int .u32 p7.q.group, .slice m6.af m6.nf m6.cf, .slice m6.ac m6.nc m6.cc, .slice m6.ao m6.no m6.co, .int .i64 p7.q.limit, .int .i64 (p7.err : Int)]) [] (by kernel_rfl) (by exact HYD.out) (fun hHeld => ?_)
        refine wpAnyN_t 0 ⟨some 77, _, _, _, _, _⟩ ?_ rfl ?_ ?_
        rotate_left 1
        ·(intro w hSw; obtain ⟨u0, u1, u2, u3, u4, u5, u6, u7, u8, u9, u10, u11⟩ := blk12 hSw; go_simp; try with_reducible rfl)
        try simp only [Act.put, putA, putB, putC]
        refine wpAnyN_t 1 ⟨some 78, _, _, _, _, _⟩ ?_ rfl ?_ ?_
        rotate_left 1
        ·(intro w hSw; obtain ⟨u0, u1, u2, u3, u4, u5, u6, u7, u8, u9, u10, u11⟩ := blk12 hSw; go_simp; try with_reducible rfl)
        try simp only [Act.put, putA, putB, putC]
        refine wpAnyN_t 4 ⟨some 81, _, _, _, _, _⟩ ?_ rfl ?_ ?_
        rotate_left 1
        ·(intro w hSw; obtain ⟨u0, u1, u2, u3, u4, u5, u6, u7, u8, u9, u10, u11⟩ := blk12 hSw; go_simp; try with_reducible rfl)
        try simp only [Act.put, putA, putB, putC]
        refine wpAnyN_t 5 ⟨some 82, _, _, _, _, _⟩ ?_ rfl ?_ ?_
        rotate_left 1
        ·(intro w hSw; obtain ⟨u0, u1, u2, u3, u4, u5, u6, u7, u8, u9, u10, u11⟩ := blk12 hSw; go_simp; try with_reducible rfl)
        try simp only [Act.put, putA, putB, putC]
        refine wpAnyN_one (i := 2) (o := ⟨some 79, _, _, _, _, _⟩) (by kernel_rfl) rfl (fun K hK => ?_)
        go_simp
        refine (HNE.out _ HW9.out.drew).mono ?_; rintro e w10 ⟨rfl, hb10⟩
        have HBX : Hid (Below w9.heap.size w9 w10) := Lib.hid (((Below.refl _ _).drew).trans hb10)
        clear hb10 HNE
        refine hK.out _ _ (by exact HKY9.out.below HBX.out HKY9.out.lt) ?_
        clear hK K hHeld
        intro hHeld
        try simp only [Act.put, putA, putB, putC]
        refine wpAnyN_t 3 ⟨some 80, _, _, _, _, _⟩ ?_ rfl ?_ ?_
        rotate_left 1
        ·(intro w hSw; obtain ⟨u0, u1, u2, u3, u4, u5, u6, u7, u8, u9, u10, u11⟩ := blk12 hSw; go_simp; try with_reducible rfl)
        try simp only [Act.put, putA, putB, putC]
        refine wpAnyN_one (i := 6) (o := ⟨none, _, _, _, _, _⟩) (by kernel_rfl) rfl (fun K hK => ?_)
        have HKB10 := Lib.hid (HKB9.out.below HBX.out HKB9.out.lt)
        have HKY10 := Lib.hid (HKY9.out.below HBX.out HKY9.out.lt)
        have HB10 := Lib.hid (HB9.out.trans (HBX.out.mono (by have := HKB9.out.lt; omega)))
        have q0 := HKB10.out.c 0
        have q1 := HKB10.out.c 1
        have q2 := HKB10.out.c 2
        have q3 := HKB10.out.c 3
        have q4 := HKB10.out.c 4
        have fzq : ∀ o, w10.frozen? ⟨S + 1, o, none⟩ = false := fun o => HKB10.out.frozen o
        go_simp
        refine hK.out _ _ (by exact blk_far5 HKY10.out (b := S + 1) (by have := HSY.out; omega) (.int .u32 0) (.slice none 0 0) (.slice none 0 0) (.slice none 0 0) (.int .i64 0)) ?_
        clear hK K hHeld
        intro hHeld
        try simp only [Act.put, putA, putB, putC]
        refine wpAnyN_t 7 ⟨some 5, _, _, _, _, _⟩ ?_ rfl ?_ ?_
        rotate_left 1
        ·(intro w hSw; obtain ⟨u0, u1, u2, u3, u4, u5, u6, u7, u8, u9, u10, u11⟩ := blk12 hSw; go_simp; try with_reducible rfl)
        try simp only [Act.put, putA, putB, putC]
        refine wpAnyN_t 8 ⟨some 6, _, _, _, _, _⟩ ?_ rfl ?_ ?_
        rotate_left 1
        ·(intro w hSw; obtain ⟨u0, u1, u2, u3, u4, u5, u6, u7, u8, u9, u10, u11⟩ := blk12 hSw; go_simp; try with_reducible rfl)
        try simp only [Act.put, putA, putB, putC]
        refine wpAnyN_end (by kernel_rfl) ?_
        go_wp2_with fail
        have HKF := Lib.hid (blk_st5 HKB10.out (.int .u32 0) (.slice none 0 0) (.slice none 0 0) (.slice none 0 0) (.int .i64 0))
        have HBF := Lib.hid (below_st5 HB10.out (b := S + 1) (by omega) (.int .u32 0) (.slice none 0 0) (.slice none 0 0) (.slice none 0 0) (.int .i64 0))
        generalize (((((w10.setCell ⟨S + 1, 0, none⟩ (.int .u32 0)).setCell ⟨S + 1, 1, none⟩ (.slice none 0 0)).setCell ⟨S + 1, 2, none⟩ (.slice none 0 0)).setCell ⟨S + 1, 3, none⟩ (.slice none 0 0)).setCell ⟨S + 1, 4, none⟩ (.int .i64 0)) = Wf at *
        have z0 := HKF.out.c 0
        have z1 := HKF.out.c 1
        have z2 := HKF.out.c 2
        have z3 := HKF.out.c 3
        have z4 := HKF.out.c 4
        refine bodyPost_ret (v := .tuple #[.agg #[.int .u32 0, .slice none 0 0, .slice none 0 0, .slice none 0 0, .int .i64 0], .int .i64 tp, .int .i64 (p7.err : Int)]) (by simp [results, Tryz.results29, go_sem, z0, z1, z2, z3, z4]) rfl ?_
        rw [← HRN.out, HPR.out]
        exact ⟨rfl, by rw [HSW.out]; exact HBF.out⟩
      ·have hd1 : (((p6.err : Nat) : Int) == 0) = false := by simp [he]
       have t1 : (((p6.err : Nat) : Int) != 0) = true := by simp [he]
       have HEE : Hid (p6.err ≠ 0) := Lib.hid he
       clear he
       have HPE : Hid (endR L p6 = p6) := Lib.hid (by unfold endR; rw [if_neg (fun h => HEE.out h.1)])
       have HPT : Hid (p6.at' = p6.at') := Lib.hid rfl
       have HPR : Hid (parseR s t = .bad tp (p6.err : Int)) := Lib.hid (by
        have h0 := HQS.out
        rw [HPE.out] at h0
        rw [HP0.out]
        rcases hq : queryS (dimN s) (measN s) L with f | x
        ·rw [hq] at h0
         show PR.bad (tokAt L f.1).a f.2 = _
         rw [← h0.1, ← h0.2.1, HPT.out, HTK.out]
        ·rw [hq] at h0
         have h0 : p6 = ⟨x.1, x.2, 0⟩ := h0
         exact absurd (by rw [h0]) HEE.out)
       have HKY9 := Lib.hid HKY.out
       have HKB9 := Lib.hid HKB.out
       have HB9 := Lib.hid HB.out
       have HW9 := Lib.hid HW.out
       have HNE := Lib.hid HN6.out
       clear HKA HKB HKY HB HW HN6
       have c0 := HKY9.out.c 0
       have c1 := HKY9.out.c 1
       have c2 := HKY9.out.c 2
       have c3 := HKY9.out.c 3
       have c4 := HKY9.out.c 4
       have c5 := HKY9.out.c 5
       have c6 := HKY9.out.c 6
       have c7 := HKY9.out.c 7
       have c8 := HKY9.out.c 8
       have c9 := HKY9.out.c 9
       have c10 := HKY9.out.c 10
       have c11 := HKY9.out.c 11
       go_upto_region 21 with fail
       clear c0 c1 c2 c3 c4 c5 c6 c7 c8 c9 c10 c11
       clear t1
       have HYD := Lib.hid HKY9.out.drew
       refine wp_regionN (fun w' => Blk w' Y 122 #[.slice ad nd cd, .slice ai ni ci, .slice an nn cn, .slice av nv cv, .slice ta L.length tc, .int .i64 (p6.at' : Int), .int .u32 p6.q.group, .slice m6.af m6.nf m6.cf, .slice m6.ac m6.nc m6.cc, .slice m6.ao m6.no m6.co, .int .i64 p6.q.limit, .int .i64 (p6.err : Int)]) [] (by kernel_rfl) (by exact HYD.out) (fun hHeld => ?_)
       refine wpAnyN_t 0 ⟨some 77, _, _, _, _, _⟩ ?_ rfl ?_ ?_
       rotate_left 1
       ·(intro w hSw; obtain ⟨u0, u1, u2, u3, u4, u5, u6, u7, u8, u9, u10, u11⟩ := blk12 hSw; go_simp; try with_reducible rfl)
       try simp only [Act.put, putA, putB, putC]
       refine wpAnyN_t 1 ⟨some 78, _, _, _, _, _⟩ ?_ rfl ?_ ?_
       rotate_left 1
       ·(intro w hSw; obtain ⟨u0, u1, u2, u3, u4, u5, u6, u7, u8, u9, u10, u11⟩ := blk12 hSw; go_simp; try with_reducible rfl)
       try simp only [Act.put, putA, putB, putC]
       refine wpAnyN_t 4 ⟨some 81, _, _, _, _, _⟩ ?_ rfl ?_ ?_
       rotate_left 1
       ·(intro w hSw; obtain ⟨u0, u1, u2, u3, u4, u5, u6, u7, u8, u9, u10, u11⟩ := blk12 hSw; go_simp; try with_reducible rfl)
       try simp only [Act.put, putA, putB, putC]
       refine wpAnyN_t 5 ⟨some 82, _, _, _, _, _⟩ ?_ rfl ?_ ?_
       rotate_left 1
       ·(intro w hSw; obtain ⟨u0, u1, u2, u3, u4, u5, u6, u7, u8, u9, u10, u11⟩ := blk12 hSw; go_simp; try with_reducible rfl)
       try simp only [Act.put, putA, putB, putC]
       refine wpAnyN_one (i := 2) (o := ⟨some 79, _, _, _, _, _⟩) (by kernel_rfl) rfl (fun K hK => ?_)
       go_simp
       refine (HNE.out _ HW9.out.drew).mono ?_; rintro e w10 ⟨rfl, hb10⟩
       have HBX : Hid (Below w6.heap.size w6 w10) := Lib.hid (((Below.refl _ _).drew).trans hb10)
       clear hb10 HNE
       refine hK.out _ _ (by exact HKY9.out.below HBX.out HKY9.out.lt) ?_
       clear hK K hHeld
       intro hHeld
       try simp only [Act.put, putA, putB, putC]
       refine wpAnyN_t 3 ⟨some 80, _, _, _, _, _⟩ ?_ rfl ?_ ?_
       rotate_left 1
       ·(intro w hSw; obtain ⟨u0, u1, u2, u3, u4, u5, u6, u7, u8, u9, u10, u11⟩ := blk12 hSw; go_simp; try with_reducible rfl)
       try simp only [Act.put, putA, putB, putC]
       refine wpAnyN_one (i := 6) (o := ⟨none, _, _, _, _, _⟩) (by kernel_rfl) rfl (fun K hK => ?_)
       have HKB10 := Lib.hid (HKB9.out.below HBX.out HKB9.out.lt)
       have HKY10 := Lib.hid (HKY9.out.below HBX.out HKY9.out.lt)
       have HB10 := Lib.hid (HB9.out.trans (HBX.out.mono (by have := HKB9.out.lt; omega)))
       have q0 := HKB10.out.c 0
       have q1 := HKB10.out.c 1
       have q2 := HKB10.out.c 2
       have q3 := HKB10.out.c 3
       have q4 := HKB10.out.c 4
       have fzq : ∀ o, w10.frozen? ⟨S + 1, o, none⟩ = false := fun o => HKB10.out.frozen o
       go_simp
       refine hK.out _ _ (by exact blk_far5 HKY10.out (b := S + 1) (by have := HSY.out; omega) (.int .u32 0) (.slice none 0 0) (.slice none 0 0) (.slice none 0 0) (.int .i64 0)) ?_
       clear hK K hHeld
       intro hHeld
       try simp only [Act.put, putA, putB, putC]
       refine wpAnyN_t 7 ⟨some 5, _, _, _, _, _⟩ ?_ rfl ?_ ?_
       rotate_left 1
       ·(intro w hSw; obtain ⟨u0, u1, u2, u3, u4, u5, u6, u7, u8, u9, u10, u11⟩ := blk12 hSw; go_simp; try with_reducible rfl)
       try simp only [Act.put, putA, putB, putC]
       refine wpAnyN_t 8 ⟨some 6, _, _, _, _, _⟩ ?_ rfl ?_ ?_
       rotate_left 1
       ·(intro w hSw; obtain ⟨u0, u1, u2, u3, u4, u5, u6, u7, u8, u9, u10, u11⟩ := blk12 hSw; go_simp; try with_reducible rfl)
       try simp only [Act.put, putA, putB, putC]
       refine wpAnyN_end (by kernel_rfl) ?_
       go_wp2_with fail
       have HKF := Lib.hid (blk_st5 HKB10.out (.int .u32 0) (.slice none 0 0) (.slice none 0 0) (.slice none 0 0) (.int .i64 0))
       have HBF := Lib.hid (below_st5 HB10.out (b := S + 1) (by omega) (.int .u32 0) (.slice none 0 0) (.slice none 0 0) (.slice none 0 0) (.int .i64 0))
       generalize (((((w10.setCell ⟨S + 1, 0, none⟩ (.int .u32 0)).setCell ⟨S + 1, 1, none⟩ (.slice none 0 0)).setCell ⟨S + 1, 2, none⟩ (.slice none 0 0)).setCell ⟨S + 1, 3, none⟩ (.slice none 0 0)).setCell ⟨S + 1, 4, none⟩ (.int .i64 0)) = Wf at *
       have z0 := HKF.out.c 0
       have z1 := HKF.out.c 1
       have z2 := HKF.out.c 2
       have z3 := HKF.out.c 3
       have z4 := HKF.out.c 4
       refine bodyPost_ret (v := .tuple #[.agg #[.int .u32 0, .slice none 0 0, .slice none 0 0, .slice none 0 0, .int .i64 0], .int .i64 tp, .int .i64 (p6.err : Int)]) (by simp [results, Tryz.results29, go_sem, z0, z1, z2, z3, z4]) rfl ?_
       rw [← HRN.out, HPR.out]
       exact ⟨rfl, by rw [HSW.out]; exact HBF.out⟩
end Go.Proofs.YtaofjnidniekjaaGreatDoor
