/- Whether a schema is right: the plain definition, and the contract of package schema's Check. No conditions but those stated. -/
import Derived.Test.YtehmompbmnejkaaGreatSchA
import Derived.Test.YtehmompbmnejkaaGreatMNames
namespace Go.Proofs.YtehmompbmnejkaaGreat
open Go.RowKit

def cntB (s : Sch) : Bool := decide (s.dims.length = 0) || (decide (6 < s.dims.length) || (decide (3 < s.ints.length) || (decide (2 < s.nums.length) || decide (15 < s.views.length))))
noncomputable def twR (xs : List ByteArray) : Int := (twice_ex xs).choose
theorem twR_is (xs : List ByteArray) : TwiceIs xs (twR xs) := (twice_ex xs).choose_spec
/-- from dimension i on, g being left, k keys so far -/
def keysOk (ds : List (ByteArray × Int)) : Nat → Nat → Int → Bool
 | 0, _, _ => true
 | g + 1, i, k => if (dimAt ds i).2 < 1 ∨ 4096 < (dimAt ds i).2 ∨ 1099511627776 / (dimAt ds i).2 < k then false else keysOk ds g (i + 1) (k * (dimAt ds i).2)
theorem keysOk_succ (ds : List (ByteArray × Int)) (g i : Nat) (k : Int) : keysOk ds (g + 1) i k = if (dimAt ds i).2 < 1 ∨ 4096 < (dimAt ds i).2 ∨ 1099511627776 / (dimAt ds i).2 < k then false else keysOk ds g (i + 1) (k * (dimAt ds i).2) := rfl
def viewsOk (full : Int) (vs : List Int) : Nat → Nat → Bool
 | 0, _ => true
 | g + 1, i => if full ≤ vs.getD i 0 ∨ (0 < i ∧ vs.getD i 0 ≤ vs.getD (i - 1) 0) then false else viewsOk full vs g (i + 1)
theorem viewsOk_succ (full : Int) (vs : List Int) (g i : Nat) : viewsOk full vs (g + 1) i = if full ≤ vs.getD i 0 ∨ (0 < i ∧ vs.getD i 0 ≤ vs.getD (i - 1) 0) then false else viewsOk full vs g (i + 1) := rfl
theorem full_is {n : Nat} (h : n ≤ 6) : ((2 : Int) ^ n % 4294967296 - 1) % 4294967296 = 2 ^ n - 1 ∧ (0 : Int) ≤ 2 ^ n - 1 ∧ (2 : Int) ^ n - 1 ≤ 63 := by
 have : n = 0 ∨ n = 1 ∨ n = 2 ∨ n = 3 ∨ n = 4 ∨ n = 5 ∨ n = 6 := by omega
 rcases this with rfl | rfl | rfl | rfl | rfl | rfl | rfl <;> decide
noncomputable def namesN (xs : List ByteArray) : Nat → Nat → Bool
 | 0, _ => true
 | g + 1, i => if nameB (xs.getD i ByteArray.empty) = false then false else namesN xs g (i + 1)
noncomputable def chkS (s : Sch) : Nat :=
 if cntB s = true then 3 else if namesN s.names s.names.length 0 = false then 8 else if 0 ≤ twR s.names then 9
 else if keysOk s.dims s.dims.length 0 1 = false then 2 else if viewsOk (2 ^ s.dims.length - 1) s.views s.views.length 0 = false then 6 else 0
theorem chk_cnt {s : Sch} (h : cntB s = true) : chkS s = 3 := by unfold chkS; rw [if_pos h]
theorem chk_name {s : Sch} (h : cntB s = false) (h2 : namesN s.names s.names.length 0 = false) : chkS s = 8 := by unfold chkS; rw [if_neg (by rw [h]; decide), if_pos h2]
theorem chk_twice {s : Sch} (h : cntB s = false) (h2 : namesN s.names s.names.length 0 = true) (h3 : 0 ≤ twR s.names) : chkS s = 9 := by
 unfold chkS; rw [if_neg (by rw [h]; decide), if_neg (by rw [h2]; decide), if_pos h3]
theorem chk_key {s : Sch} (h : cntB s = false) (h2 : namesN s.names s.names.length 0 = true) (h3 : twR s.names < 0) (h4 : keysOk s.dims s.dims.length 0 1 = false) : chkS s = 2 := by
 unfold chkS; rw [if_neg (by rw [h]; decide), if_neg (by rw [h2]; decide), if_neg (Int.not_le.2 h3), if_pos h4]
theorem chk_view {s : Sch} (h : cntB s = false) (h2 : namesN s.names s.names.length 0 = true) (h3 : twR s.names < 0) (h4 : keysOk s.dims s.dims.length 0 1 = true) (h5 : viewsOk (2 ^ s.dims.length - 1) s.views s.views.length 0 = false) : chkS s = 6 := by
 unfold chkS; rw [if_neg (by rw [h]; decide), if_neg (by rw [h2]; decide), if_neg (Int.not_le.2 h3), if_neg (by rw [h4]; decide), if_pos h5]
theorem chk_ok {s : Sch} (h : cntB s = false) (h2 : namesN s.names s.names.length 0 = true) (h3 : twR s.names < 0) (h4 : keysOk s.dims s.dims.length 0 1 = true) (h5 : viewsOk (2 ^ s.dims.length - 1) s.views s.views.length 0 = true) : chkS s = 0 := by
 unfold chkS; rw [if_neg (by rw [h]; decide), if_neg (by rw [h2]; decide), if_neg (Int.not_le.2 h3), if_neg (by rw [h4]; decide), if_neg (by rw [h5]; decide)]
theorem rowk_at {k : IntKind} {w : World} {a : Option Addr} {n cap : Nat} {xs : List Int} (h : RowK k w a n cap xs) (hn : 0 < n) : ∃ b off, a = some ⟨b, off, none⟩ ∧ b < w.heap.size ∧ ∀ i, i < n → w.cell? ⟨b, off + i, none⟩ = some (.int k (xs.getD i 0)) := by
 rcases h.2.2.2 with h0 | h0
 ·have := h.2.1; omega
 ·exact h0
theorem geti_mem {xs : List Int} {i : Nat} (h : i < xs.length) : xs.getD i 0 ∈ xs := by
 rw [List.getD_eq_getElem?_getD, List.getElem?_eq_getElem h]; exact List.getElem_mem h
def RChk (s : Sch) (w : World) (e : Ending) (w' : World) : Prop := e = .returned (.int .i64 (chkS s : Nat)) ∧ Below w.heap.size w w'
theorem RChk.mk {s : Sch} {w w' : World} {k S N : Nat} {w0 : World} (hc : chkS s = k) (hS : w.heap.size = S) (hbw : Below S w w0) (hn : S < N) (hb : Below N w0 w') : RChk s w (.returned (.int .i64 (k : Int))) w' := by
 subst hS
 exact ⟨by rw [hc], hbw.trans (hb.mono (Nat.le_of_lt hn))⟩
theorem SchAt.sizes {w : World} {l : SchL} {s : Sch} (h : SchAt w l s) : ∀ x ∈ s.names, x.size ≤ maxLen := by
 obtain ⟨-, -, -, -, -, h1, h2, h3, -⟩ := h
 intro x hx
 unfold Sch.names at hx
 simp only [List.mem_append, List.mem_map] at hx
 rcases hx with (⟨d, hd, rfl⟩ | hx) | hx
 ·exact (h1 d hd).1
 ·exact h2 x hx
 ·exact h3 x hx

set_option maxRecDepth 100000 in
set_option maxHeartbeats 4000000 in
theorem schk_any (w : World) (l : SchL) (s : Sch) (h : SchAt w l s) :
  Calls Tryz.prog 17 #[l.val] w (RChk s w) := by
 obtain ⟨ad, nd, cd, ai, ni, ci, an, nn, cn, av, nv, cv⟩ := l
 have hnd : s.dims.length = nd := h.2.1
 have hni : s.ints.length = ni := h.2.2.1.1
 have hnn : s.nums.length = nn := h.2.2.2.1.1
 have hnv : s.views.length = nv := h.2.2.2.2.1.1
 have m1 : nd ≤ 9223372036854775807 := by have h1 := h.1.2.1; have h2 := h.1.2.2.1; simp only at h1 h2; unfold maxLen at h2; omega
 have m2 : ni ≤ 9223372036854775807 := by have h1 := h.2.2.1.2.1; have h2 := h.2.2.1.2.2.1; simp only at h1 h2; unfold maxLen at h2; omega
 have m3 : nn ≤ 9223372036854775807 := by have h1 := h.2.2.2.1.2.1; have h2 := h.2.2.2.1.2.2.1; simp only at h1 h2; unfold maxLen at h2; omega
 have m4 : nv ≤ 9223372036854775807 := by have h1 := h.2.2.2.2.1.2.1; have h2 := h.2.2.2.2.1.2.2.1; simp only at h1 h2; unfold maxLen at h2; omega
 obtain ⟨hbx, hbw, hsz⟩ := boxed w 26 #[.slice ad nd cd, .slice ai ni ci, .slice an nn cn, .slice av nv cv]
 have HS := Lib.hid (h.below hbw (Nat.le_refl _))
 have HBW := Lib.hid hbw
 obtain ⟨N, hN⟩ : ∃ N, (w.alloc (.cells #[.slice ad nd cd, .slice ai ni ci, .slice an nn cn, .slice av nv cv] 26)).heap.size = N := ⟨_, rfl⟩
 have HN1 : Hid (w.heap.size < N) := Lib.hid (by rw [← hN, hsz]; omega)
 have e0 := hbx 0
 have e1 := hbx 1
 have e2 := hbx 2
 have e3 := hbx 3
 simp only [List.getElem?_toArray, List.getElem?_cons_zero, List.getElem?_cons_succ] at e0 e1 e2 e3
 have HE0 := Lib.hid e0
 have HE1 := Lib.hid e1
 have HE2 := Lib.hid e2
 have HE3 := Lib.hid e3
 clear h hbw hbx hsz
 obtain ⟨A, hA⟩ : ∃ D, ((nd : Int) == 0) = D := ⟨_, rfl⟩
 obtain ⟨B, hB⟩ : ∃ D, decide ((6 : Int) < (nd : Int)) = D := ⟨_, rfl⟩
 obtain ⟨C, hC⟩ : ∃ D, decide ((3 : Int) < (ni : Int)) = D := ⟨_, rfl⟩
 obtain ⟨D, hD⟩ : ∃ D, decide ((2 : Int) < (nn : Int)) = D := ⟨_, rfl⟩
 obtain ⟨E, hE⟩ : ∃ D, decide ((15 : Int) < (nv : Int)) = D := ⟨_, rfl⟩
 have HCN : Hid (cntB s = (A || (B || (C || (D || E))))) := Lib.hid (by
  unfold cntB
  rw [hnd, hni, hnn, hnv, ← hA, ← hB, ← hC, ← hD, ← hE]
  congr 1
  ·rw [Bool.eq_iff_iff, decide_eq_true_eq, beq_iff_eq]; omega
  congr 1
  ·rw [decide_eq_decide]; omega
  congr 1
  ·rw [decide_eq_decide]; omega
  congr 1
  ·rw [decide_eq_decide]; omega
  ·rw [decide_eq_decide]; omega)
 have HLN := Lib.hid (And.intro hnd (And.intro hni (And.intro hnn hnv)))
 clear hnd hni hnn hnv
 unfold SchL.val
 go_enter Tryz.func17, Tryz.ntmps17
 go_upto_region 1 with fail
 generalize (w.alloc (.cells #[.slice ad nd cd, .slice ai ni ci, .slice an nn cn, .slice av nv cv] 26)) = w0 at *
 generalize hS : w.heap.size = S at *
 have HSS := Lib.hid hS
 have HN := Lib.hid hN
 clear hS hN
 go_cut [39] (fun v wx => v = .bool (cntB s) ∧ w0 = wx)
 case first =>
  as_aux_lemma =>
   have hcase : A = true ∨ (A = false ∧ B = true) ∨ (A = false ∧ B = false ∧ C = true) ∨ (A = false ∧ B = false ∧ C = false ∧ D = true) ∨ (A = false ∧ B = false ∧ C = false ∧ D = false) := by
    cases A <;> cases B <;> cases C <;> cases D <;> simp
   rcases hcase with rfl | ⟨rfl, rfl⟩ | ⟨rfl, rfl, rfl⟩ | ⟨rfl, rfl, rfl, rfl⟩ | ⟨rfl, rfl, rfl, rfl⟩
   all_goals
    go_wp2_with fail
    go_meet
    exact ⟨by rw [HCN.out]; rfl, rfl⟩
 case rest =>
  obtain ⟨rfl, rfl⟩ := hcut
  clear hA hB hC hD hE e0 e1 e2 e3
  rcases hq : cntB s with _ | _
  case true =>
   have HC := Lib.hid (chk_cnt hq)
   clear hq
   go_wp2_with fail
   go_ret
   exact RChk.mk HC.out HSS.out HBW.out HN1.out (Below.refl _ _)
  case false =>
   have HQ := Lib.hid hq
   have hbd : nd ≠ 0 ∧ nd ≤ 6 ∧ ni ≤ 3 ∧ nn ≤ 2 ∧ nv ≤ 15 := by
    unfold cntB at hq
    rw [HLN.out.1, HLN.out.2.1, HLN.out.2.2.1, HLN.out.2.2.2] at hq
    simp only [Bool.or_eq_false_iff, decide_eq_false_iff_not] at hq
    omega
   obtain ⟨b0, b1, b2, b3, b4⟩ := hbd
   have b0' : 0 < nd := by omega
   have e0 := HE0.out
   have e1 := HE1.out
   have e2 := HE2.out
   have e3 := HE3.out
   clear hq b0
   go_wp2_with fail
   refine (all_any _ ⟨ad, nd, cd, ai, ni, ci, an, nn, cn, av, nv, cv⟩ s HS.out (by show nd ≤ 1000; omega) (by show ni ≤ 1000; omega) (by show nn ≤ 1000; omega)).mono ?_
   rintro e w1 ⟨al, cl, rfl, hrow, hb1⟩
   have HB1 : Hid (Below N w0 w1) := Lib.hid (by rw [← HN.out]; exact hb1)
   have HML : Hid (s.names.length ≤ 11) := Lib.hid (by unfold Sch.names; rw [List.length_append, List.length_append, List.length_map, HLN.out.1, HLN.out.2.1, HLN.out.2.2.1]; omega)
   have HSZ := Lib.hid HS.out.sizes
   obtain ⟨M, hM⟩ : ∃ M, s.names.length = M := ⟨_, rfl⟩
   rw [hM] at hrow HML ⊢
   have HM := Lib.hid hM
   have HR1 := Lib.hid hrow
   have hml := HML.out
   clear hrow hb1 hM e0 e1 e2 e3
   go_wp2_with fail
   go_loopg [44] M (fun q iu wr => ∃ (i : Nat), iu = .int .i64 i ∧ i + q = M ∧ namesN s.names q i = namesN s.names M 0 ∧ Below N w0 wr ∧ RowS wr al M cl s.names)
   case atStart => exact ⟨0, rfl, by omega, rfl, HB1.out, HR1.out⟩
   case round =>
    obtain ⟨i, rfl, hq, hnn, hb, hr⟩ := hrel
    have HQ2 := Lib.hid hq
    have HNN := Lib.hid hnn
    have HB2 := Lib.hid hb
    have HR2 := Lib.hid hr
    clear hq hnn hb hr
    by_cases hlt : i < M
    ·obtain ⟨gk2, hgk⟩ : ∃ g, gk = g + 1 := ⟨gk - 1, by have := HQ2.out; omega⟩
     have HNX : Hid (namesN s.names M 0 = if nameB (s.names.getD i ByteArray.empty) = false then false else namesN s.names gk2 (i + 1)) := Lib.hid (by rw [← HNN.out, hgk]; rfl)
     have HG2 := Lib.hid hgk
     obtain ⟨b, off, rfl, hbl, hc⟩ : ∃ b off, al = some ⟨b, off, none⟩ ∧ b < wr.heap.size ∧ ∀ i, i < M → wr.cell? ⟨b, off + i, none⟩ = some (.string (s.names.getD i ByteArray.empty)) := by
      rcases HR2.out.2.2.2 with h0 | h0
      ·have := HR2.out.2.1; omega
      ·exact h0
     have c0 := hc i hlt
     obtain ⟨x, hx⟩ : ∃ x, s.names.getD i ByteArray.empty = x := ⟨_, rfl⟩
     rw [hx] at c0 HNX
     obtain ⟨bx, hbx⟩ : ∃ bx, nameB x = bx := ⟨_, rfl⟩
     have HIS : Hid (∀ w', Calls Tryz.prog 36 #[.string x] w' fun e w'' => e = .returned (.bool bx) ∧ Below w'.heap.size w' w'') := Lib.hid (fun w' => by rw [← hbx]; exact pis_any x w')
     rw [hbx] at HNX
     clear hgk hc hx hbx
     go_wp2_with fail
     refine (HIS.out _).mono ?_; rintro e w2 ⟨rfl, hb2⟩
     have HB3 := Lib.hid (HB2.out.trans (hb2.mono (by have := HB2.out.size; rw [HN.out] at this; exact this)))
     have HR3 := Lib.hid (HR2.out.below hb2 (Nat.le_refl _))
     clear hb2 c0
     rcases bx with _ | _
     ·have HC := Lib.hid (chk_name HQ.out (by rw [HM.out, HNX.out]; rfl))
      go_wp2_with fail
      go_ret
      exact RChk.mk HC.out HSS.out HBW.out HN1.out HB3.out
     ·have HN3 : Hid (namesN s.names gk2 (i + 1) = namesN s.names M 0) := Lib.hid (by rw [HNX.out]; rfl)
      go_wp2_with fail
      go_roundg gk2
      case measure => have := HG2.out; omega
      case rel => exact ⟨i + 1, by go_num, by have := HQ2.out; have := HG2.out; omega, HN3.out, HB3.out, HR3.out⟩
    ·obtain rfl : i = M := by have := HQ2.out; omega
     have HNT : Hid (namesN s.names s.names.length 0 = true) := Lib.hid (by
      have h1 : gk = 0 := by have := HQ2.out; omega
      rw [HM.out, ← HNN.out, h1]; rfl)
     obtain ⟨r, hr⟩ : ∃ r, twR s.names = r := ⟨_, rfl⟩
     have HTW : Hid (TwiceIs s.names r) := Lib.hid (by rw [← hr]; exact twR_is _)
     have HTR := Lib.hid hr
     clear hr
     go_wp2_with fail
     refine (ptwice_any al i cl s.names r _ HR2.out HTW.out HSZ.out).mono ?_
     rintro e w3 ⟨rfl, hb3⟩
     have HB4 := Lib.hid (HB2.out.trans (hb3.mono (by have := HB2.out.size; rw [HN.out] at this; exact this)))
     clear hb3
     by_cases hr0 : 0 ≤ r
     ·have HC := Lib.hid (chk_twice HQ.out HNT.out (by rw [HTR.out]; exact hr0))
      go_wp2_with fail
      go_ret
      exact RChk.mk HC.out HSS.out HBW.out HN1.out HB4.out
     have HTN : Hid (twR s.names < 0) := Lib.hid (by rw [HTR.out]; exact Int.not_le.1 hr0)
     have hr0' : r < 0 := by omega
     have e0 : w3.cell? ⟨S, 0, none⟩ = some (.slice ad nd cd) := by rw [HB4.out.cell (p := ⟨S, 0, none⟩) HN1.out]; exact HE0.out
     clear hr0 HTW HTR HNN HR2 HB2 HB1 HR1 HQ2
     go_wp2_with fail
     clear e0
     go_loopg [6, 58] nd (fun q ku iu wx => ∃ (j : Nat) (k : Int), ku = .int .i64 k ∧ iu = .int .i64 j ∧ j + q = nd ∧ 1 ≤ k ∧ k ≤ 1099511627776 ∧ keysOk s.dims q j k = keysOk s.dims nd 0 1 ∧ Below N w0 wx)
     case atStart => exact ⟨0, 1, rfl, rfl, by omega, by decide, by decide, rfl, HB4.out⟩
     case round =>
      obtain ⟨j, k, rfl, rfl, hq, hk1, hk2, hko, hb⟩ := hrel
      have HQ5 := Lib.hid hq
      have HKO := Lib.hid hko
      have HB5 := Lib.hid hb
      have hsz5 : N ≤ wr.heap.size := by have := hb.size; rw [HN.out] at this; exact this
      clear hq hko hb
      by_cases hlt : j < nd
      ·obtain ⟨gk2, hgk⟩ : ∃ g, gk = g + 1 := ⟨gk - 1, by have := HQ5.out; omega⟩
       have HG2 := Lib.hid hgk
       obtain ⟨b, off, e, hbl, hc⟩ := (HS.out.1.below HB5.out (Nat.le_of_eq HN.out)).at (by show 0 < nd; omega)
       simp only at e
       subst e
       have c0 := hc (j * 2) (by show j * 2 < nd * 2; omega)
       have c1 := hc (j * 2 + 1) (by show j * 2 + 1 < nd * 2; omega)
       obtain ⟨g0, g1⟩ := dimCells_get (ds := s.dims) (i := j) (by rw [HLN.out.1]; exact hlt)
       rw [g0] at c0
       rw [g1, ← Nat.add_assoc] at c1
       obtain ⟨nm, hnm⟩ : ∃ x, (dimAt s.dims j).1 = x := ⟨_, rfl⟩
       obtain ⟨z, hz⟩ : ∃ x, (dimAt s.dims j).2 = x := ⟨_, rfl⟩
       rw [hnm] at c0
       rw [hz] at c1
       have HKX : Hid (keysOk s.dims nd 0 1 = if z < 1 ∨ 4096 < z ∨ 1099511627776 / z < k then false else keysOk s.dims gk2 (j + 1) (k * z)) := Lib.hid (by rw [← HKO.out, hgk, keysOk_succ, hz])
       have HZB : Hid (-9223372036854775808 ≤ z ∧ z ≤ 9223372036854775807) := Lib.hid (by
        have := HS.out.2.2.2.2.2.1 (dimAt s.dims j) (by unfold dimAt; rw [List.getD_eq_getElem?_getD, List.getElem?_eq_getElem (by rw [HLN.out.1]; exact hlt)]; exact List.getElem_mem _)
        rw [hz] at this; exact this.2)
       clear hgk hc g0 g1 hnm hz
       by_cases hz1 : z < 1
       ·have HC := Lib.hid (chk_key HQ.out HNT.out HTN.out (by rw [HLN.out.1, HKX.out, if_pos (.inl hz1)]))
        have t1 : decide (z < 1) = true := decide_eq_true hz1
        go_wp2_with fail
        go_ret
        exact RChk.mk HC.out HSS.out HBW.out HN1.out (HB5.out.alloc hsz5 _)
       have hz1' : 1 ≤ z := by omega
       have t1 : decide (z < 1) = false := decide_eq_false hz1
       by_cases hz2 : 4096 < z
       ·have HC := Lib.hid (chk_key HQ.out HNT.out HTN.out (by rw [HLN.out.1, HKX.out, if_pos (.inr (.inl hz2))]))
        have t2 : decide (4096 < z) = true := decide_eq_true hz2
        go_wp2_with fail
        go_ret
        exact RChk.mk HC.out HSS.out HBW.out HN1.out (HB5.out.alloc hsz5 _)
       have t2 : decide (4096 < z) = false := decide_eq_false hz2
       obtain ⟨Q, hQ⟩ : ∃ Q, 1099511627776 / z = Q := ⟨_, rfl⟩
       have HQD : Hid (Q * z ≤ 1099511627776) := Lib.hid (by rw [← hQ]; exact Int.ediv_mul_le _ (by omega))
       rw [hQ] at HKX
       by_cases hz3 : Q < k
       ·have HC := Lib.hid (chk_key HQ.out HNT.out HTN.out (by rw [HLN.out.1, HKX.out, if_pos (.inr (.inr hz3))]))
        have t3 : decide (Q < k) = true := decide_eq_true hz3
        go_wp2_with fail
        go_ret
        exact RChk.mk HC.out HSS.out HBW.out HN1.out (HB5.out.alloc hsz5 _)
       have t3 : decide (Q < k) = false := decide_eq_false hz3
       obtain ⟨k2, hk2e⟩ : ∃ k2, k * z = k2 := ⟨_, rfl⟩
       have hk21 : 1 ≤ k2 := by rw [← hk2e]; have := Int.mul_le_mul hk1 hz1' (by decide) (by omega); simpa using this
       have hk22 : k2 ≤ 1099511627776 := by
        rw [← hk2e]
        exact Int.le_trans (Int.mul_le_mul_of_nonneg_right (by omega) (by omega)) HQD.out
       have HKN : Hid (keysOk s.dims gk2 (j + 1) k2 = keysOk s.dims nd 0 1) := Lib.hid (by rw [HKX.out, if_neg (by omega), hk2e])
       have hkw : IntKind.i64.wrap k2 = k2 := IntWalk.i64_in _ (by omega)
       clear hz1 hz2 hz3
       go_wp2_with fail
       go_roundg gk2
       case measure => have := HG2.out; omega
       case rel => exact ⟨j + 1, k2, rfl, by go_num, by have := HQ5.out; have := HG2.out; omega, hk21, hk22, HKN.out, HB5.out.alloc hsz5 _⟩
      ·obtain rfl : j = nd := by have := HQ5.out; omega
       have HKT : Hid (keysOk s.dims s.dims.length 0 1 = true) := Lib.hid (by
        have h1 : gk = 0 := by have := HQ5.out; omega
        rw [HLN.out.1, ← HKO.out, h1]; rfl)
       have e0 : wr.cell? ⟨S, 0, none⟩ = some (.slice ad j cd) := by rw [HB5.out.cell (p := ⟨S, 0, none⟩) HN1.out]; exact HE0.out
       have e3 : wr.cell? ⟨S, 3, none⟩ = some (.slice av nv cv) := by rw [HB5.out.cell (p := ⟨S, 3, none⟩) HN1.out]; exact HE3.out
       clear HB4 HKO HQ5
       obtain ⟨f0, f1, f2⟩ := full_is b1
       obtain ⟨FU, hFU⟩ : ∃ FU, (2 : Int) ^ j - 1 = FU := ⟨_, rfl⟩
       rw [hFU] at f0 f1 f2
       have HF0 := Lib.hid f0
       have HFU := Lib.hid hFU
       clear f0 hFU
       go_upto_region 21 with fail
       rw [HF0.out]
       go_wp2_with fail
       clear e0 e3
       go_loopg [90] nv (fun q iu wx => ∃ (m : Nat), iu = .int .i64 m ∧ m + q = nv ∧ viewsOk FU s.views q m = viewsOk FU s.views nv 0 ∧ Below N w0 wx)
       case atStart => exact ⟨0, rfl, by omega, rfl, HB5.out⟩
       case round =>
        obtain ⟨m, rfl, hq, hvo, hb⟩ := hrel
        have HQ6 := Lib.hid hq
        have HVO := Lib.hid hvo
        have HB6 := Lib.hid hb
        clear hq hvo hb
        by_cases hlt : m < nv
        ·obtain ⟨gk2, hgk⟩ : ∃ g, gk = g + 1 := ⟨gk - 1, by have := HQ6.out; omega⟩
         have HG2 := Lib.hid hgk
         have hrv := HS.out.2.2.2.2.1.below HB6.out (Nat.le_of_eq HN.out)
         obtain ⟨b, off, e, hbl, hc⟩ := rowk_at hrv (by show 0 < nv; omega)
         simp only at e
         subst e
         have c0 := hc m hlt
         have HVX := Lib.hid (viewsOk_succ FU s.views gk2 m)
         have e3 : wr.cell? ⟨S, 3, none⟩ = some (.slice (some ⟨b, off, none⟩) nv cv) := by rw [HB6.out.cell (p := ⟨S, 3, none⟩) HN1.out]; exact HE3.out
         have hxb := HS.out.2.2.2.2.2.2.2.2 (s.views.getD m 0) (geti_mem (by rw [HLN.out.2.2.2]; exact hlt))
         obtain ⟨x, hx⟩ : ∃ x, s.views.getD m 0 = x := ⟨_, rfl⟩
         rw [hx] at c0 HVX hxb
         obtain ⟨x0, x1⟩ := hxb
         have HCV : Hid (viewsOk FU s.views gk m = false → chkS s = 6) := Lib.hid (fun h => chk_view HQ.out HNT.out HTN.out HKT.out (by rw [HLN.out.1, HLN.out.2.2.2, HFU.out, ← HVO.out]; exact h))
         rw [hgk] at HCV
         have HCL := Lib.hid hc
         clear hgk hc hx hrv
         by_cases hfx : FU ≤ x
         ·have HC := Lib.hid (HCV.out (by rw [HVX.out, if_pos (.inl hfx)]))
          have t1 : decide (FU ≤ x) = true := decide_eq_true hfx
          go_wp2_with fail
          go_ret
          exact RChk.mk HC.out HSS.out HBW.out HN1.out HB6.out
         have t1 : decide (FU ≤ x) = false := decide_eq_false hfx
         have hfx' : x < FU := by omega
         clear hfx
         by_cases hm0 : 0 < m
         ·obtain ⟨p, hp⟩ : ∃ p, m - 1 = p := ⟨_, rfl⟩
          have c1 := HCL.out p (show p < nv by omega)
          rw [hp] at HVX
          obtain ⟨y, hy⟩ : ∃ y, s.views.getD p 0 = y := ⟨_, rfl⟩
          rw [hy] at c1 HVX
          have hpi : (m : Int) - 1 = (p : Int) := by omega
          have w2' : IntKind.i64.wrap (p : Int) = (p : Int) := IntWalk.i64_in _ (by omega)
          have hpn : (p : Int) < (nv : Int) := by omega
          clear hp hy
          by_cases hxy : x ≤ y
          ·have HC := Lib.hid (HCV.out (by rw [HVX.out, if_pos (.inr ⟨hm0, hxy⟩)]))
           have t2 : decide (x ≤ y) = true := decide_eq_true hxy
           go_wp2_with fail
           go_ret
           exact RChk.mk HC.out HSS.out HBW.out HN1.out HB6.out
          ·have HVN : Hid (viewsOk FU s.views (gk2 + 1) m = viewsOk FU s.views gk2 (m + 1)) := Lib.hid (by rw [HVX.out, if_neg (by omega)])
           have t2 : decide (x ≤ y) = false := decide_eq_false hxy
           clear hxy
           go_wp2_with fail
           go_roundg gk2
           case measure => have := HG2.out; omega
           case rel => exact ⟨m + 1, by go_num, by have := HQ6.out; have := HG2.out; omega, by rw [← HVN.out, ← HG2.out]; exact HVO.out, HB6.out⟩
         ·have HVN : Hid (viewsOk FU s.views (gk2 + 1) m = viewsOk FU s.views gk2 (m + 1)) := Lib.hid (by rw [HVX.out, if_neg (by omega)])
          have t2 : decide (0 < m) = false := decide_eq_false hm0
          go_wp2_with fail
          go_roundg gk2
          case measure => have := HG2.out; omega
          case rel => exact ⟨m + 1, by go_num, by have := HQ6.out; have := HG2.out; omega, by rw [← HVN.out, ← HG2.out]; exact HVO.out, HB6.out⟩
        ·obtain rfl : m = nv := by have := HQ6.out; omega
         have HC := Lib.hid (chk_ok HQ.out HNT.out HTN.out HKT.out (by
          have h1 : gk = 0 := by have := HQ6.out; omega
          rw [HLN.out.1, HLN.out.2.2.2, HFU.out, ← HVO.out, h1]; rfl))
         go_wp2_with fail
         go_ret
         exact RChk.mk HC.out HSS.out HBW.out HN1.out HB6.out
end Go.Proofs.YtehmompbmnejkaaGreat
