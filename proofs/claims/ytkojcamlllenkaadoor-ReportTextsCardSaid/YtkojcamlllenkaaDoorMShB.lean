/- What a right query of a right schema has (plain): its names are told apart, its columns, filters and orders are in range. No conditions but those stated. -/
import Derived.Test.YtkojcamlllenkaaDoorMShA
import Derived.Test.YtkojcamlllenkaaDoorMPaD
import Derived.Test.YtkojcamlllenkaaDoorMLxA
import Derived.Test.YtkojcamlllenkaaDoorMSch
import Derived.Lib.Join
import Derived.Lib.ItoaNum
namespace Go.Proofs.YtkojcamlllenkaaDoor
open Go.RowKit

theorem place_nth : ∀ (xs : List ByteArray) (d : Nat), d < xs.length → (∀ j, j < d → xs.getD j ByteArray.empty ≠ xs.getD d ByteArray.empty) → place xs (xs.getD d ByteArray.empty) = d
 | [], _, h, _ => by simp at h
 | x :: xs, 0, _, _ => by unfold place; rw [List.getD_cons_zero, if_pos rfl]; rfl
 | x :: xs, d + 1, h, hn => by
  have h0 : x ≠ xs.getD d ByteArray.empty := by have := hn 0 (Nat.succ_pos _); rwa [List.getD_cons_zero, List.getD_cons_succ] at this
  have ih := place_nth xs d (by simpa using h) (fun j hj => by have := hn (j + 1) (by omega); rwa [List.getD_cons_succ, List.getD_cons_succ] at this)
  rw [List.getD_cons_succ]
  unfold place
  rw [if_neg h0, ih, if_neg (by omega)]
  omega
theorem names_apart {s : Sch} (hs : chkS s = 0) {i j : Nat} (hj : j < s.names.length) (hi : i < j) : s.names.getD i ByteArray.empty ≠ s.names.getD j ByteArray.empty := by
 have htw : twR s.names < 0 := by
  unfold chkS at hs
  split at hs
  ·omega
  split at hs
  ·omega
  split at hs
  ·omega
  ·omega
 intro he
 rcases twR_is s.names with ⟨_, hd⟩ | ⟨k, hk, _⟩
 ·refine hd j hj ?_
  rw [← he, List.getD_eq_getElem?_getD, List.getElem?_eq_getElem (by omega)]
  exact List.mem_take_iff_getElem.2 ⟨i, by omega, rfl⟩
 ·rw [hk] at htw; omega
theorem names_dims (s : Sch) {d : Nat} (h : d < (dimN s).length) : s.names.getD d ByteArray.empty = (dimN s).getD d ByteArray.empty := by
 have e1 : s.names = dimN s ++ (s.ints ++ s.nums) := by unfold Sch.names dimN; rw [List.append_assoc]
 rw [e1, List.getD_eq_getElem?_getD, List.getElem?_append_left h, ← List.getD_eq_getElem?_getD]
theorem names_meas (s : Sch) (d : Nat) : s.names.getD ((dimN s).length + d) ByteArray.empty = (measN s).getD d ByteArray.empty := by
 have e1 : s.names = dimN s ++ (s.ints ++ s.nums) := by unfold Sch.names dimN; rw [List.append_assoc]
 rw [e1, List.getD_eq_getElem?_getD, List.getElem?_append_right (by omega), show (dimN s).length + d - (dimN s).length = d by omega, ← List.getD_eq_getElem?_getD]
 rfl
theorem names_len (s : Sch) : s.names.length = (dimN s).length + (measN s).length := by
 have e1 : s.names = dimN s ++ (s.ints ++ s.nums) := by unfold Sch.names dimN; rw [List.append_assoc]
 rw [e1, List.length_append]; rfl
theorem dims_place {s : Sch} (hs : chkS s = 0) {d : Nat} (h : d < (dimN s).length) : place (dimN s) ((dimN s).getD d ByteArray.empty) = d :=
 place_nth _ d h fun j hj => by
  have h2 := names_apart hs (j := d) (by rw [names_len]; omega) hj
  rwa [names_dims s h, names_dims s (by omega)] at h2
theorem meas_place {s : Sch} (hs : chkS s = 0) {d : Nat} (h : d < (measN s).length) : place (measN s) ((measN s).getD d ByteArray.empty) = d :=
 place_nth _ d h fun j hj => by
  have h2 := names_apart hs (i := (dimN s).length + j) (j := (dimN s).length + d) (by rw [names_len]; omega) (by omega)
  rwa [names_meas, names_meas] at h2
theorem colsOk_all {ni nn : Nat} {cs : List (Int × Int)} : ∀ (g i : Nat), colsOk ni nn cs g i = true → ∀ j, i ≤ j → j < i + g → colB ni nn (colAt cs j).1 (colAt cs j).2 = true
 | 0, i, _, j, h1, h2 => by omega
 | g + 1, i, h, j, h1, h2 => by
  rw [colsOk_succ] at h
  split at h
  ·cases h
  ·rename_i hc
   by_cases hj : j = i
   ·subst hj; simpa using hc
   ·exact colsOk_all g (i + 1) h j (by omega) (by omega)
theorem ordOk_all {nc : Nat} {os : List (Int × Bool)} : ∀ (g i : Nat), ordOk nc os g i = true → ∀ j, i ≤ j → j < i + g → 0 ≤ (ordAt os j).1 ∧ (ordAt os j).1 < nc
 | 0, i, _, j, h1, h2 => by omega
 | g + 1, i, h, j, h1, h2 => by
  rw [ordOk_succ] at h
  split at h
  ·cases h
  ·rename_i hc
   by_cases hj : j = i
   ·subst hj; omega
   ·exact ordOk_all g (i + 1) h j (by omega) (by omega)
theorem codesOk_all {z : Int} {cs : List Int} : ∀ (g i : Nat), codesOk z cs g i = true → ∀ j, i ≤ j → j < i + g → 0 ≤ cs.getD j 0 ∧ cs.getD j 0 < z
 | 0, i, _, j, h1, h2 => by omega
 | g + 1, i, h, j, h1, h2 => by
  rw [codesOk_succ] at h
  split at h
  ·cases h
  ·rename_i hc
   by_cases hj : j = i
   ·subst hj; omega
   ·exact codesOk_all g (i + 1) h j (by omega) (by omega)
theorem fltsN_all {ds : List (ByteArray × Int)} {fs : List Flt} : ∀ (g i : Nat), fltsN ds fs g i = 0 → ∀ j, i ≤ j → j < i + g → 0 ≤ (fltAt fs j).dim ∧ (fltAt fs j).dim < ds.length ∧ ∀ k, k < (fltAt fs j).codes.length → 0 ≤ (fltAt fs j).codes.getD k 0 ∧ (fltAt fs j).codes.getD k 0 < (dimAt ds (fltAt fs j).dim.toNat).2
 | 0, i, _, j, h1, h2 => by omega
 | g + 1, i, h, j, h1, h2 => by
  rw [fltsN_succ] at h
  split at h
  ·omega
  split at h
  ·omega
  split at h
  ·omega
  ·rename_i hd _ hc
   by_cases hj : j = i
   ·subst hj
    exact ⟨by omega, by omega, fun k hk => codesOk_all _ 0 (by simpa using hc) k (Nat.zero_le _) (by omega)⟩
   ·exact fltsN_all g (i + 1) h j (by omega) (by omega)
end Go.Proofs.YtkojcamlllenkaaDoor
/- The text of a right query of a right schema is read as the query (plain). No conditions but those stated. -/
namespace Go.Proofs.YtkojcamlllenkaaDoor
open Go.RowKit

theorem good_name {s : ByteArray} (h : nameB s = true) : Good (tN s) := by
  have hp : NameP s := by
    by_cases hp : NameP s
    · exact hp
    · rw [nameB_no hp] at h; cases h
  obtain ⟨h1, h2, h3, h4, h5⟩ := hp
  refine .inr ⟨h1, ?_, ?_⟩
  · show s.data.toList.all runB = true
    rw [all_iff]
    intro i hi
    have := h4 i hi
    unfold runB
    exact decide_eq_true this
  · refine runR_name h5 ?_ h2
    obtain ⟨c, u, hcu⟩ : ∃ c u, s.data.toList = c :: u := by
      cases hh : s.data.toList with
      | nil => have : s.data.toList.length = s.size := by simp
               rw [hh] at this; simp at this; omega
      | cons c u => exact ⟨c, u, rfl⟩
    obtain ⟨hlt, e⟩ := get_drop (a := 0) (by rw [List.drop_zero]; exact hcu)
    show smallB (s.data.toList.headD 0) = true
    rw [hcu, List.headD_cons]
    unfold smallB
    rw [← e]
    exact decide_eq_true (h3 hlt)
theorem good_num {T : Int → ByteArray} {n : Int} (h : runR (T n) = (0, 3, n) ∧ 0 < (T n).size ∧ (T n).data.toList.all runB = true) : Good (tD T n) := .inr ⟨h.2.1, h.2.2, h.1⟩
theorem namesN_all {xs : List ByteArray} : ∀ (g i : Nat), namesN xs g i = true → ∀ j, i ≤ j → j < i + g → nameB (xs.getD j ByteArray.empty) = true
 | 0, i, _, j, h1, h2 => by omega
 | g + 1, i, h, j, h1, h2 => by
  unfold namesN at h
  split at h
  ·cases h
  ·rename_i hc
   by_cases hj : j = i
   ·subst hj; simpa using hc
   ·exact namesN_all g (i + 1) h j (by omega) (by omega)
theorem names_good {s : Sch} (hs : chkS s = 0) {j : Nat} (h : j < s.names.length) : nameB (s.names.getD j ByteArray.empty) = true := by
 have hn : namesN s.names s.names.length 0 = true := by
  unfold chkS at hs
  split at hs
  ·omega
  split at hs
  ·omega
  ·rename_i h; simpa using h
 exact namesN_all _ 0 hn j (Nat.zero_le _) (by omega)
/-- what a right query has -/
theorem qchk_ok {s : Sch} {q : QP} (h : qchk s q.qry = 0) : chkS s = 0 ∧ q.group < 2 ^ s.dims.length ∧ fltsN s.dims q.qry.flts q.qry.flts.length 0 = 0 ∧ (q.cols.length ≠ 0 ∧ q.cols.length ≤ 16 ∧ q.ord.length ≤ 8) ∧ colsOk s.ints.length s.nums.length q.cols q.cols.length 0 = true ∧ ordOk q.cols.length q.ord q.ord.length 0 = true ∧ 0 ≤ q.limit := by
 unfold qchk at h
 split at h
 ·omega
 rename_i h1
 split at h
 ·omega
 rename_i h2
 split at h
 ·rename_i h3; exact absurd h h3
 rename_i h3
 split at h
 ·omega
 rename_i h4
 split at h
 ·omega
 rename_i h5
 split at h
 ·omega
 rename_i h6
 split at h
 ·omega
 rename_i h7
 have h1' : chkS s = 0 := by omega
 have h3' : fchk s q.qry.flts = 0 := by omega
 unfold fchk at h3'
 rw [if_neg (by omega)] at h3'
 split at h3'
 ·omega
 ·have h5' : colsOk s.ints.length s.nums.length q.qry.cols q.qry.cols.length 0 = true := by simpa using h5
  have h6' : ordOk q.qry.cols.length q.qry.ord q.qry.ord.length 0 = true := by simpa using h6
  exact ⟨h1', Int.not_le.1 h2, h3', ⟨fun e => h4 (.inl e), by have := fun e => h4 (.inr (.inl e)); exact Nat.not_lt.1 this, by have := fun e => h4 (.inr (.inr e)); exact Nat.not_lt.1 this⟩, h5', h6', Int.not_lt.1 h7⟩
theorem show_ok {s : Sch} {q : QP} (h : qchk s q.qry = 0) (hg : 0 ≤ q.group) : ShowOk (dimN s) (measN s) q := by
 obtain ⟨h1, h2, h3, ⟨h4, -, -⟩, h5, -, h7⟩ := qchk_ok h
 have hdl : (dimN s).length = s.dims.length := List.length_map _
 have hml : (measN s).length = s.ints.length + s.nums.length := List.length_append
 refine ⟨fun e => h4 (by rw [e]; rfl), fun c hc => ?_, ⟨hg, by rw [hdl]; exact h2⟩, fun d hd => dims_place h1 hd, fun f hf => ?_, h7⟩
 ·obtain ⟨j, hj, e⟩ := List.getElem_of_mem hc
  have hb := colsOk_all _ 0 h5 j (Nat.zero_le _) (by omega)
  have hcj : colAt q.cols j = c := by unfold colAt; rw [List.getD_eq_getElem?_getD, List.getElem?_eq_getElem hj, e]; rfl
  rw [hcj] at hb
  obtain ⟨k, m⟩ := c
  dsimp only at hb ⊢
  have hpl : ∀ m : Int, 0 ≤ m → m < ((s.ints.length + s.nums.length : Nat) : Int) → place (measN s) ((measN s).getD m.toNat ByteArray.empty) = m := fun m h0 h1' => by
   rw [meas_place h1 (by omega)]; omega
  unfold colB at hb
  split at hb
  ·rename_i hk
   have hm : m = 0 := by simpa using hb
   exact ⟨by omega, fun _ => hm, fun h => absurd hk h, by omega⟩
  split at hb
  ·rename_i hk _
   have hm : 0 ≤ m ∧ m < ((s.ints.length + s.nums.length : Nat) : Int) := by simpa using hb
   exact ⟨by omega, fun h => by omega, fun _ => hpl m hm.1 hm.2, hm.1⟩
  split at hb
  ·rename_i hk
   have hm : 0 ≤ m ∧ m < ((s.ints.length : Nat) : Int) := by simpa using hb
   exact ⟨by omega, fun h => by omega, fun _ => hpl m hm.1 (by omega), hm.1⟩
  ·cases hb
 ·obtain ⟨j, hj, e⟩ := List.getElem_of_mem hf
  have hjl : j < q.qry.flts.length := by show j < (q.flts.map _).length; rw [List.length_map]; exact hj
  have hb := fltsN_all _ 0 h3 j (Nat.zero_le _) (by omega)
  have hfj : fltAt q.qry.flts j = ⟨f.1, f.2, none, 0, 0⟩ := by
   unfold fltAt
   show (q.flts.map (fun f => (⟨f.1, f.2, none, 0, 0⟩ : Flt))).getD j _ = _
   rw [List.getD_eq_getElem?_getD, List.getElem?_map, List.getElem?_eq_getElem hj, e]
   rfl
  rw [hfj] at hb
  refine ⟨hb.1, ?_⟩
  rw [dims_place h1 (by rw [hdl]; have := hb.2.1; have := hb.1; dsimp only at *; omega)]
  have := hb.1
  dsimp only at this
  omega
theorem good_sep {b : Tok} (hb : Good b) : ∀ (l : List (List Tok)), (∀ x ∈ l, ∀ y ∈ x, Good y) → ∀ y ∈ sepL b l, Good y
 | [], _, y, hy => by cases hy
 | [x], h, y, hy => h x List.mem_cons_self y hy
 | x :: z :: r, h, y, hy => by
  have hy' : y ∈ x ++ b :: sepL b (z :: r) := hy
  rcases List.mem_append.1 hy' with h1 | h1
  ·exact h x List.mem_cons_self y h1
  ·rcases List.mem_cons.1 h1 with rfl | h2
   ·exact hb
   ·exact good_sep hb (z :: r) (fun u hu => h u (List.mem_cons_of_mem _ hu)) y h2
theorem good_word {w : List UInt8} (h1 : 0 < w.length) (h2 : w.all runB = true) (h3 : wordB ⟨⟨w⟩⟩ = true) : Good (tW w) := .inr ⟨h1, h2, runR_word h3⟩
theorem good_g {c : UInt8} (h : isSign c) : Good (tG c) := .inl ⟨rfl, rfl, c, h, rfl⟩
theorem good_part {w : List UInt8} {b : Tok} (hw : Good (tW w)) (hb : Good b) {l : List (List Tok)} (h : ∀ x ∈ l, ∀ y ∈ x, Good y) : ∀ y ∈ shPart w b l, Good y := by
 intro y hy
 unfold shPart at hy
 split at hy
 ·cases hy
 ·rcases List.mem_cons.1 hy with rfl | hy
  ·exact hw
  ·exact good_sep hb l h y hy
/-- T tells numbers -/
def Tells (T : Int → ByteArray) : Prop := ∀ n, 0 ≤ n → n ≤ 999999999 → runR (T n) = (0, 3, n) ∧ 0 < (T n).size ∧ (T n).data.toList.all runB = true
theorem good_dim {s : Sch} (hs : chkS s = 0) {d : Nat} (h : d < (dimN s).length) : Good (tN ((dimN s).getD d ByteArray.empty)) := by
 rw [← names_dims s h]
 exact good_name (names_good hs (by rw [names_len]; omega))
theorem good_meas {s : Sch} (hs : chkS s = 0) {d : Nat} (h : d < (measN s).length) : Good (tN ((measN s).getD d ByteArray.empty)) := by
 rw [← names_meas s d]
 exact good_name (names_good hs (by rw [names_len]; omega))
theorem good_aggs : ∀ j, j < 7 → Good (tW (aggW.getD j [])) := by
 intro j hj
 have : j = 0 ∨ j = 1 ∨ j = 2 ∨ j = 3 ∨ j = 4 ∨ j = 5 ∨ j = 6 := by omega
 rcases this with rfl | rfl | rfl | rfl | rfl | rfl | rfl <;> exact good_word (by decide) (by decide) (by decide)
theorem codes_ok {s : Sch} {q : QP} (h : qchk s q.qry = 0) : ∀ f ∈ q.flts, (0 ≤ f.1 ∧ f.1.toNat < (dimN s).length) ∧ ∀ n ∈ f.2, 0 ≤ n ∧ n ≤ 999999999 := by
 obtain ⟨h1, -, h3, -, -, -, -⟩ := qchk_ok h
 have hdl : (dimN s).length = s.dims.length := List.length_map _
 intro f hf
 obtain ⟨j, hj, e⟩ := List.getElem_of_mem hf
 have hjl : j < q.qry.flts.length := by show j < (q.flts.map _).length; rw [List.length_map]; exact hj
 have hb := fltsN_all _ 0 h3 j (Nat.zero_le _) (by omega)
 have hfj : fltAt q.qry.flts j = ⟨f.1, f.2, none, 0, 0⟩ := by
  unfold fltAt
  show (q.flts.map (fun f => (⟨f.1, f.2, none, 0, 0⟩ : Flt))).getD j _ = _
  rw [List.getD_eq_getElem?_getD, List.getElem?_map, List.getElem?_eq_getElem hj, e]
  rfl
 rw [hfj] at hb
 obtain ⟨b0, b1, b2⟩ := hb
 dsimp only at b0 b1 b2
 refine ⟨⟨b0, by rw [hdl]; omega⟩, fun n hn => ?_⟩
 obtain ⟨k, hk, e2⟩ := List.getElem_of_mem hn
 have h5 := b2 k hk
 rw [List.getD_eq_getElem?_getD, List.getElem?_eq_getElem hk, e2] at h5
 have hz : (dimAt s.dims f.1.toNat).2 ≤ 4096 := by
  have hkk : keysOk s.dims s.dims.length 0 1 = true := by
   unfold chkS at h1
   split at h1
   ·omega
   split at h1
   ·omega
   split at h1
   ·omega
   split at h1
   ·omega
   ·rename_i h; simpa using h
  have : ∀ (g i : Nat) (k : Int), keysOk s.dims g i k = true → ∀ j, i ≤ j → j < i + g → (dimAt s.dims j).2 ≤ 4096 := by
   intro g
   induction g with
   | zero => intro i k _ j h1 h2; omega
   | succ g ih =>
    intro i k h j h1 h2
    rw [keysOk_succ] at h
    split at h
    ·cases h
    ·by_cases hj : j = i
     ·subst hj; omega
     ·exact ih (i + 1) _ h j (by omega) (by omega)
  exact this _ 0 1 hkk _ (Nat.zero_le _) (by omega)
 have h6 : 0 ≤ n ∧ n < (dimAt s.dims f.1.toNat).2 := h5
 omega
theorem show_good {T : Int → ByteArray} {s : Sch} {q : QP} (hT : Tells T) (h : qchk s q.qry = 0) (hg : 0 ≤ q.group) (hl : q.limit ≤ 999999999) : ∀ x, some x ∈ showI T (dimN s) (measN s) q → Good x := by
 obtain ⟨h1, -, -, ⟨-, h16, -⟩, -, h6, h7⟩ := qchk_ok h
 have hok := show_ok h hg
 have hml : (measN s).length = s.ints.length + s.nums.length := List.length_append
 have hcm : Good (tG 44) := good_g (.inr (.inr (.inl rfl)))
 intro x hx
 have hx1 : x ∈ tk (showI T (dimN s) (measN s) q) := List.mem_filterMap.2 ⟨some x, hx, rfl⟩
 have hb : tk (showI T (dimN s) (measN s) q) = tW [115, 101, 108, 101, 99, 116] :: (sepL (tG 44) (q.cols.map (shCol (measN s))) ++ (shPart [98, 121] (tG 44) ((gList q.group.toNat (dimN s).length).map (shG (dimN s))) ++ (shPart [119, 104, 101, 114, 101] (tW [97, 110, 100]) (q.flts.map (shCond T (dimN s))) ++ (shPart [111, 114, 100, 101, 114] (tG 44) (q.ord.map (shOrd T)) ++ shLim T q.limit)))) := by
  refine List.append_cancel_right (bs := [tE]) ?_
  rw [← tk_show]
  unfold showT sh1 sh2 sh3 sh4
  simp only [List.append_assoc, List.cons_append]
 rw [hb] at hx1
 rcases List.mem_cons.1 hx1 with rfl | hx1
 ·exact good_word (by decide) (by decide) (by decide)
 rcases List.mem_append.1 hx1 with hx1 | hx1
 ·refine good_sep hcm _ (fun l hl y hy => ?_) x hx1
  obtain ⟨c, hc, rfl⟩ := List.mem_map.1 hl
  obtain ⟨⟨k0, k6⟩, -, hp, m0⟩ := hok.col c hc
  unfold shCol at hy
  split at hy
  ·rw [List.mem_singleton.1 hy]; exact good_word (by decide) (by decide) (by decide)
  ·rename_i hk
   have hm : c.2.toNat < (measN s).length := by
    have h2 := hp hk
    have h3 : 0 ≤ place (measN s) ((measN s).getD c.2.toNat ByteArray.empty) := by omega
    have h4 := place_lt (place_mem.1 h3)
    omega
   simp only [List.mem_cons, List.not_mem_nil, or_false] at hy
   rcases hy with rfl | rfl | rfl | rfl
   ·exact good_aggs _ (by omega)
   ·exact good_g (.inl rfl)
   ·exact good_meas h1 hm
   ·exact good_g (.inr (.inl rfl))
 rcases List.mem_append.1 hx1 with hx1 | hx1
 ·refine good_part (good_word (by decide) (by decide) (by decide)) hcm (fun l hl y hy => ?_) x hx1
  obtain ⟨d, hd, rfl⟩ := List.mem_map.1 hl
  rw [List.mem_singleton.1 hy]
  exact good_dim h1 (gList_lt hd)
 rcases List.mem_append.1 hx1 with hx1 | hx1
 ·refine good_part (good_word (by decide) (by decide) (by decide)) (good_word (by decide) (by decide) (by decide)) (fun l hl y hy => ?_) x hx1
  obtain ⟨f, hf, rfl⟩ := List.mem_map.1 hl
  obtain ⟨⟨-, hd⟩, hcs⟩ := codes_ok h f hf
  unfold shCond at hy
  rcases List.mem_cons.1 hy with rfl | hy
  ·exact good_dim h1 hd
  split at hy
  ·rename_i n hn
   simp only [List.mem_cons, List.not_mem_nil, or_false] at hy
   rcases hy with rfl | rfl
   ·exact good_g (.inr (.inr (.inr rfl)))
   ·obtain ⟨n0, n1⟩ := hcs n (by rw [hn]; exact List.mem_cons_self)
    exact good_num (hT n n0 n1)
  ·rcases List.mem_cons.1 hy with rfl | hy
   ·exact good_word (by decide) (by decide) (by decide)
   rcases List.mem_cons.1 hy with rfl | hy
   ·exact good_g (.inl rfl)
   rcases List.mem_append.1 hy with hy | hy
   ·refine good_sep hcm _ (fun l hl z hz => ?_) y hy
    obtain ⟨n, hn, rfl⟩ := List.mem_map.1 hl
    rw [List.mem_singleton.1 hz]
    obtain ⟨n0, n1⟩ := hcs n hn
    exact good_num (hT n n0 n1)
   ·rw [List.mem_singleton.1 hy]; exact good_g (.inr (.inl rfl))
 rcases List.mem_append.1 hx1 with hx1 | hx1
 ·refine good_part (good_word (by decide) (by decide) (by decide)) hcm (fun l hl y hy => ?_) x hx1
  obtain ⟨o, ho, rfl⟩ := List.mem_map.1 hl
  obtain ⟨j, hj, e⟩ := List.getElem_of_mem ho
  have hb := ordOk_all _ 0 h6 j (Nat.zero_le _) (by omega)
  have hoj : ordAt q.ord j = o := by unfold ordAt; rw [List.getD_eq_getElem?_getD, List.getElem?_eq_getElem hj, e]; rfl
  rw [hoj] at hb
  unfold shOrd at hy
  rcases List.mem_cons.1 hy with rfl | hy
  ·exact good_num (hT _ (by omega) (by omega))
  ·split at hy
   ·rw [List.mem_singleton.1 hy]; exact good_word (by decide) (by decide) (by decide)
   ·cases hy
 ·unfold shLim at hx1
  split at hx1
  ·simp only [List.mem_cons, List.not_mem_nil, or_false] at hx1
   rcases hx1 with rfl | rfl
   ·exact good_word (by decide) (by decide) (by decide)
   ·exact good_num (hT _ h7 hl)
  ·cases hx1
end Go.Proofs.YtkojcamlllenkaaDoor
/- The text of a list is the join of its texts (plain). No conditions. -/
namespace Go.Proofs.YtkojcamlllenkaaDoor
open Go.RowKit

theorem put_sep (p : List (Option Tok)) : ∀ (l : List (List (Option Tok))), putT (sepI p l) = Lib.join (l.map putT) (putT p ++ [32])
 | [] => rfl
 | [x] => (Lib.join_one _ _).symm
 | x :: y :: r => by
  have h := put_sep p (y :: r)
  show putT (x ++ (p ++ none :: sepI p (y :: r))) = Lib.join (putT x :: (y :: r).map putT) (putT p ++ [32])
  rw [putT_append, putT_append, putT, h]
  unfold Lib.join
  simp [List.intercalate]
end Go.Proofs.YtkojcamlllenkaaDoor
/- Numbers are told as they are read (plain). No conditions. -/
namespace Go.Proofs.YtkojcamlllenkaaDoor
open Go.RowKit

theorem dig_nat {k : Nat} (h : k < 10) : (UInt8.ofNat (48 + k)).toNat = 48 + k := by
 rw [UInt8.toNat_ofNat']; omega
theorem decS_snoc (l : List UInt8) (c : UInt8) : numS (l ++ [c]) = 10 * numS l + ((c.toNat : Int) - 48) := by
 unfold numS; rw [List.foldl_append]; rfl
theorem dec_num : ∀ (u : Nat), numS (Lib.decDigits u) = (u : Int) ∧ (∀ c ∈ Lib.decDigits u, digB c = true) ∧ (∃ c l, Lib.decDigits u = c :: l ∧ (10 ≤ u → c.toNat ≠ 48) ∧ (0 < u → c.toNat ≠ 48)) := by
 intro u
 induction u using Nat.strongRecOn with
 | _ u ih =>
  by_cases h : u < 10
  ·rw [Lib.decDigits_one h]
   have hd := dig_nat h
   refine ⟨?_, fun c hc => ?_, _, [], rfl, fun h' => by omega, fun h' => by omega⟩
   ·show 10 * (0 : Int) + (((UInt8.ofNat (48 + u)).toNat : Int) - 48) = _
    rw [hd]; omega
   ·rw [List.mem_singleton.1 hc]
    unfold digB
    rw [hd]
    exact decide_eq_true ⟨by omega, by omega⟩
  ·obtain ⟨h1, h2, c, l, h3, h4, h5⟩ := ih (u / 10) (by omega)
   have hd := dig_nat (k := u % 10) (by omega)
   have he : Lib.decDigits u = Lib.decDigits (u / 10) ++ [UInt8.ofNat (48 + u % 10)] := by rw [Lib.decDigits, dif_neg h]
   rw [he]
   refine ⟨?_, fun c hc => ?_, c, l ++ [UInt8.ofNat (48 + u % 10)], by rw [h3]; rfl, fun _ => h5 (by omega), fun _ => h5 (by omega)⟩
   ·rw [decS_snoc, h1, hd]; omega
   ·rcases List.mem_append.1 hc with hc | hc
    ·exact h2 c hc
    ·rw [List.mem_singleton.1 hc]
     unfold digB
     rw [hd]
     exact decide_eq_true ⟨by omega, by omega⟩
theorem nDig_le : ∀ (k u : Nat), u < 10 ^ (k + 1) → Lib.nDigits u ≤ k + 1
 | 0, u, h => by rw [Lib.nDigits_small (by simpa using h)]; exact Nat.le_refl _
 | k + 1, u, h => by
  by_cases h1 : u < 10
  ·rw [Lib.nDigits_small h1]; omega
  ·rw [Lib.nDigits_big h1]
   have := nDig_le k (u / 10) (by rw [Nat.pow_succ] at h; omega)
   omega
/-- a number's text -/
def itoT (n : Int) : ByteArray := ⟨(Lib.itoa n).toArray⟩
theorem tells_itoa : Tells itoT := by
 intro n h0 h1
 obtain ⟨u, rfl⟩ : ∃ u : Nat, n = (u : Int) := ⟨n.toNat, by omega⟩
 have he : (itoT (u : Int)).data.toList = Lib.decDigits u := by
  unfold itoT Lib.itoa
  rw [if_neg (by omega)]
  rfl
 obtain ⟨d1, d2, c, l, d3, d4, -⟩ := dec_num u
 have hsz : (itoT (u : Int)).size = Lib.nDigits u := by
  have h2 : (itoT (u : Int)).data.toList.length = (itoT (u : Int)).size := by simp
  rw [← h2, he, Lib.decDigits_length]
 have hn9 := nDig_le 8 u (by omega)
 have hall : (itoT (u : Int)).data.toList.all digB = true := by rw [he]; exact List.all_eq_true.2 d2
 refine ⟨?_, by rw [hsz]; exact Lib.nDigits_pos u, ?_⟩
 ·have hh : (itoT (u : Int)).data.toList.headD 0 = c := by rw [he, d3]; rfl
  rw [runR_dig (by rw [hh]; exact d2 c (by rw [d3]; exact List.mem_cons_self))]
  unfold numR
  rw [if_pos ⟨hall, fun hb => d4 (by
   rcases Nat.lt_or_ge u 10 with h | h
   ·rw [hsz, Lib.nDigits_small h] at hb; omega
   ·exact h) (by have := hb.2; rw [hh] at this; rw [this]; rfl)⟩, if_neg (by omega), he, d1]
 ·rw [he]
  refine List.all_eq_true.2 fun x hx => ?_
  have := d2 x hx
  unfold digB at this
  rw [decide_eq_true_eq] at this
  unfold runB
  exact decide_eq_true (.inr (.inl this))
end Go.Proofs.YtkojcamlllenkaaDoor
/- A query's text as bytes, and how long it is (plain). No conditions but those stated. -/
namespace Go.Proofs.YtkojcamlllenkaaDoor
open Go.RowKit

def btS (l : List UInt8) : ByteArray := ⟨l.toArray⟩
theorem btS_app (a b : List UInt8) : btS a ++ btS b = btS (a ++ b) := by
 apply ByteArray.ext
 rw [ByteArray.data_append]
 show a.toArray ++ b.toArray = (a ++ b).toArray
 simp
theorem btS_list (l : List UInt8) : (btS l).data.toList = l := rfl
theorem btS_of (b : ByteArray) : btS b.data.toList = b := by unfold btS; rfl
theorem btS_size (l : List UInt8) : (btS l).size = l.length := by
 show l.toArray.size = _
 simp
/-- a query, as what is said of it -/
def Qry.qp (q : Qry) : QP := ⟨q.group, q.flts.map (fun f => (f.dim, f.codes)), q.cols, q.ord, q.limit⟩
def colL (meas : List ByteArray) (c : Int × Int) : List UInt8 := putT (colI meas c)
def condL (dims : List ByteArray) (f : Int × List Int) : List UInt8 := putT (condI itoT dims f)
def ordL (o : Int × Bool) : List UInt8 := putT (ordI itoT o)
def gL (dims : List ByteArray) (d : Nat) : List UInt8 := (dims.getD d ByteArray.empty).data.toList
def partB (w sep : List UInt8) (l : List (List UInt8)) : List UInt8 := if l = [] then [] else w ++ Lib.join l sep
def limB (n : Int) : List UInt8 := if 0 < n then [32, 108, 105, 109, 105, 116, 32] ++ Lib.itoa n else []
def cmB : List UInt8 := [44, 32]
def andB : List UInt8 := [32, 97, 110, 100, 32]
def selB : List UInt8 := [115, 101, 108, 101, 99, 116, 32]
def byB : List UInt8 := [32, 98, 121, 32]
def whB : List UInt8 := [32, 119, 104, 101, 114, 101, 32]
def orB : List UInt8 := [32, 111, 114, 100, 101, 114, 32]
def showB (dims meas : List ByteArray) (q : QP) : List UInt8 :=
 selB ++ (Lib.join (q.cols.map (colL meas)) cmB ++ (partB byB cmB ((gList q.group.toNat dims.length).map (gL dims)) ++ (partB whB andB (q.flts.map (condL dims)) ++ (partB orB cmB (q.ord.map ordL) ++ limB q.limit))))
theorem put_map {α : Type} (E : α → List (Option Tok)) (l : List α) : (l.map E).map putT = l.map fun x => putT (E x) := by rw [List.map_map]; rfl
theorem put_g (dims : List ByteArray) (d : Nat) : putT (gI dims d) = gL dims d := by unfold gI gL; rw [putT, putT, List.append_nil]; rfl
theorem put_part {w : List UInt8} {p : List (Option Tok)} {l : List (List (Option Tok))} {W S : List UInt8} (hW : 32 :: (w ++ [32]) = W) (hS : putT p ++ [32] = S) : putT (partI w p l) = partB W S (l.map putT) := by
 unfold partI partB
 cases l with
 | nil => rfl
 | cons x l =>
  rw [if_neg (by simp), if_neg (by simp), putT, putT, putT, put_sep, hS, ← hW]
  show 32 :: (w ++ 32 :: _) = 32 :: (w ++ [32]) ++ _
  simp
theorem put_lim (n : Int) : putT (limI itoT n) = limB n := by
 unfold limI limB
 split
 ·rw [putT, putT, putT, putT, putT, List.append_nil]; rfl
 ·rfl
theorem put_show (dims meas : List ByteArray) (q : QP) : putT (showI itoT dims meas q) = showB dims meas q := by
 unfold showI showB
 rw [putT, putT, putT_append, putT_append, putT_append, putT_append, put_sep, put_part (W := byB) (S := cmB) rfl rfl, put_part (W := whB) (S := andB) rfl rfl, put_part (W := orB) (S := cmB) rfl rfl, put_lim, put_map, put_map, put_map, put_map]
 rw [List.map_congr_left (fun d _ => put_g dims d)]
 rfl
/-- how long lists' texts are -/
theorem lens_le {K : Nat} : ∀ (l : List (List UInt8)), (∀ x ∈ l, x.length ≤ K) → Lib.lens l ≤ K * l.length
 | [], _ => by simp [Lib.lens]
 | x :: l, h => by
  have h1 := lens_le l fun y hy => h y (List.mem_cons_of_mem _ hy)
  have h2 := h x List.mem_cons_self
  have h3 : Lib.lens (x :: l) = x.length + Lib.lens l := by simp [Lib.lens]
  rw [h3, List.length_cons, Nat.mul_add, Nat.mul_one]
  omega
theorem join_le {K N : Nat} {l : List (List UInt8)} {sep : List UInt8} (h : ∀ x ∈ l, x.length ≤ K) (hN : l.length ≤ N) : (Lib.join l sep).length ≤ (K + sep.length) * N := by
 cases l with
 | nil => rw [Lib.join_nil]; exact Nat.zero_le _
 | cons x l =>
  rw [Lib.join_length]
  have h1 := lens_le _ h
  have h2 : sep.length * l.length ≤ sep.length * N := Nat.mul_le_mul_left _ (by rw [List.length_cons] at hN; omega)
  have h3 : K * (x :: l).length ≤ K * N := Nat.mul_le_mul_left _ hN
  rw [Nat.add_mul]
  omega
theorem part_le {K N M : Nat} {w sep : List UInt8} {l : List (List UInt8)} (h : ∀ x ∈ l, x.length ≤ K) (hN : l.length ≤ N) (hM : w.length + (K + sep.length) * N ≤ M) : (partB w sep l).length ≤ M := by
 unfold partB
 split
 ·exact Nat.zero_le _
 ·rw [List.length_append]; have := join_le (sep := sep) h hN; omega
theorem itoa_le {n : Int} (h0 : 0 ≤ n) (h1 : n ≤ 9223372036854775807) : (Lib.itoa n).length ≤ 20 := by
  obtain ⟨u, rfl⟩ : ∃ u : Nat, n = (u : Int) := ⟨n.toNat, by omega⟩
  unfold Lib.itoa
  rw [if_neg (by omega)]
  show (Lib.decDigits u).length ≤ 20
  rw [Lib.decDigits_length]
  exact nDig_le 19 u (by have : (10 : Nat) ^ (19 + 1) = 100000000000000000000 := by decide
                         rw [this]; omega)
theorem name_le {s : ByteArray} (h : nameB s = true) : 1 ≤ s.size ∧ s.size ≤ 16 := by
 have hp : NameP s := by
  by_cases hp : NameP s
  ·exact hp
  ·rw [nameB_no hp] at h; cases h
 exact ⟨hp.1, hp.2.1⟩
theorem dim_le {s : Sch} (hs : chkS s = 0) (d : Nat) : ((dimN s).getD d ByteArray.empty).size ≤ 16 := by
 rcases Nat.lt_or_ge d (dimN s).length with h | h
 ·rw [← names_dims s h]
  exact (name_le (names_good hs (by rw [names_len]; omega))).2
 ·rw [List.getD_eq_getElem?_getD, List.getElem?_eq_none h]; decide
theorem meas_le {s : Sch} (hs : chkS s = 0) (d : Nat) : ((measN s).getD d ByteArray.empty).size ≤ 16 := by
 rcases Nat.lt_or_ge d (measN s).length with h | h
 ·rw [← names_meas s d]
  exact (name_le (names_good hs (by rw [names_len]; omega))).2
 ·rw [List.getD_eq_getElem?_getD, List.getElem?_eq_none h]; decide
theorem bl_size (s : ByteArray) : s.data.toList.length = s.size := by simp
theorem agg_le : ∀ j, (aggW.getD j []).length ≤ 5 := by
 intro j
 match j with
 | 0 => decide
 | 1 => decide
 | 2 => decide
 | 3 => decide
 | 4 => decide
 | 5 => decide
 | 6 => decide
 | j + 7 => rw [List.getD_eq_getElem?_getD, List.getElem?_eq_none (by show 7 ≤ j + 7; omega)]; decide
theorem colL_zero (meas : List ByteArray) (m : Int) : colL meas (0, m) = [99, 111, 117, 110, 116] := rfl
theorem colL_meas (meas : List ByteArray) {k : Int} (m : Int) (h : k ≠ 0) : colL meas (k, m) = aggW.getD k.toNat [] ++ ([40] ++ ((meas.getD m.toNat ByteArray.empty).data.toList ++ [41])) := by
 unfold colL colI shCol
 rw [if_neg h]
 simp only [List.map_cons, List.map_nil, putT, List.append_nil]
 rfl
theorem colL_le {s : Sch} (hs : chkS s = 0) (c : Int × Int) : (colL (measN s) c).length ≤ 40 := by
 obtain ⟨k, m⟩ := c
 by_cases h : k = 0
 ·subst h; rw [colL_zero]; decide
 ·rw [colL_meas _ _ h]
  have h1 := agg_le k.toNat
  have h2 := meas_le hs m.toNat
  rw [← bl_size] at h2
  simp only [List.length_append, List.length_cons, List.length_nil]
  omega
theorem condL_one (dims : List ByteArray) (d n : Int) : condL dims (d, [n]) = (dims.getD d.toNat ByteArray.empty).data.toList ++ ([32, 61, 32] ++ Lib.itoa n) := by
 unfold condL condI
 simp only [putT, List.append_nil]
 rfl
theorem condL_many (dims : List ByteArray) (d : Int) (cs : List Int) (h : cs.length ≠ 1) : condL dims (d, cs) = (dims.getD d.toNat ByteArray.empty).data.toList ++ ([32, 105, 110, 32, 40] ++ (Lib.join (cs.map Lib.itoa) cmB ++ [41])) := by
 have e : condI itoT dims (d, cs) = some (tN (dims.getD d.toNat ByteArray.empty)) :: none :: some (tW [105, 110]) :: none :: some (tG 40) :: (sepI cmI (cs.map fun n => [some (tD itoT n)]) ++ [some (tG 41)]) := by
  match cs, h with
  | [], _ => rfl
  | [_], h => simp at h
  | _ :: _ :: _, _ => rfl
 unfold condL
 rw [e]
 simp only [putT, putT_append, put_sep, put_map]
 have e2 : (cs.map fun n => putT [some (tD itoT n)]) = cs.map Lib.itoa := List.map_congr_left fun n _ => by
  rw [putT, putT, List.append_nil]; rfl
 show (dims.getD d.toNat ByteArray.empty).data.toList ++ 32 :: ([105, 110] ++ 32 :: ([40] ++ (Lib.join (cs.map fun n => putT [some (tD itoT n)]) cmB ++ ([41] ++ [])))) = _
 rw [e2]
 simp
theorem codesJ_le {cs : List Int} (hl : cs.length ≤ 4096) (h : ∀ n ∈ cs, 0 ≤ n ∧ n ≤ 9223372036854775807) : (Lib.join (cs.map Lib.itoa) cmB).length ≤ 90112 := by
 have h3 := join_le (K := 20) (N := 4096) (sep := cmB) (l := cs.map Lib.itoa) (fun x hx => by
  obtain ⟨n, hn, rfl⟩ := List.mem_map.1 hx
  exact itoa_le (h n hn).1 (h n hn).2) (by rw [List.length_map]; exact hl)
 exact h3
theorem condL_le {s : Sch} (hs : chkS s = 0) {f : Int × List Int} (hl : f.2.length ≤ 4096) (h : ∀ n ∈ f.2, 0 ≤ n ∧ n ≤ 9223372036854775807) : (condL (dimN s) f).length ≤ 100000 := by
 obtain ⟨d, cs⟩ := f
 have h2 := dim_le hs d.toNat
 rw [← bl_size] at h2
 by_cases h1 : cs.length = 1
 ·obtain ⟨n, rfl⟩ := List.length_eq_one_iff.1 h1
  rw [condL_one]
  have := h n (by simp)
  have := itoa_le this.1 this.2
  simp only [List.length_append, List.length_cons, List.length_nil]
  omega
 ·rw [condL_many _ _ _ h1]
  have := codesJ_le (cs := cs) hl h
  simp only [List.length_append, List.length_cons, List.length_nil]
  omega
theorem ordL_up (c : Int) : ordL (c, false) = Lib.itoa (c + 1) := by
 show (itoT (c + 1)).data.toList ++ [] = _
 rw [List.append_nil]
 rfl
theorem ordL_dn (c : Int) : ordL (c, true) = Lib.itoa (c + 1) ++ [32, 100, 101, 115, 99] := by
 show (itoT (c + 1)).data.toList ++ 32 :: ([100, 101, 115, 99] ++ []) = _
 rfl
theorem ordL_le {o : Int × Bool} (h0 : 0 ≤ o.1) (h1 : o.1 ≤ 1000) : (ordL o).length ≤ 40 := by
 obtain ⟨c, d⟩ := o
 dsimp only at h0 h1
 have := itoa_le (n := c + 1) (by omega) (by omega)
 cases d
 ·rw [ordL_up]; omega
 ·rw [ordL_dn, List.length_append]; simp only [List.length_cons, List.length_nil]; omega
theorem gL_le {s : Sch} (hs : chkS s = 0) (d : Nat) : (gL (dimN s) d).length ≤ 16 := by
 unfold gL; rw [bl_size]; exact dim_le hs d
theorem limB_le {n : Int} (h1 : n ≤ 9223372036854775807) : (limB n).length ≤ 27 := by
 unfold limB
 split
 ·have := itoa_le (n := n) (by omega) h1
  rw [List.length_append]; simp only [List.length_cons, List.length_nil]; omega
 ·exact Nat.zero_le _
/-- the rest of what a right query has -/
theorem fltsN_len {ds : List (ByteArray × Int)} {fs : List Flt} : ∀ (g i : Nat), fltsN ds fs g i = 0 → ∀ j, i ≤ j → j < i + g → (fltAt fs j).codes.length ≤ 4096
 | 0, i, _, j, h1, h2 => by omega
 | g + 1, i, h, j, h1, h2 => by
  rw [fltsN_succ] at h
  split at h
  ·cases h
  split at h
  ·cases h
  split at h
  ·cases h
  rename_i _ hc _
  by_cases hj : j = i
  ·subst hj; omega
  ·exact fltsN_len g (i + 1) h j (by omega) (by omega)
/-- what Show's loops meet -/
structure ShwOk (s : Sch) (q : Qry) : Prop where
 hs : chkS s = 0
 nd : s.dims.length ≤ 6
 nc : 0 < q.cols.length ∧ q.cols.length ≤ 16
 no : q.ord.length ≤ 8
 nf : q.flts.length ≤ 20
 col : ∀ j, j < q.cols.length → colB s.ints.length s.nums.length (colAt q.cols j).1 (colAt q.cols j).2 = true
 ord : ∀ j, j < q.ord.length → 0 ≤ (ordAt q.ord j).1 ∧ (ordAt q.ord j).1 ≤ 15
 dim : ∀ j, j < q.flts.length → 0 ≤ (fltAt q.flts j).dim ∧ (fltAt q.flts j).dim < s.dims.length
 cod : ∀ j, j < q.flts.length → (fltAt q.flts j).codes.length ≤ 4096
 num : ∀ j, j < q.flts.length → ∀ k, k < (fltAt q.flts j).codes.length → 0 ≤ (fltAt q.flts j).codes.getD k 0
 lim : 0 ≤ q.limit
theorem shw_ok {s : Sch} {q : Qry} (h : qchk s q = 0) : ShwOk s q := by
 unfold qchk at h
 split at h
 ·omega
 rename_i h1
 split at h
 ·omega
 split at h
 ·omega
 rename_i h3
 split at h
 ·omega
 rename_i h4
 split at h
 ·omega
 rename_i h5
 split at h
 ·omega
 rename_i h6
 split at h
 ·omega
 rename_i h7
 have hs : chkS s = 0 := by omega
 have hf : fchk s q.flts = 0 := by omega
 unfold fchk at hf
 rw [if_neg (by omega)] at hf
 split at hf
 ·omega
 rename_i h8
 have h9 := fltsN_all _ 0 hf
 have h10 := fltsN_len _ 0 hf
 have hcd := chk_dims hs
 refine ⟨hs, hcd.1, ⟨by omega, by omega⟩, by omega, by omega, fun j hj => colsOk_all _ 0 (by simpa using h5) j (Nat.zero_le _) (by omega), fun j hj => ?_, fun j hj => ⟨(h9 j (Nat.zero_le _) (by omega)).1, (h9 j (Nat.zero_le _) (by omega)).2.1⟩, fun j hj => h10 j (Nat.zero_le _) (by omega), fun j hj k hk => ((h9 j (Nat.zero_le _) (by omega)).2.2 k hk).1, by omega⟩
 have := ordOk_all _ 0 (by simpa using h6 : ordOk q.cols.length q.ord q.ord.length 0 = true) j (Nat.zero_le _) (by omega)
 omega
end Go.Proofs.YtkojcamlllenkaaDoor
/- The contract of package show's column. Conditions: those stated. -/
namespace Go.Proofs.YtkojcamlllenkaaDoor
open Go.RowKit

theorem dl_app (a b : ByteArray) : (a ++ b).data.toList = a.data.toList ++ b.data.toList := by rw [ByteArray.data_append, Array.toList_append]
theorem bt_eq {a : ByteArray} {l : List UInt8} (h : a.data.toList = l) : a = btS l := by rw [← h, btS_of]
theorem ret_st {a b : ByteArray} (h : a = b) : Ending.returned (.string a) = .returned (.string b) := by rw [h]
theorem colB_yes {ni nn : Nat} {k m : Int} (h : colB ni nn k m = true) : (k = 0 ∧ m = 0) ∨ ((1 ≤ k ∧ k ≤ 6) ∧ 0 ≤ m ∧ m < (ni : Int) + nn) := by
 unfold colB at h
 split at h
 ·left; exact ⟨by assumption, of_decide_eq_true h⟩
 split at h
 ·have := of_decide_eq_true h; omega
 split at h
 ·have := of_decide_eq_true h; omega
 ·cases h
theorem col_str {F nm : ByteArray} {s : Sch} {k m : Int} (hk : k ≠ 0) (hF : F.data.toList = aggW.getD k.toNat []) (hn : (measN s).getD m.toNat ByteArray.empty = nm) : F ++ ⟨#[40]⟩ ++ nm ++ ⟨#[41]⟩ = btS (colL (measN s) (k, m)) := by
 apply bt_eq
 rw [colL_meas _ _ hk, dl_app, dl_app, dl_app, hF, hn]
 simp only [List.append_assoc]
theorem meas_ints (s : Sch) {m : Nat} (h : m < s.ints.length) : (measN s).getD m ByteArray.empty = s.ints.getD m ByteArray.empty := by
 unfold measN
 rw [List.getD_eq_getElem?_getD, List.getElem?_append_left h, ← List.getD_eq_getElem?_getD]
theorem meas_nums (s : Sch) {m : Nat} (h : s.ints.length ≤ m) : (measN s).getD m ByteArray.empty = s.nums.getD (m - s.ints.length) ByteArray.empty := by
 unfold measN
 rw [List.getD_eq_getElem?_getD, List.getElem?_append_right h, ← List.getD_eq_getElem?_getD]

set_option maxHeartbeats 4000000 in
theorem pcolumn_any (w : World) (l : SchL) (s : Sch) (h : SchAt w l s) (hs : chkS s = 0) (k m : Int) (hb : colB s.ints.length s.nums.length k m = true) :
  Calls Tryd.prog 36 #[l.val, .agg #[.int .i64 k, .int .i64 m]] w fun e w' => e = .returned (.string (btS (colL (measN s) (k, m)))) ∧ Below w.heap.size w w' := by
 obtain ⟨ad, nd, cd, ai, ni, ci, an, nn, cn, av, nv, cv⟩ := l
 obtain ⟨b1, b2, b3, b4⟩ := chk_dims hs
 have li : s.ints.length = ni := h.2.2.1.1
 have ln : s.nums.length = nn := h.2.2.2.1.1
 have HLI := Lib.hid li
 rw [li] at hb b3
 rw [ln] at hb b4
 obtain ⟨hbx, hby, hbw, hsz⟩ := two_pbox w 26 61 #[.slice ad nd cd, .slice ai ni ci, .slice an nn cn, .slice av nv cv] #[.int .i64 k, .int .i64 m]
 have HS := Lib.hid (h.below hbw (Nat.le_refl _))
 have HBW := Lib.hid hbw
 have e1 := hbx 1
 have e2 := hbx 2
 have y0 := hby 0
 have y1 := hby 1
 simp only [List.getElem?_toArray, List.getElem?_cons_zero, List.getElem?_cons_succ] at e1 e2 y0 y1
 have hl1 : w.heap.size < ((w.alloc (.cells #[.slice ad nd cd, .slice ai ni ci, .slice an nn cn, .slice av nv cv] 26)).alloc (.cells #[.int .i64 k, .int .i64 m] 61)).heap.size := by rw [hsz]; omega
 have hl2 : w.heap.size + 1 < ((w.alloc (.cells #[.slice ad nd cd, .slice ai ni ci, .slice an nn cn, .slice av nv cv] 26)).alloc (.cells #[.int .i64 k, .int .i64 m] 61)).heap.size := by rw [hsz]; omega
 have HSZ := Lib.hid hl1
 clear h hbw hbx hby hsz
 unfold SchL.val
 go_enter Tryd.func36, Tryd.ntmps36
 go_upto_region 1 with fail
 generalize ((w.alloc (.cells #[.slice ad nd cd, .slice ai ni ci, .slice an nn cn, .slice av nv cv] 26)).alloc (.cells #[.int .i64 k, .int .i64 m] 61)) = w0 at *
 rcases colB_yes hb with ⟨rfl, rfl⟩ | ⟨hk, hm0, hm1⟩
 ·clear li ln hb
  go_wp2_with fail
  go_ret
  exact ⟨rfl, HBW.out⟩
 obtain ⟨j, rfl⟩ : ∃ j : Nat, m = (j : Int) := ⟨m.toNat, by omega⟩
 have hw1 : w0.heap.size ≤ w0.heap.size := Nat.le_refl _
 have H0 : Hid (w.heap.size ≤ w0.heap.size) := Lib.hid (Nat.le_of_lt HSZ.out)
 by_cases hj : j < ni
 ·obtain ⟨b, off, e, hbl, hc⟩ := (RowS.g HS.out.2.2.1).at (by show 0 < ni; omega)
  simp only at e
  subst e
  have c0 := hc j (by show j < ni * 1; omega)
  rw [getD_str (by rw [li]; exact hj)] at c0
  have HN := Lib.hid (meas_ints s (m := j) (by rw [li]; exact hj))
  have hnm : (s.ints.getD j ByteArray.empty).size ≤ 16 := by rw [← HN.out]; exact meas_le hs j
  obtain ⟨nm, hnn⟩ : ∃ x, s.ints.getD j ByteArray.empty = x := ⟨_, rfl⟩
  rw [hnn] at c0 HN hnm
  have t0 : decide ((j : Int) < (ni : Int)) = true := decide_eq_true (by omega)
  have HJ : Hid ((measN s).getD ((j : Int)).toNat ByteArray.empty = nm) := Lib.hid HN.out
  clear hc hnn li ln hm0 hm1 hb
  have hcase : k = 1 ∨ k = 2 ∨ k = 3 ∨ k = 4 ∨ k = 5 ∨ k = 6 := by omega
  clear hk
  rcases hcase with rfl | rfl | rfl | rfl | rfl | rfl
  all_goals
   go_wp2_with fail
   go_ret
   exact ⟨ret_st (col_str (by decide) rfl HJ.out), HBW.out.alloc H0.out _⟩
 ·obtain ⟨b, off, e, hbl, hc⟩ := (RowS.g HS.out.2.2.2.1).at (by show 0 < nn; omega)
  simp only at e
  subst e
  obtain ⟨i, hi⟩ : ∃ i : Nat, j = ni + i := ⟨j - ni, by omega⟩
  have c0 := hc i (by show i < nn * 1; omega)
  rw [getD_str (by rw [ln]; omega)] at c0
  have HN : Hid ((measN s).getD j ByteArray.empty = s.nums.getD i ByteArray.empty) := Lib.hid (by rw [meas_nums s (m := j) (by rw [li]; omega), li, hi, Nat.add_sub_cancel_left])
  have hnm : (s.nums.getD i ByteArray.empty).size ≤ 16 := by rw [← HN.out]; exact meas_le hs j
  obtain ⟨nm, hnn⟩ : ∃ x, s.nums.getD i ByteArray.empty = x := ⟨_, rfl⟩
  rw [hnn] at c0 HN hnm
  have t0 : decide ((j : Int) < (ni : Int)) = false := decide_eq_false (by omega)
  have t1 : (j : Int) - (ni : Int) = (i : Int) := by omega
  have hin : i < nn := by omega
  have HJ : Hid ((measN s).getD ((j : Int)).toNat ByteArray.empty = nm) := Lib.hid HN.out
  clear hc hnn li ln hm0 hm1 hi hj hb
  have hcase : k = 1 ∨ k = 2 ∨ k = 3 ∨ k = 4 ∨ k = 5 ∨ k = 6 := by omega
  clear hk
  rcases hcase with rfl | rfl | rfl | rfl | rfl | rfl
  all_goals
   go_wp2_with fail
   go_ret
   exact ⟨ret_st (col_str (by decide) rfl HJ.out), HBW.out.alloc H0.out _⟩
end Go.Proofs.YtkojcamlllenkaaDoor
