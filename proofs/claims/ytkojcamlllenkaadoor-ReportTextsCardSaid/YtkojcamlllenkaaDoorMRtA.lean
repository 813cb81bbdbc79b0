/- Rows' lines and a query's head, as bytes (plain). No conditions but those stated. -/
import Derived.Test.YtkojcamlllenkaaDoorMRp
import Derived.Test.YtkojcamlllenkaaDoorShwN
import Derived.Test.YtkojcamlllenkaaDoorShwM
import Derived.Test.YtkojcamlllenkaaDoorRowG
import Derived.BigRegion
namespace Go.Proofs.YtkojcamlllenkaaDoor
open Go.RowKit Ieee

theorem num_itoa {x : Int} {s : ByteArray} (h : IsNum x s) : s = btS (Lib.itoa x) := h.one (itoa_num x)
open Classical in
/-- a real number's text -/
noncomputable def realT (b : Nat) : List UInt8 := if h : ∃ s, IsReal b s then h.choose.data.toList else []
theorem realT_is {b : Nat} {s : ByteArray} (h : IsReal b s) : s = btS (realT b) := by
 have hx : ∃ s, IsReal b s := ⟨s, h⟩
 unfold realT
 rw [dif_pos hx, btS_of]
 exact h.one hx.choose_spec
theorem real_size {b : Nat} {s : ByteArray} (h : IsReal b s) (hb : b < 18446744073709551616) : s.size ≤ 3000 := by
 obtain ⟨neg, m, x, h0, h⟩ := h
 have hs : (sgB neg).size ≤ 1 := by cases neg <;> decide
 rcases h with ⟨h1, rfl⟩ | ⟨h1, rfl⟩ | ⟨h1, rfl⟩ | ⟨h1, t, u, h2, h3, rfl⟩
 ·rw [ByteArray.size_append]; have : txZero.size = 1 := rfl; omega
 ·rw [ByteArray.size_append]; have : txInf.size = 8 := rfl; omega
 ·decide
 ·obtain ⟨m0, m1, x0, x1⟩ := split_lt0 h0 hb
  have ht := text_size0 h2 (by omega)
  obtain ⟨v, hv, rfl⟩ := h3
  have hv2 := text_size0 hv (by omega)
  have hs2 : (sgB (decide (x < 0))).size ≤ 1 := by cases decide (x < 0) <;> decide
  have hp : txP.size = 1 := rfl
  simp only [ByteArray.size_append]
  omega
theorem realT_le {b : Nat} (hb : b < 18446744073709551616) : (realT b).length ≤ 3000 := by
 unfold realT
 split
 ·rename_i h
  rw [bl_size]
  exact real_size h.choose_spec hb
 ·exact Nat.zero_le _
/-- a value's text: whether it is real, the whole number, the real one -/
noncomputable def valL (v : Bool × Int × Nat) : List UInt8 := if v.1 then realT v.2.2 else Lib.itoa v.2.1
theorem itoa_le2 {n : Int} (h0 : -9223372036854775808 ≤ n) (h1 : n ≤ 9223372036854775807) : (Lib.itoa n).length ≤ 21 := by
  unfold Lib.itoa
  split
  · rw [List.length_cons, Lib.decDigits_length]
    have := nDig_le 19 n.natAbs (by have : (10 : Nat) ^ (19 + 1) = 100000000000000000000 := by decide
                                    rw [this]; omega)
    omega
  · have := nDig_le 19 n.toNat (by have : (10 : Nat) ^ (19 + 1) = 100000000000000000000 := by decide
                                   rw [this]; omega)
    rw [Lib.decDigits_length]
    omega
/-- a value as it lies in memory -/
def ValOk (v : Bool × Int × Nat) : Prop := (-9223372036854775808 ≤ v.2.1 ∧ v.2.1 ≤ 9223372036854775807) ∧ v.2.2 < 18446744073709551616
theorem valL_le {v : Bool × Int × Nat} (h : ValOk v) : (valL v).length ≤ 3000 := by
 unfold valL
 split
 ·exact realT_le h.2
 ·exact Nat.le_trans (itoa_le2 h.1.1 h.1.2) (by decide)
/-- a row's pieces, and its line -/
noncomputable def pieces (cs : List Int) (vs : List (Bool × Int × Nat)) : List (List UInt8) := cs.map Lib.itoa ++ vs.map valL
noncomputable def lineL (cs : List Int) (vs : List (Bool × Int × Nat)) : List UInt8 := Lib.join (pieces cs vs) [32]
/-- pieces, a blank behind each -/
def blanks (l : List (List UInt8)) : List UInt8 := l.flatMap fun x => x ++ [32]
theorem blanks_snoc (l : List (List UInt8)) (x : List UInt8) : blanks (l ++ [x]) = blanks l ++ (x ++ [32]) := by
 unfold blanks; rw [List.flatMap_append, List.flatMap_singleton]
theorem blanks_join : ∀ (l : List (List UInt8)), l ≠ [] → blanks l = Lib.join l [32] ++ [32]
 | [], h => absurd rfl h
 | [x], _ => by rw [Lib.join_one]; unfold blanks; rw [List.flatMap_singleton]
 | x :: y :: r, _ => by
  have h := blanks_join (y :: r) (by simp)
  have e : blanks (x :: y :: r) = (x ++ [32]) ++ blanks (y :: r) := by unfold blanks; rw [List.flatMap_cons]
  have e2 : Lib.join (x :: y :: r) [32] = x ++ [32] ++ Lib.join (y :: r) [32] := by unfold Lib.join; simp [List.intercalate]
  rw [e, h, e2]
  simp only [List.append_assoc]
theorem blanks_nil {l : List (List UInt8)} : blanks l = [] ↔ l = [] := by
 cases l with
 | nil => exact ⟨fun _ => rfl, fun _ => rfl⟩
 | cons x r =>
  constructor
  ·intro h
   unfold blanks at h
   rw [List.flatMap_cons] at h
   exact absurd (List.append_eq_nil_iff.1 (List.append_eq_nil_iff.1 h).1).2 (List.cons_ne_nil _ _)
  ·intro h; cases h
theorem blanks_cut (l : List (List UInt8)) : (btS (blanks l)).extract 0 ((btS (blanks l)).size - 1) = btS (Lib.join l [32]) := by
 apply bt_eq
 rw [btS_size, ByteArray.data_extract]
 by_cases h : l = []
 ·subst h; rfl
 ·rw [blanks_join l h, List.length_append]
  show ((Lib.join l [32] ++ [32]).toArray.extract 0 ((Lib.join l [32]).length + 1 - 1)).toList = _
  simp
theorem blanks_le {K N : Nat} {l : List (List UInt8)} (h : ∀ x ∈ l, x.length ≤ K) (hN : l.length ≤ N) : (blanks l).length ≤ (K + 1) * N := by
 have : ∀ l : List (List UInt8), (∀ x ∈ l, x.length ≤ K) → (blanks l).length ≤ (K + 1) * l.length := by
  intro l
  induction l with
  | nil => intro _; exact Nat.zero_le _
  | cons x r ih =>
   intro h
   have h1 := ih fun y hy => h y (List.mem_cons_of_mem _ hy)
   have h2 := h x List.mem_cons_self
   have e : blanks (x :: r) = (x ++ [32]) ++ blanks r := by unfold blanks; rw [List.flatMap_cons]
   have e2 : (K + 1) * (x :: r).length = (K + 1) * r.length + (K + 1) := by rw [List.length_cons, Nat.mul_add, Nat.mul_one]
   rw [e, e2, List.length_append, List.length_append]
   simp only [List.length_cons, List.length_nil]
   omega
 exact Nat.le_trans (this l h) (Nat.mul_le_mul_left _ hN)
/-- a query's head -/
def headP (s : Sch) (q : QP) : List (List UInt8) := (gList q.group.toNat (dimN s).length).map (gL (dimN s)) ++ q.cols.map (colL (measN s))
def headL (s : Sch) (q : QP) : List UInt8 := Lib.join (headP s q) [32]
/-- what Head says -/
noncomputable def headS (s : Sch) (q : QP) : ByteArray × Int := if qchk s q.qry ≠ 0 then (⟨#[]⟩, (qchk s q.qry : Nat)) else (btS (headL s q), 0)
/-- lines behind a head -/
noncomputable def linesL (l : List (List Int × List (Bool × Int × Nat))) : List UInt8 := l.flatMap fun r => lineL r.1 r.2 ++ [10]
noncomputable def textS (s : Sch) (q : QP) (l : List (List Int × List (Bool × Int × Nat))) : ByteArray × Int :=
 if qchk s q.qry ≠ 0 then (⟨#[]⟩, (qchk s q.qry : Nat)) else (btS (headL s q ++ [10] ++ linesL l), 0)
end Go.Proofs.YtkojcamlllenkaaDoor
/- A text of few good tokens is cut, so a query of one column is told (plain). No conditions but those stated. -/
namespace Go.Proofs.YtkojcamlllenkaaDoor
open Go.RowKit

theorem lx_cut (t : ByteArray) : ∀ (xs : List (Option Tok)) (a f : Nat) (out : List Tok), (∀ x, some x ∈ xs → Good x) → SepT xs →
    t.data.toList.drop a = putT xs → t.size ≤ a + f → out.length + xs.length ≤ 1000 → ∃ L, lx t f a out = .ok L
  | [], a, f, out, _, _, hd, hf, _ => by
    have h3 : t.size ≤ a := by
      have := congrArg List.length hd
      rw [List.length_drop] at this; simp [putT] at this; omega
    exact ⟨_, lx_end h3⟩
  | none :: xs, a, f, out, hg, hs, hd, hf, hn => by
    rw [putT] at hd
    obtain ⟨hlt, e⟩ := get_drop hd
    have h2 : t.data.toList.drop (a + 1) = putT xs := drop_more (u := [32]) hd
    obtain ⟨g, rfl⟩ : ∃ g, f = g + 1 := ⟨f - 1, by omega⟩
    rw [lx_blank hlt (by rw [e]; exact .inl rfl)]
    exact lx_cut t xs (a + 1) g out (fun x hx => hg x (List.mem_cons_of_mem _ hx)) hs h2 (by omega) (by rw [List.length_cons] at hn; omega)
  | some x :: xs, a, f, out, hg, hs, hd, hf, hnn => by
    have hx := hg x List.mem_cons_self
    have hxs : ∀ y, some y ∈ xs → Good y := fun y hy => hg y (List.mem_cons_of_mem _ hy)
    obtain ⟨hs1, hs2⟩ := hs
    rw [putT] at hd
    rw [List.length_cons] at hnn
    have ho : out.length ≠ 1000 := by omega
    rcases hx with ⟨hk, hn, c, hc, ht⟩ | ⟨h0, hall, hR⟩
    · rw [ht] at hd
      have hd1 : t.data.toList.drop a = c :: putT xs := hd
      obtain ⟨hlt, e⟩ := get_drop hd1
      have hd2 : t.data.toList.drop (a + 1) = putT xs := drop_more (u := [c]) hd1
      obtain ⟨g, rfl⟩ : ∃ g, f = g + 1 := ⟨f - 1, by omega⟩
      have hnb : ¬ isBlank t[a] := by rw [e]; rcases hc with rfl | rfl | rfl | rfl <;> decide
      rw [lx_sign hlt hnb (by rw [e]; exact hc) ho]
      exact lx_cut t xs (a + 1) g _ hxs hs2 hd2 (by omega) (by rw [List.length_append]; simp only [List.length_cons, List.length_nil]; omega)
    · have hre : runEnd xs := hs1.resolve_left (fun h => by rcases runR_kind _ _ _ hR with h' | h' | h' <;> omega)
      have hu : ∀ y ∈ x.t.data.toList, runB y = true := List.all_eq_true.1 hall
      obtain ⟨c, u, hcu⟩ : ∃ c u, x.t.data.toList = c :: u := by
        cases hh : x.t.data.toList with
        | nil => have : x.t.data.toList.length = x.t.size := by simp
                 rw [hh] at this; simp at this; omega
        | cons c u => exact ⟨c, u, rfl⟩
      have hd1 : t.data.toList.drop a = c :: (u ++ putT xs) := by rw [hd, hcu]; rfl
      obtain ⟨hlt, e⟩ := get_drop hd1
      have hrc : runB c = true := hu c (by rw [hcu]; exact List.mem_cons_self)
      obtain ⟨hnb, hns⟩ := run_noblank hrc
      have hlen : x.t.data.toList.length = x.t.size := by simp
      have htl : t.data.toList.length = t.size := by simp
      have hsz : a + x.t.size ≤ t.size := by
        have := congrArg List.length hd
        rw [List.length_drop, List.length_append, hlen, htl] at this; omega
      have hE : rEnd t a = a + x.t.size := by
        unfold rEnd
        rw [rEndF_to x.t.data.toList a (t.size - a) _ hd hu (runEnd_to hxs hre) (by omega), hlen]
      have hext : t.extract a (rEnd t a) = x.t := by
        apply ba_ext
        rw [ext_list, hE, hd, show a + x.t.size - a = x.t.data.toList.length from by omega, List.take_left]
      have hd2 : t.data.toList.drop (a + x.t.size) = putT xs := by rw [← hlen]; exact drop_more hd
      obtain ⟨g, rfl⟩ : ∃ g, f = g + 1 := ⟨f - 1, by omega⟩
      rw [lx_run hlt (by rw [e]; exact hnb) (by rw [e]; exact hns) (by rw [e]; exact hrc) (by rw [hext]; exact hR) ho, hE]
      exact lx_cut t xs (a + x.t.size) g _ hxs hs2 hd2 (by omega) (by rw [List.length_append]; simp only [List.length_cons, List.length_nil]; omega)
/-- a query of one column -/
def oneQ (c : Int × Int) : QP := ⟨0, [], [c], [], 0⟩
theorem one_chk {s : Sch} {c : Int × Int} (hs : chkS s = 0) (hc : colB s.ints.length s.nums.length c.1 c.2 = true) : qchk s (oneQ c).qry = 0 := by
 unfold qchk
 rw [if_neg (by omega), if_neg (by show ¬ (2 : Int) ^ s.dims.length ≤ 0; have : (0 : Int) < 2 ^ s.dims.length := Int.pow_pos (by decide); omega)]
 have hf : fchk s (oneQ c).qry.flts = 0 := by unfold fchk; rw [if_neg (by omega), if_neg (by rw [show (oneQ c).qry.flts.length = 0 from rfl]; decide)]; rfl
 rw [if_neg (by rw [hf]; decide), if_neg (by rw [show (oneQ c).qry.cols.length = 1 from rfl, show (oneQ c).qry.ord.length = 0 from rfl]; decide)]
 have h5 : colsOk s.ints.length s.nums.length (oneQ c).qry.cols (oneQ c).qry.cols.length 0 = true := by
  show (if colB s.ints.length s.nums.length c.1 c.2 = false then false else true) = true
  rw [hc]
  rfl
 rw [h5]
 rfl
theorem one_show {s : Sch} {c : Int × Int} (hs : chkS s = 0) (hc : colB s.ints.length s.nums.length c.1 c.2 = true) : showS s (oneQ c) = (btS (selB ++ colL (measN s) c), 0) := by
 have h0 := one_chk hs hc
 have ht : showB (dimN s) (measN s) (oneQ c) = selB ++ colL (measN s) c := by
  unfold showB oneQ
  have hg : gList (0 : Int).toNat (dimN s).length = [] := by
   unfold gList
   rw [List.filter_eq_nil_iff]
   intro d _
   simp
  rw [hg]
  show selB ++ (Lib.join [colL (measN s) c] cmB ++ ([] ++ ([] ++ ([] ++ [])))) = _
  rw [Lib.join_one]
  simp
 have hx : showTx s (oneQ c) = btS (selB ++ colL (measN s) c) := by unfold showTx; rw [ht]
 have hl := colL_le hs c
 unfold showS
 rw [h0, if_neg (by decide), if_neg (by rw [show (oneQ c).limit = 0 from rfl]; decide), hx]
 obtain ⟨L, hL⟩ : ∃ L, lexAll (btS (selB ++ colL (measN s) c)) = .ok L := by
  unfold lexAll
  rw [if_neg (by rw [btS_size, List.length_append]; have : selB.length = 7 := rfl; omega)]
  refine lx_cut _ (showI itoT (dimN s) (measN s) (oneQ c)) 0 _ [] (show_good tells_itoa h0 (Int.le_refl 0) (show (0 : Int) ≤ 999999999 by decide)) (sep_show _ _ _ _) (by rw [List.drop_zero, put_show, ht]; rfl) (by omega) ?_
  unfold showI oneQ
  have hg : gList (0 : Int).toNat (dimN s).length = [] := by
   unfold gList
   rw [List.filter_eq_nil_iff]
   intro d _
   simp
  rw [hg]
  show 0 + (some (tW _) :: none :: (colI (measN s) c ++ ([] ++ ([] ++ ([] ++ []))))).length ≤ 1000
  have hcl : (colI (measN s) c).length ≤ 4 := by
   unfold colI shCol
   split
   ·decide
   ·rw [List.length_map]; exact Nat.le_refl _
  simp only [List.length_cons, List.length_append, List.length_nil]
  omega
 rw [hL]
 rfl
theorem sel_trim (l : List UInt8) : Lib.trimPrefix (selB ++ l) selB = l := by
 unfold Lib.trimPrefix Lib.hasPrefix
 simp [selB]
end Go.Proofs.YtkojcamlllenkaaDoor
/- The contracts of package report's value and Line. Conditions: those stated; the library's table of powers of ten is as the row lists it. -/
namespace Go.Proofs.YtkojcamlllenkaaDoor
open Go.RowKit Ieee

theorem run_store_fltR {P : Program} {w : World} {a : Addr} {m : Mode} (k : FloatKind) (b : Nat) : (store a (.float k b) m).run P w = stored P w a (.float k b) m := run_store P w a _ m rfl
attribute [local go_sem] run_store_fltR
theorem tab_bel {w w' : World} (h : Tab w) (hb : Below w.heap.size w w') : Tab w' := by
 unfold Tab Lib.TabIs World.var? at *
 cases hg : Tryd.prog.globalNamed "internal/strconv.uint64pow10" with
 | none => simp [hg] at h
 | some g =>
  simp only [hg, Option.bind_some] at h ⊢
  have hlt : g < w.heap.size := by
   rcases Nat.lt_or_ge g w.heap.size with h' | h'
   ·exact h'
   ·rw [Array.getElem?_eq_none h'] at h; simp at h
  rw [hb.block g hlt]
  exact h
theorem pval_any (r : Bool) (n : Int) (x : Nat) (w : World) (hv : ValOk (r, n, x)) (he : Tab w) : Calls Tryd.prog 26 #[.agg #[.bool r, .int .i64 n, .float .f64 x]] w fun e w' => e = .returned (.string (btS (valL (r, n, x)))) ∧ Below w.heap.size w w' := by
 obtain ⟨hbx, hbw, hsz⟩ := boxed44 w 56 #[.bool r, .int .i64 n, .float .f64 x]
 have e0 := hbx 0
 have e1 := hbx 1
 have e2 := hbx 2
 simp only [List.getElem?_toArray, List.getElem?_cons_zero, List.getElem?_cons_succ] at e0 e1 e2
 have HF := Lib.hid (fmt_any n (w.alloc (.cells #[.bool r, .int .i64 n, .float .f64 x] 56)) hv.1.1 hv.1.2 (tab_bel he hbw))
 have HR := Lib.hid (preal_any x (w.alloc (.cells #[.bool r, .int .i64 n, .float .f64 x] 56)) hv.2 (fun w' hb => tab_bel (tab_bel he hbw) hb))
 have HB := Lib.hid hbw
 clear hbx hbw he hv
 go_enter Tryd.func26, Tryd.ntmps26
 go_upto_region 1 with fail
 generalize (w.alloc (.cells #[.bool r, .int .i64 n, .float .f64 x] 56)) = w1 at *
 rcases r with _ | _
 ·go_wp2_with fail
  refine (HF.out).mono ?_; rintro e w2 ⟨t, rfl, ht, hb2⟩
  have HT := Lib.hid (num_itoa ht)
  have HB2 := Lib.hid (HB.out.trans (hb2.mono HB.out.size))
  clear ht hb2
  go_wp2_with fail
  go_ret
  exact ⟨ret_st (by rw [HT.out]; rfl), HB2.out⟩
 ·go_wp2_with fail
  refine (HR.out).mono ?_; rintro e w2 ⟨t, rfl, ht, hb2⟩
  have HT := Lib.hid (realT_is ht)
  have HB2 := Lib.hid (HB.out.trans (hb2.mono HB.out.size))
  clear ht hb2
  go_wp2_with fail
  go_ret
  exact ⟨ret_st (by rw [HT.out]; rfl), HB2.out⟩
/-- values in memory -/
def valCells : List (Bool × Int × Nat) → List Value
 | [] => []
 | v :: r => .bool v.1 :: .int .i64 v.2.1 :: .float .f64 v.2.2 :: valCells r
def valAt (vs : List (Bool × Int × Nat)) (i : Nat) : Bool × Int × Nat := vs.getD i (false, 0, 0)
theorem valCells_get : ∀ {vs : List (Bool × Int × Nat)} {i : Nat}, i < vs.length → (valCells vs).getD (i * 3) undef = .bool (valAt vs i).1 ∧ (valCells vs).getD (i * 3 + 1) undef = .int .i64 (valAt vs i).2.1 ∧ (valCells vs).getD (i * 3 + 2) undef = .float .f64 (valAt vs i).2.2
 | [], _, h => by simp at h
 | v :: vs, 0, _ => ⟨rfl, rfl, rfl⟩
 | v :: vs, i + 1, h => by
  have h2 := valCells_get (vs := vs) (i := i) (by simpa using h)
  rw [show (i + 1) * 3 = i * 3 + 1 + 1 + 1 from by omega]
  simpa [valCells, valAt] using h2
theorem valAt_mem {vs : List (Bool × Int × Nat)} {i : Nat} (h : i < vs.length) : valAt vs i ∈ vs := by
 unfold valAt; rw [List.getD_eq_getElem?_getD, List.getElem?_eq_getElem h]; exact List.getElem_mem h
/-- a row as it lies in memory -/
structure RowL where
 ca : Option Addr
 cn : Nat
 cc : Nat
 va : Option Addr
 vn : Nat
 vc : Nat
def RowAt (w : World) (l : RowL) (r : List Int × List (Bool × Int × Nat)) : Prop :=
 RowK .i64 w l.ca l.cn l.cc r.1 ∧ RowG 3 w l.va l.vn l.vc (valCells r.2) ∧ r.2.length = l.vn ∧ (∀ c ∈ r.1, -9223372036854775808 ≤ c ∧ c ≤ 9223372036854775807) ∧ ∀ v ∈ r.2, ValOk v
theorem RowAt.below {w w' : World} {l : RowL} {r : List Int × List (Bool × Int × Nat)} {B : Nat} (h : RowAt w l r) (hb : Below B w w') (hB : w.heap.size ≤ B) : RowAt w' l r := ⟨h.1.below hb hB, h.2.1.below hb hB, h.2.2⟩
def RowL.val (l : RowL) : Value := .agg #[.slice l.ca l.cn l.cc, .slice l.va l.vn l.vc]
theorem pieces_le {cs : List Int} {vs : List (Bool × Int × Nat)} (h1 : ∀ c ∈ cs, -9223372036854775808 ≤ c ∧ c ≤ 9223372036854775807) (h2 : ∀ v ∈ vs, ValOk v) : ∀ x ∈ pieces cs vs, x.length ≤ 3000 := by
 intro x hx
 unfold pieces at hx
 rcases List.mem_append.1 hx with hx | hx
 ·obtain ⟨c, hc, rfl⟩ := List.mem_map.1 hx
  exact Nat.le_trans (itoa_le2 (h1 c hc).1 (h1 c hc).2) (by decide)
 ·obtain ⟨v, hv, rfl⟩ := List.mem_map.1 hx
  exact valL_le (h2 v hv)
theorem pieces_len (cs : List Int) (vs : List (Bool × Int × Nat)) : (pieces cs vs).length = cs.length + vs.length := by unfold pieces; rw [List.length_append, List.length_map, List.length_map]
theorem pieces_c (cs : List Int) (vs : List (Bool × Int × Nat)) {i : Nat} (h : i < cs.length) : (pieces cs vs).getD i [] = Lib.itoa (cs.getD i 0) := by
 unfold pieces
 rw [List.getD_eq_getElem?_getD, List.getElem?_append_left (by rw [List.length_map]; exact h), List.getElem?_map, List.getElem?_eq_getElem h, List.getD_eq_getElem?_getD, List.getElem?_eq_getElem h]
 rfl
theorem pieces_v (cs : List Int) (vs : List (Bool × Int × Nat)) {i : Nat} (h : i < vs.length) : (pieces cs vs).getD (cs.length + i) [] = valL (valAt vs i) := by
 unfold pieces valAt
 rw [List.getD_eq_getElem?_getD, List.getElem?_append_right (by rw [List.length_map]; omega), List.length_map, Nat.add_sub_cancel_left, List.getElem?_map, List.getElem?_eq_getElem h, List.getD_eq_getElem?_getD, List.getElem?_eq_getElem h]
 rfl

set_option maxHeartbeats 4000000 in
theorem pline_any (w : World) (l : RowL) (r : List Int × List (Bool × Int × Nat)) (h : RowAt w l r) (hc : l.cn ≤ 100) (hv : l.vn ≤ 100) (he : Tab w) :
  Calls Tryd.prog 12 #[l.val] w fun e w' => e = .returned (.string (btS (lineL r.1 r.2))) ∧ Below w.heap.size w w' := by
 obtain ⟨ca, cn, cc, va, vn, vc⟩ := l
 obtain ⟨cs, vs⟩ := r
 obtain ⟨hbx, hbw, hsz⟩ := boxed44 w 49 #[.slice ca cn cc, .slice va vn vc]
 have HRW := Lib.hid (h.below hbw (Nat.le_refl _))
 have HLC : Hid (cs.length = cn ∧ vs.length = vn) := Lib.hid ⟨h.1.1, h.2.2.1⟩
 have HPL := Lib.hid (pieces_le h.2.2.2.1 h.2.2.2.2)
 have HE := Lib.hid (tab_bel he hbw)
 have HBW := Lib.hid hbw
 have e0 := hbx 0
 have e1 := hbx 1
 simp only [List.getElem?_toArray, List.getElem?_cons_zero, List.getElem?_cons_succ] at e0 e1
 have HE1 := Lib.hid e1
 simp only at hc hv
 unfold RowL.val
 dsimp only
 obtain ⟨N, hN⟩ : ∃ N, (w.alloc (.cells #[.slice ca cn cc, .slice va vn vc] 49)).heap.size = N := ⟨_, rfl⟩
 have HLT : Hid (w.heap.size < N) := Lib.hid (by rw [← hN, hsz]; omega)
 obtain ⟨PS, hPS⟩ : ∃ p, pieces cs vs = p := ⟨_, rfl⟩
 have HPS := Lib.hid hPS
 have HPN : Hid (PS.length = cn + vn) := Lib.hid (by rw [← hPS, pieces_len, HLC.out.1, HLC.out.2])
 rw [hPS] at HPL
 clear h hbx hbw hsz he e1 hPS
 go_enter Tryd.func12, Tryd.ntmps12
 go_upto_region 1 with fail
 generalize (w.alloc (.cells #[.slice ca cn cc, .slice va vn vc] 49)) = w0 at *
 obtain ⟨S, hS⟩ : ∃ S, w.heap.size = S := ⟨_, rfl⟩
 have HSS := Lib.hid hS
 rw [hS] at HBW HLT HE1 e0
 have HN := Lib.hid hN
 clear hS hN
 rw [HSS.out]
 go_wp2_with fail
 clear e0
 go_loopg [3, 11] cn (fun q v iu wr => ∃ i : Nat, iu = .int .i64 i ∧ i + q = cn ∧ wr.ownsRow N 9 1 v i ((PS.take i).map fun x => Value.string (btS x)) ∧ Below N w0 wr)
 case atStart => exact ⟨0, rfl, by omega, World.ownsRow_nil _ _ _ _, Below.refl _ _⟩
 case round =>
 obtain ⟨i, rfl, hq, hown, hb⟩ := hrel
 have HQ := Lib.hid hq
 have HOW := Lib.hid hown
 have HB := Lib.hid hb
 have hsz : N ≤ wr.heap.size := by have := hb.size; rw [HN.out] at this; exact this
 clear hq hown hb
 by_cases hlt : i < cn
 case pos =>
  obtain ⟨kb, ko, rfl, hkl, hkc⟩ := rowk_at (HRW.out.1.below HB.out (Nat.le_of_eq HN.out)) (by show 0 < cn; omega)
  have k0 := hkc i hlt
  have hil : i < cs.length := by rw [HLC.out.1]; exact hlt
  have hx := HRW.out.2.2.2.1 (cs.getD i 0) (geti_mem hil)
  have HTK := Lib.hid (take_map (fun x => Value.string (btS x)) PS [] (i := i) (by rw [HPN.out]; omega))
  have HPC : Hid (PS.getD i [] = Lib.itoa (cs.getD i 0)) := Lib.hid (by rw [← HPS.out]; exact pieces_c cs vs hil)
  rw [HPC.out] at HTK
  obtain ⟨x, hxx⟩ : ∃ x, cs.getD i 0 = x := ⟨_, rfl⟩
  simp only at k0 hx
  rw [hxx] at k0 hx HTK
  have HI := Lib.hid (itoa_any x wr hx.1 hx.2 (tab_bel HE.out (by rw [HN.out]; exact HB.out)))
  clear hkc hxx hil hx HPC hkl
  go_wp2_with fail
  refine (HI.out).mono ?_; rintro e w2 ⟨t, rfl, ht, hb2⟩
  obtain rfl := num_itoa ht
  obtain ⟨T, hT⟩ : ∃ T, btS (Lib.itoa x) = T := ⟨_, rfl⟩
  rw [hT] at HTK ⊢
  have HB2 := Lib.hid (HB.out.trans (hb2.mono hsz))
  have hz2 : N ≤ w2.heap.size := Nat.le_trans hsz hb2.size
  have HOW2 := Lib.hid (own_below HOW.out hb2 (Nat.le_refl _))
  obtain ⟨L0, hL0⟩ : ∃ L, ((PS.take i).map fun x => Value.string (btS x)) = L := ⟨_, rfl⟩
  rw [hL0] at HTK HOW2
  clear ht hb2 k0 hT hL0 HOW HI
  go_wp2_with (at_builtin; refine wpList_append_oneG (z := .string ByteArray.empty) (sz := 1) (bytes := 16) info_string rfl (by decide) Tryd.underlying23 rfl _ _ rfl w2 _ #[.string T] N u3 i L0 w2.heap.size rfl rfl rfl rfl HOW2.out (fun u hu => by simp at hu; subst hu; rfl) (by omega) (by unfold maxLen; omega) hz2 ?_)
  intro v' w3 h2 h3 h4
  have HOW3 : Hid (w3.ownsRow N 9 1 v' (i + 1) ((PS.take (i + 1)).map fun x => Value.string (btS x))) := Lib.hid (by rw [HTK.out]; exact h2)
  have HB3 := Lib.hid (h4 w0 HB2.out)
  clear h2 h3 h4
  go_wp2_with fail
  go_roundg (cn - i - 1)
  case measure => have := HQ.out; omega
  case rel => exact ⟨i + 1, by go_num, by have := HQ.out; omega, HOW3.out, HB3.out⟩
 case neg =>
 obtain rfl : cn = i := by have := HQ.out; omega
 have e1 : wr.cell? ⟨S, 1, none⟩ = some (.slice va vn vc) := by rw [HB.out.cell (p := ⟨S, 1, none⟩) HLT.out]; exact HE1.out
 obtain ⟨w1, rfl⟩ : ∃ x, x = wr := ⟨_, rfl⟩
 have HB1 := HB
 have HOW1 := HOW
 clear hlt HQ HB HOW hsz
 go_wp2_with fail
 clear e1
 go_loopg [3, 24] vn (fun q v iu wx => ∃ i : Nat, iu = .int .i64 i ∧ i + q = vn ∧ wx.ownsRow N 9 1 v (cn + i) ((PS.take (cn + i)).map fun x => Value.string (btS x)) ∧ Below N w0 wx)
 case atStart => exact ⟨0, rfl, by omega, HOW1.out, HB1.out⟩
 case round =>
 obtain ⟨i, rfl, hq, hown, hb⟩ := hrel
 have HQ := Lib.hid hq
 have HOW := Lib.hid hown
 have HB := Lib.hid hb
 have hsz : N ≤ wr.heap.size := by have := hb.size; rw [HN.out] at this; exact this
 clear hq hown hb HOW1 HB1
 by_cases hlt : i < vn
 case pos =>
  obtain ⟨b, off, e, hbl, hcl⟩ := (HRW.out.2.1.below HB.out (Nat.le_of_eq HN.out)).at (by show 0 < vn; omega)
  simp only at e
  subst e
  have c0 := hcl (i * 3) (by show i * 3 < vn * 3; omega)
  have c1 := hcl (i * 3 + 1) (by show i * 3 + 1 < vn * 3; omega)
  have c2 := hcl (i * 3 + 2) (by show i * 3 + 2 < vn * 3; omega)
  have hil : i < vs.length := by rw [HLC.out.2]; exact hlt
  obtain ⟨g0, g1, g2⟩ := valCells_get (vs := vs) (i := i) hil
  simp only at c0 c1 c2
  rw [g0] at c0
  rw [g1, ← Nat.add_assoc] at c1
  rw [g2, ← Nat.add_assoc] at c2
  have hok := HRW.out.2.2.2.2 (valAt vs i) (valAt_mem hil)
  have HTK := Lib.hid (take_map (fun x => Value.string (btS x)) PS [] (i := cn + i) (by rw [HPN.out]; omega))
  have HPC : Hid (PS.getD (cn + i) [] = valL (valAt vs i)) := Lib.hid (by rw [← HPS.out, ← HLC.out.1]; exact pieces_v cs vs hil)
  rw [HPC.out] at HTK
  obtain ⟨⟨vr, vi, vx⟩, hvv⟩ : ∃ x, valAt vs i = x := ⟨_, rfl⟩
  rw [hvv] at c0 c1 c2 hok HTK
  simp only at c0 c1 c2
  have HV := Lib.hid (fun w2 (hb : Below N w0 w2) => pval_any vr vi vx w2 hok (tab_bel HE.out (by rw [HN.out]; exact hb)))
  clear hcl g0 g1 g2 hvv hil hok HPC
  go_upto_region 10 with fail
  have hw2 : Below N w0 (wr.alloc (.cells #[.bool vr, .int .i64 vi, .float .f64 vx] 56)) := HB.out.alloc hsz _
  have hk2 := Blk.new wr 56 #[.bool vr, .int .i64 vi, .float .f64 vx]
  have HOW1 : Hid ((wr.alloc (.cells #[.bool vr, .int .i64 vi, .float .f64 vx] 56)).ownsRow N 9 1 u3 (cn + i) ((PS.take (cn + i)).map fun x => Value.string (btS x))) := Lib.hid (World.ownsRow.alloc HOW.out _)
  clear c0 c1 c2
  generalize (wr.alloc (.cells #[.bool vr, .int .i64 vi, .float .f64 vx] 56)) = w2 at *
  have hsz0 := hsz
  generalize wr.heap.size = T at hk2 hsz0 ⊢
  have HB2 := Lib.hid hw2
  have hz2 : N ≤ w2.heap.size := by have := hw2.size; rw [HN.out] at this; exact this
  have HV2 := Lib.hid (HV.out w2 hw2)
  have f0 : w2.cell? ⟨T, 0, none⟩ = some (.bool vr) := hk2.cell 0
  have f1 : w2.cell? ⟨T, 1, none⟩ = some (.int .i64 vi) := hk2.cell 1
  have f2 : w2.cell? ⟨T, 2, none⟩ = some (.float .f64 vx) := hk2.cell 2
  obtain ⟨L0, hL0⟩ : ∃ L, ((PS.take (cn + i)).map fun x => Value.string (btS x)) = L := ⟨_, rfl⟩
  rw [hL0] at HTK HOW1
  clear hw2 hk2 hsz0 hL0 HOW HV
  go_wp2_with fail
  refine (HV2.out).mono ?_; rintro e w3 ⟨rfl, hb3⟩
  obtain ⟨T2, hT⟩ : ∃ T2, btS (valL (vr, vi, vx)) = T2 := ⟨_, rfl⟩
  rw [hT] at HTK ⊢
  have HB3 := Lib.hid (HB2.out.trans (hb3.mono hz2))
  have hz3 : N ≤ w3.heap.size := Nat.le_trans hz2 hb3.size
  have HOW3 := Lib.hid (own_below HOW1.out hb3 (Nat.le_refl _))
  clear hb3 hT f0 f1 f2 HOW1 HV2
  go_wp2_with (at_builtin; refine wpList_append_oneG (z := .string ByteArray.empty) (sz := 1) (bytes := 16) info_string rfl (by decide) Tryd.underlying23 rfl _ _ rfl w3 _ #[.string T2] N u3 (cn + i) L0 w3.heap.size rfl rfl rfl rfl HOW3.out (fun u hu => by simp at hu; subst hu; rfl) (by omega) (by unfold maxLen; omega) hz3 ?_)
  intro v' w4 h2 h3 h4
  have HOW4 : Hid (w4.ownsRow N 9 1 v' (cn + (i + 1)) ((PS.take (cn + (i + 1))).map fun x => Value.string (btS x))) := Lib.hid (by rw [show cn + (i + 1) = cn + i + 1 from by omega, HTK.out]; exact h2)
  have HB4 := Lib.hid (h4 w0 HB3.out)
  clear h2 h3 h4
  go_wp2_with fail
  go_roundg (vn - i - 1)
  case measure => have := HQ.out; omega
  case rel => exact ⟨i + 1, by go_num, by have := HQ.out; omega, HOW4.out, HB4.out⟩
 case neg =>
 obtain rfl : vn = i := by have := HQ.out; omega
 have hown := HOW.out
 rw [List.take_of_length_le (by rw [HPN.out]; exact Nat.le_refl _)] at hown
 obtain ⟨a3, c3, rfl⟩ := own_form hown
 have hjl : (Lib.join PS [32]).length ≤ 600200 := Nat.le_trans (join_le (K := 3000) (N := 200) HPL.out (by rw [HPN.out]; omega)) (by decide)
 have HJN := Lib.hid (join_own ⟨#[32]⟩ hown (by show (Lib.join PS [32]).length ≤ _; omega) (by rw [HPN.out]; omega))
 rw [show Lib.join PS (ByteArray.mk #[32]).data.toList = lineL cs vs from by unfold lineL; rw [HPS.out]] at HJN
 clear hown hjl HOW
 go_wp2_with fail
 refine HJN.out.mono ?_; rintro e w2 ⟨rfl, hb2⟩
 have HB2 := Lib.hid (HB.out.trans (hb2.mono hsz))
 clear hb2
 go_wp2_with fail
 go_ret
 exact ⟨rfl, by rw [HSS.out]; exact HBW.out.trans (HB2.out.mono (Nat.le_of_lt HLT.out))⟩
end Go.Proofs.YtkojcamlllenkaaDoor
/- The contract of package bushelref44's Line. Conditions: those stated. -/
namespace Go.Proofs.YtkojcamlllenkaaDoor
open Go.RowKit Ieee

theorem rint_is (x : Int) (w : World) (h0 : -9223372036854775808 ≤ x) (h1 : x ≤ 9223372036854775807) : Calls Tryd.prog 27 #[.int .i64 x] w fun e w' => e = .returned (.string (btS (Lib.itoa x))) ∧ Below w.heap.size w w' := by
 refine (rint_any x w h0 h1).mono ?_
 rintro e w' ⟨s, rfl, hs, hb⟩
 exact ⟨by rw [num_itoa hs], hb⟩
theorem rreal_is (b : Nat) (w : World) (hb : b < 18446744073709551616) : Calls Tryd.prog 28 #[.float .f64 b] w fun e w' => e = .returned (.string (btS (realT b))) ∧ Below w.heap.size w w' := by
 refine (rreal_txt b w hb).mono ?_
 rintro e w' ⟨s, rfl, hs, hbb⟩
 exact ⟨by rw [← realT_is hs], hbb⟩
theorem blanks_take {l : List (List UInt8)} {i : Nat} (h : i < l.length) : blanks (l.take (i + 1)) = blanks (l.take i) ++ (l.getD i [] ++ [32]) := by
 rw [List.take_add_one, List.getElem?_eq_getElem h, List.getD_eq_getElem?_getD, List.getElem?_eq_getElem h]
 exact blanks_snoc _ _
theorem bt_step (B : List UInt8) (x : List UInt8) : btS B ++ btS x ++ ⟨#[32]⟩ = btS (B ++ (x ++ [32])) := by
 rw [← btS_app, ← btS_app, ByteArray.append_assoc]
 rfl
theorem takes_le {K N : Nat} {l : List (List UInt8)} (i : Nat) (h : ∀ x ∈ l, x.length ≤ K) (hN : l.length ≤ N) : (blanks (l.take i)).length ≤ (K + 1) * N :=
 blanks_le (fun x hx => h x (List.mem_of_mem_take hx)) (Nat.le_trans (by rw [List.length_take]; exact Nat.min_le_right _ _) hN)

set_option maxHeartbeats 4000000 in
theorem rline_any (w : World) (l : RowL) (r : List Int × List (Bool × Int × Nat)) (h : RowAt w l r) (hc : l.cn ≤ 100) (hv : l.vn ≤ 100) :
  Calls Tryd.prog 13 #[l.val] w fun e w' => e = .returned (.string (btS (lineL r.1 r.2))) ∧ Below w.heap.size w w' := by
 obtain ⟨ca, cn, cc, va, vn, vc⟩ := l
 obtain ⟨cs, vs⟩ := r
 obtain ⟨hbx, hbw, hsz⟩ := boxed44 w 49 #[.slice ca cn cc, .slice va vn vc]
 have HRW := Lib.hid (h.below hbw (Nat.le_refl _))
 have HLC : Hid (cs.length = cn ∧ vs.length = vn) := Lib.hid ⟨h.1.1, h.2.2.1⟩
 have HPL := Lib.hid (pieces_le h.2.2.2.1 h.2.2.2.2)
 have HBW := Lib.hid hbw
 have e0 := hbx 0
 have e1 := hbx 1
 simp only [List.getElem?_toArray, List.getElem?_cons_zero, List.getElem?_cons_succ] at e0 e1
 have HE0 := Lib.hid e0
 have HE1 := Lib.hid e1
 simp only at hc hv
 unfold RowL.val
 dsimp only
 obtain ⟨N, hN⟩ : ∃ N, (w.alloc (.cells #[.slice ca cn cc, .slice va vn vc] 49)).heap.size = N := ⟨_, rfl⟩
 have HLT : Hid (w.heap.size < N) := Lib.hid (by rw [← hN, hsz]; omega)
 obtain ⟨PS, hPS⟩ : ∃ p, pieces cs vs = p := ⟨_, rfl⟩
 have HPS := Lib.hid hPS
 have HPN : Hid (PS.length = cn + vn) := Lib.hid (by rw [← hPS, pieces_len, HLC.out.1, HLC.out.2])
 rw [hPS] at HPL
 clear h hbx hbw hsz e0 e1 hPS
 go_enter Tryd.func13, Tryd.ntmps13
 go_upto_region 1 with fail
 generalize (w.alloc (.cells #[.slice ca cn cc, .slice va vn vc] 49)) = w0 at *
 obtain ⟨S, hS⟩ : ∃ S, w.heap.size = S := ⟨_, rfl⟩
 have HSS := Lib.hid hS
 rw [hS] at HBW HLT HE0 HE1
 have HN := Lib.hid hN
 clear hS hN
 rw [HSS.out]
 go_wp2_with fail
 go_loopg [3, 4] cn (fun q v iu wr => ∃ i : Nat, iu = .int .i64 i ∧ i + q = cn ∧ v = .string (btS (blanks (PS.take i))) ∧ Below N w0 wr)
 case atStart => exact ⟨0, rfl, by omega, rfl, Below.refl _ _⟩
 case round =>
 obtain ⟨i, rfl, hq, rfl, hb⟩ := hrel
 have HQ := Lib.hid hq
 have HB := Lib.hid hb
 have hsz : N ≤ wr.heap.size := by have := hb.size; rw [HN.out] at this; exact this
 have e0 : wr.cell? ⟨S, 0, none⟩ = some (.slice ca cn cc) := by rw [HB.out.cell (p := ⟨S, 0, none⟩) HLT.out]; exact HE0.out
 have hbl : (btS (blanks (PS.take i))).size ≤ 600200 := by rw [btS_size]; exact takes_le (K := 3000) (N := 200) i HPL.out (by rw [HPN.out]; omega)
 clear hq hb
 by_cases hlt : i < cn
 case pos =>
  obtain ⟨kb, ko, rfl, hkl, hkc⟩ := rowk_at (HRW.out.1.below HB.out (Nat.le_of_eq HN.out)) (by show 0 < cn; omega)
  have k0 := hkc i hlt
  have hil : i < cs.length := by rw [HLC.out.1]; exact hlt
  have hx := HRW.out.2.2.2.1 (cs.getD i 0) (geti_mem hil)
  have HTK := Lib.hid (blanks_take (l := PS) (i := i) (by rw [HPN.out]; omega))
  have HPC : Hid (PS.getD i [] = Lib.itoa (cs.getD i 0)) := Lib.hid (by rw [← HPS.out]; exact pieces_c cs vs hil)
  rw [HPC.out] at HTK
  obtain ⟨x, hxx⟩ : ∃ x, cs.getD i 0 = x := ⟨_, rfl⟩
  simp only at k0 hx
  rw [hxx] at k0 hx HTK
  have HI := Lib.hid (rint_is x wr hx.1 hx.2)
  have hil2 : (btS (Lib.itoa x)).size ≤ 21 := by rw [btS_size]; exact itoa_le2 hx.1 hx.2
  have HST := Lib.hid (bt_step (blanks (PS.take i)) (Lib.itoa x))
  rw [← HTK.out] at HST
  obtain ⟨A, hA⟩ : ∃ A, btS (blanks (PS.take i)) = A := ⟨_, rfl⟩
  obtain ⟨X, hX⟩ : ∃ A, btS (Lib.itoa x) = A := ⟨_, rfl⟩
  rw [hA] at hbl HST ⊢
  rw [hX] at hil2 HST HI
  clear hkc hxx hil hx HPC hkl hA hX HTK
  go_wp2_with fail
  refine (HI.out).mono ?_; rintro e w2 ⟨rfl, hb2⟩
  have HB2 := Lib.hid (HB.out.trans (hb2.mono hsz))
  clear hb2 k0 HI e0
  go_wp2_with fail
  rw [HST.out]
  go_roundg (cn - i - 1)
  case measure => have := HQ.out; omega
  case rel => exact ⟨i + 1, by go_num, by have := HQ.out; omega, rfl, HB2.out⟩
 case neg =>
 obtain rfl : cn = i := by have := HQ.out; omega
 obtain ⟨w1, rfl⟩ : ∃ x, x = wr := ⟨_, rfl⟩
 have HB1 := HB
 clear hlt HQ HB hsz hbl
 go_wp2_with fail
 clear e0
 go_loopg [3, 5] vn (fun q v iu wx => ∃ i : Nat, iu = .int .i64 i ∧ i + q = vn ∧ v = .string (btS (blanks (PS.take (cn + i)))) ∧ Below N w0 wx)
 case atStart => exact ⟨0, rfl, by omega, rfl, HB1.out⟩
 case round =>
 obtain ⟨i, rfl, hq, rfl, hb⟩ := hrel
 have HQ := Lib.hid hq
 have HB := Lib.hid hb
 have hsz : N ≤ wr.heap.size := by have := hb.size; rw [HN.out] at this; exact this
 have e1 : wr.cell? ⟨S, 1, none⟩ = some (.slice va vn vc) := by rw [HB.out.cell (p := ⟨S, 1, none⟩) HLT.out]; exact HE1.out
 have hbl : (btS (blanks (PS.take (cn + i)))).size ≤ 600200 := by rw [btS_size]; exact takes_le (K := 3000) (N := 200) (cn + i) HPL.out (by rw [HPN.out]; omega)
 clear hq hb HB1
 by_cases hlt : i < vn
 case pos =>
  obtain ⟨b, off, e, hbl2, hcl⟩ := (HRW.out.2.1.below HB.out (Nat.le_of_eq HN.out)).at (by show 0 < vn; omega)
  simp only at e
  subst e
  have c0 := hcl (i * 3) (by show i * 3 < vn * 3; omega)
  have c1 := hcl (i * 3 + 1) (by show i * 3 + 1 < vn * 3; omega)
  have c2 := hcl (i * 3 + 2) (by show i * 3 + 2 < vn * 3; omega)
  have hil : i < vs.length := by rw [HLC.out.2]; exact hlt
  obtain ⟨g0, g1, g2⟩ := valCells_get (vs := vs) (i := i) hil
  simp only at c0 c1 c2
  rw [g0] at c0
  rw [g1, ← Nat.add_assoc] at c1
  rw [g2, ← Nat.add_assoc] at c2
  have hok := HRW.out.2.2.2.2 (valAt vs i) (valAt_mem hil)
  have HTK := Lib.hid (blanks_take (l := PS) (i := cn + i) (by rw [HPN.out]; omega))
  have HPC : Hid (PS.getD (cn + i) [] = valL (valAt vs i)) := Lib.hid (by rw [← HPS.out, ← HLC.out.1]; exact pieces_v cs vs hil)
  rw [HPC.out] at HTK
  obtain ⟨⟨vr, vi, vx⟩, hvv⟩ : ∃ x, valAt vs i = x := ⟨_, rfl⟩
  rw [hvv] at c0 c1 c2 hok HTK
  simp only at c0 c1 c2
  have hvl : (btS (valL (vr, vi, vx))).size ≤ 3000 := by rw [btS_size]; exact valL_le hok
  have HST := Lib.hid (bt_step (blanks (PS.take (cn + i))) (valL (vr, vi, vx)))
  rw [← HTK.out] at HST
  have HI := Lib.hid (fun w => rint_is vi w hok.1.1 hok.1.2)
  have HRR := Lib.hid (fun w => rreal_is vx w hok.2)
  obtain ⟨A, hA⟩ : ∃ A, btS (blanks (PS.take (cn + i))) = A := ⟨_, rfl⟩
  rw [hA] at hbl HST ⊢
  clear hcl g0 g1 g2 hvv hil hok HPC hA HTK hbl2
  rcases vr with _ | _
  case false =>
   have HI2 : Hid (∀ w, Calls Tryd.prog 27 #[.int .i64 vi] w fun e w' => e = .returned (.string (btS (valL (false, vi, vx)))) ∧ Below w.heap.size w w') := Lib.hid HI.out
   obtain ⟨X, hX⟩ : ∃ A, btS (valL (false, vi, vx)) = A := ⟨_, rfl⟩
   rw [hX] at hvl HST HI2
   clear hX HI HRR
   go_wp2_with fail
   refine (HI2.out wr).mono ?_; rintro e w2 ⟨rfl, hb2⟩
   have HB2 := Lib.hid (HB.out.trans (hb2.mono hsz))
   clear hb2 HI2 e1 c0 c1 c2
   go_wp2_with fail
   rw [HST.out]
   go_roundg (vn - i - 1)
   case measure => have := HQ.out; omega
   case rel => exact ⟨i + 1, by go_num, by have := HQ.out; omega, rfl, HB2.out⟩
  case true =>
   have HI2 : Hid (∀ w, Calls Tryd.prog 28 #[.float .f64 vx] w fun e w' => e = .returned (.string (btS (valL (true, vi, vx)))) ∧ Below w.heap.size w w') := Lib.hid HRR.out
   obtain ⟨X, hX⟩ : ∃ A, btS (valL (true, vi, vx)) = A := ⟨_, rfl⟩
   rw [hX] at hvl HST HI2
   clear hX HI HRR
   go_wp2_with fail
   refine (HI2.out wr).mono ?_; rintro e w2 ⟨rfl, hb2⟩
   have HB2 := Lib.hid (HB.out.trans (hb2.mono hsz))
   clear hb2 HI2 e1 c0 c1 c2
   go_wp2_with fail
   rw [HST.out]
   go_roundg (vn - i - 1)
   case measure => have := HQ.out; omega
   case rel => exact ⟨i + 1, by go_num, by have := HQ.out; omega, rfl, HB2.out⟩
 case neg =>
 obtain rfl : vn = i := by have := HQ.out; omega
 have HALL : Hid (PS.take (cn + vn) = PS) := Lib.hid (List.take_of_length_le (by rw [HPN.out]; exact Nat.le_refl _))
 rw [HALL.out] at hbl ⊢
 have HCT := Lib.hid (blanks_cut PS)
 have HLN : Hid (lineL cs vs = Lib.join PS [32]) := Lib.hid (by unfold lineL; rw [HPS.out])
 by_cases h0 : PS = []
 case pos =>
  have HBE : Hid (btS (blanks PS) = ⟨#[]⟩) := Lib.hid (by rw [h0]; rfl)
  have HLE : Hid (btS (lineL cs vs) = ⟨#[]⟩) := Lib.hid (by rw [HLN.out, h0]; rfl)
  rw [HBE.out]
  clear h0 hbl
  go_wp2_with fail
  go_ret
  exact ⟨ret_st HLE.out.symm, by rw [HSS.out]; exact HBW.out.trans (HB.out.mono (Nat.le_of_lt HLT.out))⟩
 case neg =>
  have hpos : 0 < (btS (blanks PS)).size := by
   rw [btS_size]
   exact List.length_pos_iff.2 (fun e => h0 (blanks_nil.1 e))
  obtain ⟨B, hB⟩ : ∃ B, btS (blanks PS) = B := ⟨_, rfl⟩
  rw [hB] at hpos hbl HCT ⊢
  obtain ⟨k, hk⟩ : ∃ k, B.size = k + 1 := ⟨B.size - 1, by omega⟩
  rw [hk, Nat.add_sub_cancel] at HCT
  have HK := Lib.hid hk
  clear h0 hB
  go_wp2_with fail
  go_ret
  refine ⟨ret_st ?_, by rw [HSS.out]; exact HBW.out.trans (HB.out.mono (Nat.le_of_lt HLT.out))⟩
  rw [HLN.out, ← HCT.out]
end Go.Proofs.YtkojcamlllenkaaDoor
