/- What the reader of package parse goes past: a number, a name of a dimension, a name of a measure. Conditions: those stated. -/
import Derived.Test.YtaofjnidniekjaaParP
import Derived.Test.YtaofjnidniekjaaParF
import Derived.StillTailTactics
namespace Go.Proofs.Ytaofjnidniekjaa
open Go.RowKit

/-- a call's answer: a number, the reader further on; or the fault -/
def RNum (C : RC) (i : Nat) (w : World) (r : Except (Nat × Nat) (Nat × Int)) (e : Ending) (w' : World) : Prop :=
  match r with
  | .ok x => e = .returned (.int .i64 x.2) ∧ Mv C i x.1 w w'
  | .error f => Fails C f e w'

set_option maxRecDepth 100000 in
theorem pnumber_any (C : RC) (hC : C.Ok) (i : Nat) (hi : i < C.L.length) (w : World) (hR : RAt C i w) :
    Calls Try.prog 59 #[.pointer (some ⟨C.R, 0, none⟩)] w (RNum C i w (numT C.L i)) := by
  have HN := Lib.hid (next_any C hC i hi w hR)
  have HF : Hid (∀ w1, Mv C i i w w1 → Calls Try.prog 61 #[.pointer (some ⟨C.R, 0, none⟩), .int .i64 (6 : Int)] w1 (Fails C (i, 6))) := Lib.hid (fun w1 hm => fail_any C hC i hi 6 w1 (hR.mv hm))
  have HR := Lib.hid hR
  have hL : i ≤ 1001 := by have := hC.good.many; omega
  obtain ⟨r, hr⟩ : ∃ r, numT C.L i = r := ⟨_, rfl⟩
  rw [hr]
  unfold numT at hr
  obtain ⟨x, hx⟩ : ∃ x, tokAt C.L i = x := ⟨_, rfl⟩
  rw [hx] at HN hr
  clear hx hR
  obtain ⟨k, t, n, a⟩ := x
  unfold Tok.val at HN
  simp only at hr
  have HRR2 := Lib.hid hr
  clear hr
  obtain ⟨R, hRR⟩ : ∃ r, C.R = r := ⟨_, rfl⟩
  have HRR := Lib.hid hRR
  rw [hRR] at HN HF ⊢
  clear hRR
  go_enter Try.func59, Try.ntmps59
  go_wp2_with fail
  refine HN.out.mono ?_; rintro e w1 ⟨rfl, hm⟩
  have HM2 := Lib.hid (hm.alloc (.cells #[.int .i64 k, .string t, .int .i64 n, .int .i64 a] 30))
  obtain ⟨c5, f5⟩ := (HR.out.mv HM2.out).cells
  rw [HRR.out] at c5 f5
  clear hm HN
  by_cases hk : k = 3
  · subst hk
    have hfin := HM2.out.step
    rw [HRR.out] at hfin
    have HX := Lib.hid hfin
    have hr := HRR2.out
    rw [if_pos rfl] at hr
    subst hr
    clear hfin
    go_wp2_with fail
    go_ret
    exact ⟨rfl, HX.out⟩
  · have hr := HRR2.out
    rw [if_neg hk] at hr
    subst hr
    go_wp2_with fail
    refine (HF.out _ HM2.out).mono ?_; rintro e w2 ⟨rfl, hb2⟩
    have HB2 := Lib.hid hb2
    clear hb2
    go_wp2_with fail
    exact ⟨rfl, rfl, HB2.out⟩
/-- the next name's thing; the reader stays -/
def RName (C : RC) (i : Nat) (w : World) (e : Ending) (w' : World) : Prop :=
  ((tokAt C.L i).k = 2 ∧ e = .returned (.tuple #[.int .i64 (findS C.s (tokAt C.L i).t).1, .int .i64 (findS C.s (tokAt C.L i).t).2]) ∧ Mv C i i w w') ∨ ((tokAt C.L i).k ≠ 2 ∧ Fails C (i, 6) e w')

theorem lt_cell {w : World} {p : Addr} {v : Value} (h : w.cell? p = some v) : p.block < w.heap.size := by
  rcases Nat.lt_or_ge p.block w.heap.size with h1 | h1
  · exact h1
  · unfold World.cell? at h
    rw [Array.getElem?_eq_none h1] at h
    cases h
set_option maxRecDepth 100000 in
theorem pname_any (C : RC) (hC : C.Ok) (i : Nat) (hi : i < C.L.length) (w : World) (hR : RAt C i w) :
    Calls Try.prog 78 #[.pointer (some ⟨C.R, 0, none⟩)] w (RName C i w) := by
  have HN := Lib.hid (next_any C hC i hi w hR)
  have HF : Hid (∀ w1, Mv C i i w w1 → Calls Try.prog 61 #[.pointer (some ⟨C.R, 0, none⟩), .int .i64 (6 : Int)] w1 (Fails C (i, 6))) := Lib.hid (fun w1 hm => fail_any C hC i hi 6 w1 (hR.mv hm))
  have HR := Lib.hid hR
  obtain ⟨r, hr⟩ : ∃ r, RName C i w = r := ⟨_, rfl⟩
  rw [hr]
  have HRN := Lib.hid hr
  clear hr
  have HX : Hid (∃ x, tokAt C.L i = x) := Lib.hid ⟨_, rfl⟩
  obtain ⟨⟨k, t, n, a⟩, hx⟩ := HX.out
  have HXX := Lib.hid hx
  rw [hx] at HN
  clear hx hR HX
  unfold Tok.val at HN
  have HFI : Hid (∀ w1, Mv C i i w w1 → Calls Try.prog 81 #[C.l.val, .string t] w1 (RFind t C.s w1)) := Lib.hid (fun w1 hm => find_any w1 C.l C.s (hC.sch.below (HR.out.mv hm).1 (Nat.le_of_eq hC.size)) hC.chk t)
  unfold SchL.val at HFI
  have HCE : Hid (∀ w1, Mv C i i w w1 → w1.cell? ⟨C.R, 0, none⟩ = some (.slice C.l.ad C.l.nd C.l.cd) ∧ w1.cell? ⟨C.R, 1, none⟩ = some (.slice C.l.ai C.l.ni C.l.ci) ∧ w1.cell? ⟨C.R, 2, none⟩ = some (.slice C.l.an C.l.nn C.l.cn) ∧ w1.cell? ⟨C.R, 3, none⟩ = some (.slice C.l.av C.l.nv C.l.cv)) := Lib.hid (fun w1 hm => by
    obtain ⟨_, g, vf, vc, vo, m, hrd⟩ := HR.out.mv hm
    refine ⟨?_, ?_, ?_, ?_⟩ <;> (rw [Blk.cell hrd]; rfl))
  obtain ⟨R, hRR⟩ : ∃ r, C.R = r := ⟨_, rfl⟩
  obtain ⟨⟨ad, nd, cd, ai, ni, ci, an, nn, cn, av, nv, cv⟩, hLL⟩ : ∃ r, C.l = r := ⟨_, rfl⟩
  have HRR := Lib.hid hRR
  rw [hRR] at HN HF HCE ⊢
  rw [hLL] at HFI HCE
  clear hRR hLL
  simp only at HFI HCE
  go_enter Try.func78, Try.ntmps78
  go_wp2_with fail
  refine HN.out.mono ?_; rintro e w1 ⟨rfl, hm⟩
  have HM2 := Lib.hid (hm.alloc (.cells #[.int .i64 k, .string t, .int .i64 n, .int .i64 a] 30))
  clear hm HN
  by_cases hk : k = 2
  · subst hk
    obtain ⟨c0, c1, c2, c3⟩ := HCE.out _ HM2.out
    have t1 : (w1.alloc (.cells #[.int .i64 2, .string t, .int .i64 n, .int .i64 a] 30)).cell? ⟨w1.heap.size, 1, none⟩ = some (.string t) := (Blk.new w1 _ _).cell 1
    go_upto_region 4 with fail
    generalize (w1.alloc (.cells #[.int .i64 2, .string t, .int .i64 n, .int .i64 a] 30)) = w2 at *
    generalize w1.heap.size = S1 at *
    have HM3 := Lib.hid HM2.out.drew
    have HTK : Hid (∀ w4, Below w2.drew.heap.size w2.drew w4 → w4.cell? ⟨S1, 1, none⟩ = some (.string t)) := Lib.hid (fun w4 hb => by rw [hb.cell (p := ⟨S1, 1, none⟩) (lt_cell t1)]; exact t1)
    go_region_held3 (fun w' => w'.cell? ⟨R, 0, none⟩ = some (.slice ad nd cd) ∧ w'.cell? ⟨R, 1, none⟩ = some (.slice ai ni ci) ∧ w'.cell? ⟨R, 2, none⟩ = some (.slice an nn cn) ∧ w'.cell? ⟨R, 3, none⟩ = some (.slice av nv cv) ∧ w'.cell? ⟨S1, 1, none⟩ = some (.string t)) (go_keep)
      (first | (go_at_call 81; refine (HFI.out _ HM3.out).mono ?_; rintro e w4 ⟨rfl, hb⟩; have HM4 := Lib.hid (HM3.out.trans (Mv.of_below hb)); obtain ⟨c0', c1', c2', c3'⟩ := HCE.out _ HM4.out; have t1' := HTK.out _ hb; clear hb c0 c1 c2 c3 t1))
    all_goals
      clear c0' c1' c2' c3' t1'
      go_wp2_with fail
      rw [← HRN.out]
      exact .inl ⟨by rw [HXX.out], by rw [HXX.out]; rfl, HM4.out⟩
  · have HKK := Lib.hid hk
    go_wp2_with fail
    refine (HF.out _ HM2.out).mono ?_; rintro e w2 ⟨rfl, hb2⟩
    have HB2 := Lib.hid hb2
    clear hb2
    go_wp2_with fail
    rw [← HRN.out]
    refine ⟨rfl, .inr ⟨by rw [HXX.out]; exact HKK.out, rfl, HB2.out⟩⟩

/-- a call's answer: a place, the reader further on; or the fault -/
def RPlc (C : RC) (i : Nat) (w : World) (r : Except (Nat × Nat) (Nat × Nat)) (e : Ending) (w' : World) : Prop :=
  match r with
  | .ok x => e = .returned (.int .i64 (x.2 : Int)) ∧ Mv C i x.1 w w'
  | .error f => Fails C f e w'
theorem name_ne {names : List ByteArray} {L : List Tok} {i : Nat} (h : (tokAt L i).k ≠ 2) : nameS names L i = .error (i, 6) := by unfold nameS; rw [if_neg h]
theorem name_none {names : List ByteArray} {L : List Tok} {i : Nat} (h : (tokAt L i).k = 2) (h2 : place names (tokAt L i).t < 0) : nameS names L i = .error (i, 11) := by unfold nameS; rw [if_pos h, if_pos h2]
theorem name_some {names : List ByteArray} {L : List Tok} {i p : Nat} (h : (tokAt L i).k = 2) (h2 : place names (tokAt L i).t = p) : nameS names L i = .ok (i + 1, p) := by unfold nameS; rw [if_pos h, if_neg (by omega), h2]; rfl
theorem place_lt : ∀ {xs : List ByteArray} {s : ByteArray}, s ∈ xs → place xs s < xs.length
  | [], _, h => by cases h
  | x :: xs, s, h => by
    unfold place
    split
    · simp
    · rename_i hne
      rcases List.mem_cons.1 h with e | e
      · exact absurd e.symm hne
      · have := place_lt e
        have h2 := place_mem.2 e
        rw [if_neg (by omega)]
        simp; omega
theorem find_dim {s : Sch} {t : ByteArray} (h : (findS s t).1 = 1) : ∃ p : Nat, place (dimN s) t = p ∧ (findS s t).2 = p ∧ p < s.dims.length := by
  unfold findS at h ⊢
  split at h
  · rename_i h1
    rw [if_pos h1]
    have hm := place_mem.1 h1
    obtain ⟨p, hp⟩ : ∃ p : Nat, place (dimN s) t = p := ⟨(place (dimN s) t).toNat, by omega⟩
    have hl := place_lt (xs := dimN s) (s := t) hm
    refine ⟨p, hp, hp, ?_⟩
    unfold dimN at hl hp
    rw [List.length_map] at hl
    omega
  · split at h
    · exact absurd (show (2 : Int) = 1 from h) (by decide)
    · split at h
      · exact absurd (show (3 : Int) = 1 from h) (by decide)
      · exact absurd (show (0 : Int) = 1 from h) (by decide)
theorem find_nodim {s : Sch} {t : ByteArray} (h : (findS s t).1 ≠ 1) : place (dimN s) t < 0 := by
  unfold findS at h
  split at h
  · exact absurd rfl h
  · omega

set_option maxRecDepth 100000 in
theorem pdim_any (C : RC) (hC : C.Ok) (i : Nat) (hi : i < C.L.length) (w : World) (hR : RAt C i w) :
    Calls Try.prog 72 #[.pointer (some ⟨C.R, 0, none⟩)] w (RPlc C i w (nameS (dimN C.s) C.L i)) := by
  have HN := Lib.hid (pname_any C hC i hi w hR)
  have HF : Hid (∀ w1, Mv C i i w w1 → Calls Try.prog 61 #[.pointer (some ⟨C.R, 0, none⟩), .int .i64 (11 : Int)] w1 (Fails C (i, 11))) := Lib.hid (fun w1 hm => fail_any C hC i hi 11 w1 (hR.mv hm))
  have HR := Lib.hid hR
  have hL : i ≤ 1001 := by have := hC.good.many; omega
  obtain ⟨r, hr⟩ : ∃ r, RPlc C i w (nameS (dimN C.s) C.L i) = r := ⟨_, rfl⟩
  rw [hr]
  have HRN := Lib.hid hr
  clear hr hR
  obtain ⟨R, hRR⟩ : ∃ r, C.R = r := ⟨_, rfl⟩
  have HRR := Lib.hid hRR
  rw [hRR] at HN HF ⊢
  clear hRR
  go_enter Try.func72, Try.ntmps72
  go_wp2_with fail
  refine HN.out.mono ?_; rintro e w1 (⟨hk, rfl, hm⟩ | ⟨hk, rfl, hb⟩)
  · have HM := Lib.hid hm
    have HK := Lib.hid hk
    clear hm hk HN
    obtain ⟨p, hp⟩ : ∃ p, findS C.s (tokAt C.L i).t = p := ⟨_, rfl⟩
    rw [hp]
    have HP := Lib.hid hp
    obtain ⟨c5, f5⟩ := (HR.out.mv HM.out).cells
    rw [HRR.out] at c5 f5
    clear hp
    obtain ⟨k, p⟩ := p
    dsimp only
    by_cases hk : k = 1
    · subst hk
      obtain ⟨q, h1, h2, h3⟩ := find_dim (s := C.s) (t := (tokAt C.L i).t) (by rw [HP.out])
      have hpq : p = q := by rw [HP.out] at h2; exact h2
      subst hpq
      have HC := Lib.hid (name_some HK.out h1)
      have hfin := HM.out.step
      rw [HRR.out] at hfin
      have HX := Lib.hid hfin
      clear hfin h1 h2 h3
      go_wp2_with fail
      rw [← HRN.out, HC.out]
      exact ⟨rfl, HX.out⟩
    · have HC := Lib.hid (name_none HK.out (find_nodim (s := C.s) (t := (tokAt C.L i).t) (by rw [HP.out]; exact hk)))
      go_wp2_with fail
      refine (HF.out _ HM.out).mono ?_; rintro e w2 ⟨rfl, hb2⟩
      have HB2 := Lib.hid hb2
      clear hb2
      go_wp2_with fail
      rw [← HRN.out, HC.out]
      exact ⟨rfl, rfl, HB2.out⟩
  · have HC := Lib.hid (name_ne (names := dimN C.s) hk)
    have HB := Lib.hid hb
    clear hb hk HN
    go_wp2_with fail
    rw [← HRN.out, HC.out]
    exact ⟨rfl, rfl, HB.out⟩

theorem place_cons (x : ByteArray) (xs : List ByteArray) (s : ByteArray) : place (x :: xs) s = if x = s then 0 else if place xs s < 0 then -1 else place xs s + 1 := rfl
theorem place_append : ∀ (xs ys : List ByteArray) (s : ByteArray), place (xs ++ ys) s = if 0 ≤ place xs s then place xs s else if 0 ≤ place ys s then xs.length + place ys s else -1
  | [], ys, s => by
    have h := place_ge ys s
    rw [List.nil_append, show place [] s = -1 from rfl, if_neg (by decide)]
    split
    · simp
    · omega
  | x :: xs, ys, s => by
    have ih := place_append xs ys s
    have h1 := place_ge xs s
    have h2 := place_ge ys s
    rw [List.cons_append, place_cons, place_cons]
    by_cases he : x = s
    · rw [if_pos he, if_pos he, if_pos (by omega)]
    · rw [if_neg he, if_neg he, ih, List.length_cons]
      by_cases k1 : 0 ≤ place xs s
      · rw [if_pos k1, if_neg (by omega), if_pos (by omega)]
      · rw [if_neg k1, if_pos (show place xs s < 0 by omega), if_neg (show ¬ (0 : Int) ≤ -1 by decide)]
        by_cases k2 : 0 ≤ place ys s
        · rw [if_pos k2, if_neg (by omega), if_pos k2]; omega
        · rw [if_neg k2, if_pos (by decide), if_neg k2]
def measN (s : Sch) : List ByteArray := s.ints ++ s.nums
theorem find_meas {s : Sch} (hs : chkS s = 0) (t : ByteArray) :
    ((findS s t).1 = 3 ∧ 0 ≤ (findS s t).2 ∧ place (measN s) t = s.ints.length + (findS s t).2 ∧ (findS s t).2 < 2) ∨ ((findS s t).1 = 2 ∧ 0 ≤ (findS s t).2 ∧ place (measN s) t = (findS s t).2) ∨ ((findS s t).1 ≠ 3 ∧ (findS s t).1 ≠ 2 ∧ place (measN s) t < 0) := by
  have htw : twR s.names < 0 := by
    unfold chkS at hs
    split at hs
    · omega
    split at hs
    · omega
    split at hs
    · omega
    · omega
  have hcn := chk_dims hs
  unfold findS measN
  rw [place_append]
  by_cases h1 : 0 ≤ place (dimN s) t
  · rw [if_pos h1]
    refine .inr (.inr ⟨fun h => absurd (show (1 : Int) = 3 from h) (by decide), fun h => absurd (show (1 : Int) = 2 from h) (by decide), ?_⟩)
    have hm := place_mem.1 h1
    have hn : t ∉ s.ints ++ s.nums := by
      intro hm2
      rcases twR_is s.names with ⟨_, hd⟩ | ⟨k, hk, _⟩
      · obtain ⟨j, hj, e⟩ := mem_getDs hm2
        have hl : (dimN s).length + j < s.names.length := by
          unfold Sch.names dimN at *
          simp only [List.length_append, List.length_map] at *
          omega
        refine hd _ hl ?_
        have e1 : s.names = dimN s ++ (s.ints ++ s.nums) := by unfold Sch.names dimN; rw [List.append_assoc]
        rw [e1, List.getD_eq_getElem?_getD, List.getElem?_append_right (by omega), show (dimN s).length + j - (dimN s).length = j by omega, ← List.getD_eq_getElem?_getD, e, List.take_append]
        exact List.mem_append_left _ (by rw [List.take_of_length_le (by omega)]; exact hm)
      · rw [hk] at htw; omega
    rw [if_neg (fun h => hn (List.mem_append_left _ (place_mem.1 h))), if_neg (fun h => hn (List.mem_append_right _ (place_mem.1 h)))]
    decide
  · rw [if_neg h1]
    by_cases h2 : 0 ≤ place s.ints t
    · rw [if_pos h2, if_pos h2]
      exact .inr (.inl ⟨rfl, h2, rfl⟩)
    · rw [if_neg h2, if_neg h2]
      by_cases h3 : 0 ≤ place s.nums t
      · rw [if_pos h3, if_pos h3]
        refine .inl ⟨rfl, h3, rfl, ?_⟩
        have := place_lt (place_mem.1 h3)
        dsimp only; omega
      · rw [if_neg h3, if_neg h3]
        exact .inr (.inr ⟨fun h => absurd (show (0 : Int) = 3 from h) (by decide), fun h => absurd (show (0 : Int) = 2 from h) (by decide), by decide⟩)

set_option maxRecDepth 100000 in
theorem pmeasure_any (C : RC) (hC : C.Ok) (i : Nat) (hi : i < C.L.length) (w : World) (hR : RAt C i w) :
    Calls Try.prog 71 #[.pointer (some ⟨C.R, 0, none⟩)] w (RPlc C i w (nameS (measN C.s) C.L i)) := by
  have HN := Lib.hid (pname_any C hC i hi w hR)
  have HF : Hid (∀ w1, Mv C i i w w1 → Calls Try.prog 61 #[.pointer (some ⟨C.R, 0, none⟩), .int .i64 (11 : Int)] w1 (Fails C (i, 11))) := Lib.hid (fun w1 hm => fail_any C hC i hi 11 w1 (hR.mv hm))
  have HR := Lib.hid hR
  have hL : i ≤ 1001 := by have := hC.good.many; omega
  obtain ⟨r, hr⟩ : ∃ r, RPlc C i w (nameS (measN C.s) C.L i) = r := ⟨_, rfl⟩
  rw [hr]
  have HRN := Lib.hid hr
  have HCE : Hid (∀ w1, Mv C i i w w1 → w1.cell? ⟨C.R, 1, none⟩ = some (.slice C.l.ai C.l.ni C.l.ci)) := Lib.hid (fun w1 hm => by
    obtain ⟨_, g, vf, vc, vo, m, hrd⟩ := HR.out.mv hm
    rw [Blk.cell hrd]; rfl)
  have HNI : Hid (C.s.ints.length = C.l.ni) := Lib.hid hC.sch.2.2.1.1
  have hni : C.l.ni ≤ 3 := by have := (chk_dims hC.chk).2.2.1; rw [HNI.out] at this; exact this
  clear hr hR
  obtain ⟨R, hRR⟩ : ∃ r, C.R = r := ⟨_, rfl⟩
  obtain ⟨⟨ad, nd, cd, ai, ni, ci, an, nn, cn, av, nv, cv⟩, hLL⟩ : ∃ r, C.l = r := ⟨_, rfl⟩
  have HRR := Lib.hid hRR
  rw [hRR] at HN HF HCE ⊢
  rw [hLL] at HCE HNI hni
  simp only at HCE HNI hni
  clear hRR hLL
  go_enter Try.func71, Try.ntmps71
  go_wp2_with fail
  refine HN.out.mono ?_; rintro e w1 (⟨hk, rfl, hm⟩ | ⟨hk, rfl, hb⟩)
  · have HM := Lib.hid hm
    have HK := Lib.hid hk
    clear hm hk HN
    have HFM := Lib.hid (find_meas hC.chk (tokAt C.L i).t)
    obtain ⟨p, hp⟩ : ∃ p, findS C.s (tokAt C.L i).t = p := ⟨_, rfl⟩
    rw [hp] at HFM ⊢
    obtain ⟨c5, f5⟩ := (HR.out.mv HM.out).cells
    rw [HRR.out] at c5 f5
    have c1 := HCE.out _ HM.out
    have hfin := HM.out.step
    rw [HRR.out] at hfin
    have HX := Lib.hid hfin
    clear hp hfin
    obtain ⟨k, p⟩ := p
    dsimp only at HFM ⊢
    rcases HFM.out with ⟨rfl, h1, h2, h3⟩ | ⟨rfl, h1, h2⟩ | ⟨h1, h2, h3⟩
    · obtain ⟨q, rfl⟩ : ∃ q : Nat, p = q := ⟨p.toNat, by omega⟩
      have HC := Lib.hid (name_some (p := ni + q) HK.out (by rw [h2, HNI.out]; simp))
      have hw : (q : Int) + (ni : Int) ≤ 9223372036854775807 := by omega
      clear h1 h2 h3
      go_wp2_with fail
      rw [← HRN.out, HC.out]
      exact ⟨congrArg (fun z => Ending.returned (.int .i64 z)) (by simp; omega), HX.out⟩
    · obtain ⟨q, rfl⟩ : ∃ q : Nat, p = q := ⟨p.toNat, by omega⟩
      have HC := Lib.hid (name_some HK.out h2)
      clear h1 h2
      go_wp2_with fail
      rw [← HRN.out, HC.out]
      exact ⟨rfl, HX.out⟩
    · have HC := Lib.hid (name_none HK.out h3)
      clear h3
      go_wp2_with fail
      refine (HF.out _ HM.out).mono ?_; rintro e w2 ⟨rfl, hb2⟩
      have HB2 := Lib.hid hb2
      clear hb2
      go_wp2_with fail
      rw [← HRN.out, HC.out]
      exact ⟨rfl, rfl, HB2.out⟩
  · have HC := Lib.hid (name_ne (names := measN C.s) hk)
    have HB := Lib.hid hb
    clear hb hk HN
    go_wp2_with fail
    rw [← HRN.out, HC.out]
    exact ⟨rfl, rfl, HB.out⟩
end Go.Proofs.Ytaofjnidniekjaa
