/- The walk of the law LexBack: it answers true for every input. Condition: the text is no longer than Go's longest length. -/
import Derived.Test.YtaofjnidniekjaaLexH
import Derived.Test.YtaofjnidniekjaaLexI
import Derived.Laws.Concat
namespace Go.Proofs.Ytaofjnidniekjaa
open Go.RowKit

theorem told_take (sep : UInt8) {l : List Tok} {k : Nat} {x : Tok} (h : l[k]? = some x) : told sep (l.take (k + 1)) = told sep (l.take k) ++ x.t.data.toList ++ [sep] := by
  have hk : k < l.length := (List.getElem?_eq_some_iff.1 h).1
  have e : l[k] = x := (List.getElem?_eq_some_iff.1 h).2
  rw [List.take_succ_eq_append_getElem hk, told_append, e, told, told]
  simp
theorem sizes_take (l : List Tok) (k : Nat) : sizes (l.take k) ≤ sizes l := by
  have := sizes_append (l.take k) (l.drop k)
  rw [List.take_append_drop] at this; omega
theorem size_of {t : ByteArray} {sep : UInt8} {xs : List Tok} (h : t.data.toList = told sep xs) : t.size = sizes xs + xs.length := by
  have h1 : t.data.toList.length = t.size := by simp
  rw [← h1, h, told_len]
theorem tok_size {l : List Tok} {k : Nat} {x : Tok} (h : l[k]? = some x) : x.t.size ≤ sizes l := by
  have hk : k < l.length := (List.getElem?_eq_some_iff.1 h).1
  have e : l[k] = x := (List.getElem?_eq_some_iff.1 h).2
  have := sizes_append (l.take k) (l.drop k)
  rw [List.take_append_drop, List.drop_eq_getElem_cons hk, e, sizes] at this; omega
theorem core_get {m l : List Tok} (h : m.map core = l.map core) {k : Nat} {x : Tok} (hx : l[k]? = some x) : ∃ y, m[k]? = some y ∧ y.k = x.k ∧ y.t = x.t ∧ y.n = x.n := by
  have h1 : (m.map core)[k]? = (l.map core)[k]? := by rw [h]
  rw [List.getElem?_map, List.getElem?_map, hx] at h1
  cases hm : m[k]? with
  | none => rw [hm] at h1; simp at h1
  | some y =>
    rw [hm] at h1
    simp only [Option.map_some, Option.some.injEq] at h1
    unfold core at h1
    simp only [Prod.mk.injEq] at h1
    exact ⟨y, rfl, h1.1, h1.2.1, h1.2.2⟩

set_option maxHeartbeats 2000000 in
set_option maxRecDepth 100000 in
theorem walk_back (s : ByteArray) (feed : Bool) (w : World) (w0 : s.size ≤ maxLen) : Calls Try.prog 4 #[.string s, .bool feed] w fun e w' => e = .returned (.bool true) ∧ Below w.heap.size w w' := by
  have hmx : s.size ≤ 9223372036854775807 := by unfold maxLen at w0; omega
  go_enter Try.func4, Try.ntmps4
  go_wp2_with fail
  refine (ltok_any s _ w0).mono ?_; rintro e w1 hret
  rcases hret with ⟨l, v, hl, rfl, hown, hb⟩ | ⟨a, er, hl, her, rfl, hb⟩
  · have HB := Lib.hid hb
    have HOWN := Lib.hid hown
    have HL := Lib.hid hl
    clear hb hown hl
    by_cases h2000 : 2000 < s.size
    · obtain ⟨p1, c1, rfl⟩ := HOWN.out.form
      go_wp2_with fail
      refine (awakeL_any _).mono ?_; rintro e w3 ⟨rfl, hb3⟩
      go_wp2_with fail
      go_ret
      exact ⟨rfl, HB.out.trans (hb3.mono HB.out.size)⟩
    · obtain ⟨hkinds, hlen, hsizes⟩ := lex_kinds s l HL.out (by omega)
      have HK := Lib.hid hkinds
      obtain ⟨p1, c1, rfl⟩ := HOWN.out.form
      have h2k : ¬ (2000 < (s.size : Int)) := by omega
      have hsz2 : sizes l ≤ 2000 := by omega
      clear hkinds h2000 hsizes
      obtain ⟨sep, hsep⟩ : ∃ sep : UInt8, sep = if feed then 10 else 32 := ⟨_, rfl⟩
      have hbl : isBlank sep ∧ runB sep = false := by cases feed <;> subst hsep <;> decide
      obtain ⟨hb1, hb2⟩ := hbl
      have HSB := Lib.hid hb1
      have HSR := Lib.hid hb2
      have HSEP := Lib.hid hsep
      clear hb1 hb2 hsep
      go_wp2_with fail
      go_loopg [8, 9] l.length (fun g tt u wr => w1 = wr ∧ ∃ (k : Nat) (t : ByteArray), k + g = l.length ∧ u = .int .i64 k ∧ tt = .string t ∧ t.data.toList = told sep (l.take k))
      case atStart => exact ⟨rfl, 0, ⟨#[]⟩, by omega, rfl, rfl, rfl⟩
      case round =>
        obtain ⟨rfl, k, t, hk, rfl, rfl, ht⟩ := hrel
        have HKG := Lib.hid hk
        have HT := Lib.hid ht
        have htsz : t.size ≤ 4000 := by
          have := size_of ht
          have := sizes_take l k
          have : (l.take k).length ≤ l.length := by rw [List.length_take]; omega
          omega
        clear hk ht
        by_cases hlt : k < l.length
        · obtain ⟨x, hx⟩ : ∃ x, l[k]? = some x := ⟨_, List.getElem?_eq_getElem hlt⟩
          obtain ⟨g1, e1, -, -, h1⟩ := HOWN.out.cell hx
          have a1 : w1.cell? ⟨g1, k * 4 + 1, none⟩ = some (.string x.t) := h1 1 _ rfl
          have hxs := tok_size hx
          have HTT := Lib.hid (told_take sep hx)
          have i0 : (0 : Int) ≤ (k : Int) := by omega
          have i1 : (k : Int) < (l.length : Int) := by omega
          subst e1
          have hadd1 : ∀ w : World, (Op.stringOp .add t x.t).run Try.prog w = .ok (.string (t ++ x.t)) w := fun w => run_string_add_sum w _ _ (by omega)
          have hadd2 : ∀ w : World, (Op.stringOp .add (t ++ x.t) ⟨#[32]⟩).run Try.prog w = .ok (.string (t ++ x.t ++ ⟨#[32]⟩)) w := fun w => run_string_add_sum w _ _ (by rw [ByteArray.size_append]; show t.size + x.t.size + 1 ≤ _; omega)
          have hadd3 : ∀ w : World, (Op.stringOp .add (t ++ x.t) ⟨#[10]⟩).run Try.prog w = .ok (.string (t ++ x.t ++ ⟨#[10]⟩)) w := fun w => run_string_add_sum w _ _ (by rw [ByteArray.size_append]; show t.size + x.t.size + 1 ≤ _; omega)
          clear h1 hx hxs
          cases feed
          · have hsp : sep = 32 := HSEP.out
            have HSP := Lib.hid hsp
            clear hsp
            go_wp2_with fail
            go_roundg (gk - 1)
            case measure => have := HKG.out; omega
            case rel => exact ⟨rfl, k + 1, _, by have := HKG.out; omega, by go_num, rfl, by rw [HTT.out, ← HT.out, HSP.out]; simp⟩
          · have hsp : sep = 10 := HSEP.out
            have HSP := Lib.hid hsp
            clear hsp
            go_wp2_with fail
            go_roundg (gk - 1)
            case measure => have := HKG.out; omega
            case rel => exact ⟨rfl, k + 1, _, by have := HKG.out; omega, by go_num, rfl, by rw [HTT.out, ← HT.out, HSP.out]; simp⟩
        · have hkl : k = l.length := by have := HKG.out; omega
          have htt : t.data.toList = told sep l := by rw [HT.out, hkl, List.take_length]
          obtain ⟨m, hm, hcore⟩ := lex_back s l sep HSB.out HSR.out HL.out (by omega) t htt
          have HM := Lib.hid hm
          have HC := Lib.hid hcore
          have hml : m.length = l.length := by
            have := congrArg List.length hcore
            rwa [List.length_map, List.length_map] at this
          have HML := Lib.hid hml
          clear hm hcore hml htt hkl
          go_wp2_with fail
          refine (ltok_any t _ (by unfold maxLen; omega)).mono ?_; rintro e w2 hret2
          rcases hret2 with ⟨m2, v2, hm2, rfl, hown2, hb2⟩ | ⟨a, er, hm2, _⟩
          · have hmm : m2 = m := by
              have h := HM.out
              rw [hm2] at h
              injection h
            subst hmm
            rw [HML.out] at hown2
            have HB2 := Lib.hid (HB.out.trans (hb2.mono HB.out.size))
            have HO1 := Lib.hid (HOWN.out.below hb2 (Nat.le_refl _))
            have HO2 := Lib.hid hown2
            obtain ⟨p2, c2, rfl⟩ := HO2.out.form
            have heq : ((l.length : Int) != (l.length : Int)) = false := by simp
            clear hb2 hown2 HB HOWN hm2 HM HT
            go_wp2_with fail
            go_loopg [13] l.length (fun g u wr => ∃ k : Nat, k + g = l.length ∧ u = .int .i64 k ∧ OwnT wr w.heap.size 30 (.slice p1 l.length c1) l.length l ∧ OwnT wr w1.heap.size 30 (.slice p2 l.length c2) l.length m2 ∧ Below w.heap.size w wr)
            case atStart => exact ⟨0, by omega, rfl, HO1.out, HO2.out, HB2.out⟩
            case round =>
              obtain ⟨k, hk, rfl, ho1, ho2, hbl⟩ := hrel
              have HKG := Lib.hid hk
              have HP1 := Lib.hid ho1
              have HP2 := Lib.hid ho2
              have HBL := Lib.hid hbl
              clear hk ho1 ho2 hbl HO1 HO2 HB2
              by_cases hlt : k < l.length
              · obtain ⟨x, hx⟩ : ∃ x, l[k]? = some x := ⟨_, List.getElem?_eq_getElem hlt⟩
                obtain ⟨y, hy, hyk, hyt, hyn⟩ := core_get HC.out hx
                obtain ⟨g1, e1, hc1, hg1, h1⟩ := HP1.out.cell hx
                obtain ⟨g2, e2, hc2, hg2, h2⟩ := HP2.out.cell hy
                subst e1
                subst e2
                have hkd := HK.out x (List.mem_of_getElem? hx)
                have a0 : wr.cell? ⟨g1, k * 4, none⟩ = some (.int .i64 x.k) := h1 0 _ rfl
                have a1 : wr.cell? ⟨g1, k * 4 + 1, none⟩ = some (.string x.t) := h1 1 _ rfl
                have a2 : wr.cell? ⟨g1, k * 4 + 2, none⟩ = some (.int .i64 x.n) := h1 2 _ rfl
                have a3 : wr.cell? ⟨g1, k * 4 + 3, none⟩ = some (.int .i64 x.a) := h1 3 _ rfl
                have b0 : wr.cell? ⟨g2, k * 4, none⟩ = some (.int .i64 x.k) := by rw [← hyk]; exact h2 0 _ rfl
                have b1 : wr.cell? ⟨g2, k * 4 + 1, none⟩ = some (.string x.t) := by rw [← hyt]; exact h2 1 _ rfl
                have b2 : wr.cell? ⟨g2, k * 4 + 2, none⟩ = some (.int .i64 x.n) := by rw [← hyn]; exact h2 2 _ rfl
                obtain ⟨xk, xt, xn, xa⟩ := x
                dsimp only at a0 a1 a2 a3 b0 b1 b2 hkd
                obtain ⟨q, rfl, hq4⟩ : ∃ q : Nat, xk = (q : Int) ∧ q ≤ 4 := by
                  rcases hkd with rfl | rfl | rfl | rfl | rfl
                  · exact ⟨0, rfl, by omega⟩
                  · exact ⟨1, rfl, by omega⟩
                  · exact ⟨2, rfl, by omega⟩
                  · exact ⟨3, rfl, by omega⟩
                  · exact ⟨4, rfl, by omega⟩
                clear hkd
                obtain ⟨r, hr⟩ : ∃ r, kindS (q : Int) = r := ⟨_, rfl⟩
                have hcells : (#[.string ⟨#[101, 110, 100]⟩, .string ⟨#[119, 111, 114, 100]⟩, .string ⟨#[110, 97, 109, 101]⟩, .string ⟨#[110, 117, 109, 98, 101, 114]⟩, .string ⟨#[115, 105, 103, 110]⟩] : Array Value)[q]? = some (.string r) := by
                  rw [← hr]
                  rcases (by omega : q = 0 ∨ q = 1 ∨ q = 2 ∨ q = 3 ∨ q = 4) with rfl | rfl | rfl | rfl | rfl <;> rfl
                have HR := Lib.hid hr
                have hnew : ∀ W : World, (W.alloc (.cells #[.string ⟨#[101, 110, 100]⟩, .string ⟨#[119, 111, 114, 100]⟩, .string ⟨#[110, 97, 109, 101]⟩, .string ⟨#[110, 117, 109, 98, 101, 114]⟩, .string ⟨#[115, 105, 103, 110]⟩] 9)).cell? ⟨W.heap.size, q, none⟩ = some (.string r) := fun W => by rw [cell_of_row _ _ _ _ _ (0, 0) (heap_alloc_new W _)]; exact hcells
                have HNEW := Lib.hid hnew
                clear hr hnew
                have e0 : ((q : Int) != (q : Int)) = false := by simp
                have e1 : (xt.toList == xt.toList) = true := by simp
                have e2 : (xn != xn) = false := by simp
                have e3 : (r.toList == r.toList) = true := by simp
                have i0 : (0 : Int) ≤ (k : Int) := by omega
                have i1 : (k : Int) < (l.length : Int) := by omega
                have i2 : (0 : Int) ≤ (q : Int) := by omega
                have i3 : (q : Int) < 5 := by omega
                have hbA : Below wr.heap.size wr wr.drew := (Below.refl _ _).drew
                clear h1 h2 hx hy hyk hyt hyn hq4
                go_wp2_with fail
                refine wp_region_noPanic ?_
                refine wp_region_held_drew (S := fun w' => w'.cell? ⟨g1, k * 4, none⟩ = some (.int .i64 (q : Int)) ∧ w'.cell? ⟨g1, k * 4 + 1, none⟩ = some (.string xt) ∧ w'.cell? ⟨g1, k * 4 + 2, none⟩ = some (.int .i64 xn) ∧ w'.cell? ⟨g1, k * 4 + 3, none⟩ = some (.int .i64 xa) ∧ w'.cell? ⟨g2, k * 4, none⟩ = some (.int .i64 (q : Int)) ∧ w'.cell? ⟨g2, k * 4 + 1, none⟩ = some (.string xt) ∧ w'.cell? ⟨g2, k * 4 + 2, none⟩ = some (.int .i64 xn)) (by kernel_rfl) (by exact ⟨a0, a1, a2, a3, b0, b1, b2⟩) (fun hHeld => ?_)
                refine wpAnyH_take (i := 0) (oi := ⟨some 67, _, _, _, _, _⟩) (v := ?_) rfl (by kernel_rfl) (by kernel_rfl) (by kernel_rfl) (fun _ _ _ h => h) (Or.inl ⟨by rfl, ?_⟩) (by assumption) ?_
                rotate_left 1
                · (intro w hSw; (try dsimp only at hSw); go_simp; try with_reducible rfl)
                try simp only [Act.put, List.setIfInBounds_toArray, List.set_cons_zero, List.set_cons_succ]
                refine wpAnyH_take (i := 1) (oi := ⟨some 68, _, _, _, _, _⟩) (v := ?_) rfl (by kernel_rfl) (by kernel_rfl) (by kernel_rfl) (fun _ _ _ h => h) (Or.inl ⟨by rfl, ?_⟩) (by assumption) ?_
                rotate_left 1
                · (intro w hSw; (try dsimp only at hSw); go_simp; try with_reducible rfl)
                try simp only [Act.put, List.setIfInBounds_toArray, List.set_cons_zero, List.set_cons_succ]
                refine wpAnyH_take (i := 2) (oi := ⟨some 69, _, _, _, _, _⟩) (v := ?_) rfl (by kernel_rfl) (by kernel_rfl) (by kernel_rfl) (fun _ _ _ h => h) (Or.inl ⟨by rfl, ?_⟩) (by assumption) ?_
                rotate_left 1
                · (intro w hSw; (try dsimp only at hSw); go_simp; try with_reducible rfl)
                try simp only [Act.put, List.setIfInBounds_toArray, List.set_cons_zero, List.set_cons_succ]
                refine wpAnyH_take (i := 3) (oi := ⟨some 70, _, _, _, _, _⟩) (v := ?_) rfl (by kernel_rfl) (by kernel_rfl) (by kernel_rfl) (fun _ _ _ h => h) (Or.inl ⟨by rfl, ?_⟩) (by assumption) ?_
                rotate_left 1
                · (intro w hSw; (try dsimp only at hSw); go_simp; try with_reducible rfl)
                try simp only [Act.put, List.setIfInBounds_toArray, List.set_cons_zero, List.set_cons_succ]
                refine wpAnyH_take (i := 4) (oi := ⟨some 71, _, _, _, _, _⟩) (v := ?_) rfl (by kernel_rfl) (by kernel_rfl) (by kernel_rfl) (fun _ _ _ h => h) (Or.inl ⟨by rfl, ?_⟩) (by assumption) ?_
                rotate_left 1
                · (intro w hSw; (try dsimp only at hSw); go_simp; try with_reducible rfl)
                try simp only [Act.put, List.setIfInBounds_toArray, List.set_cons_zero, List.set_cons_succ]
                refine wpAnyH_take (i := 5) (oi := ⟨some 72, _, _, _, _, _⟩) (v := ?_) rfl (by kernel_rfl) (by kernel_rfl) (by kernel_rfl) (fun _ _ _ h => h) (Or.inl ⟨by rfl, ?_⟩) (by assumption) ?_
                rotate_left 1
                · (intro w hSw; (try dsimp only at hSw); go_simp; try with_reducible rfl)
                try simp only [Act.put, List.setIfInBounds_toArray, List.set_cons_zero, List.set_cons_succ]
                refine wpAnyH_take (i := 6) (oi := ⟨some 73, _, _, _, _, _⟩) (v := ?_) rfl (by kernel_rfl) (by kernel_rfl) (by kernel_rfl) (fun _ _ _ h => h) (Or.inl ⟨by rfl, ?_⟩) (by assumption) ?_
                rotate_left 1
                · (intro w hSw; (try dsimp only at hSw); go_simp; try with_reducible rfl)
                try simp only [Act.put, List.setIfInBounds_toArray, List.set_cons_zero, List.set_cons_succ]
                refine wpAnyH_take (i := 7) (oi := ⟨some 74, _, _, _, _, _⟩) (v := ?_) rfl (by kernel_rfl) (by kernel_rfl) (by kernel_rfl) (fun _ _ _ h => h) (Or.inl ⟨by rfl, ?_⟩) (by assumption) ?_
                rotate_left 1
                · (intro w hSw; (try dsimp only at hSw); go_simp; try with_reducible rfl)
                try simp only [Act.put, List.setIfInBounds_toArray, List.set_cons_zero, List.set_cons_succ]
                refine wpAnyH_take (i := 8) (oi := ⟨some 75, _, _, _, _, _⟩) (v := ?_) rfl (by kernel_rfl) (by kernel_rfl) (by kernel_rfl) (fun _ _ _ h => h) (Or.inl ⟨by rfl, ?_⟩) (by assumption) ?_
                rotate_left 1
                · (intro w hSw; (try dsimp only at hSw); go_simp; try with_reducible rfl)
                try simp only [Act.put, List.setIfInBounds_toArray, List.set_cons_zero, List.set_cons_succ]
                refine wpAnyH_take (i := 9) (oi := ⟨some 76, _, _, _, _, _⟩) (v := ?_) rfl (by kernel_rfl) (by kernel_rfl) (by kernel_rfl) (fun _ _ _ h => h) (Or.inl ⟨by rfl, ?_⟩) (by assumption) ?_
                rotate_left 1
                · (intro w hSw; (try dsimp only at hSw); go_simp; try with_reducible rfl)
                try simp only [Act.put, List.setIfInBounds_toArray, List.set_cons_zero, List.set_cons_succ]
                refine wpAnyH_take (i := 10) (oi := ⟨some 77, _, _, _, _, _⟩) (v := ?_) rfl (by kernel_rfl) (by kernel_rfl) (by kernel_rfl) (fun _ _ _ h => h) (Or.inl ⟨by rfl, ?_⟩) (by assumption) ?_
                rotate_left 1
                · (intro w hSw; (try dsimp only at hSw); go_simp; try with_reducible rfl)
                try simp only [Act.put, List.setIfInBounds_toArray, List.set_cons_zero, List.set_cons_succ]
                refine wpAnyH_take (i := 11) (oi := ⟨some 78, _, _, _, _, _⟩) (v := ?_) rfl (by kernel_rfl) (by kernel_rfl) (by kernel_rfl) (fun _ _ _ h => h) (Or.inl ⟨by rfl, ?_⟩) (by assumption) ?_
                rotate_left 1
                · (intro w hSw; (try dsimp only at hSw); go_simp; try with_reducible rfl)
                try simp only [Act.put, List.setIfInBounds_toArray, List.set_cons_zero, List.set_cons_succ]
                refine wpAnyH_take (i := 12) (oi := ⟨some 79, _, _, _, _, _⟩) (v := ?_) rfl (by kernel_rfl) (by kernel_rfl) (by kernel_rfl) (fun _ _ _ h => h) (Or.inl ⟨by rfl, ?_⟩) (by assumption) ?_
                rotate_left 1
                · (intro w hSw; (try dsimp only at hSw); go_simp; try with_reducible rfl)
                try simp only [Act.put, List.setIfInBounds_toArray, List.set_cons_zero, List.set_cons_succ]
                refine wpAnyH_take (i := 13) (oi := ⟨some 80, _, _, _, _, _⟩) (v := ?_) rfl (by kernel_rfl) (by kernel_rfl) (by kernel_rfl) (fun _ _ _ h => h) (Or.inl ⟨by rfl, ?_⟩) (by assumption) ?_
                rotate_left 1
                · (intro w hSw; (try dsimp only at hSw); go_simp; try with_reducible rfl)
                try simp only [Act.put, List.setIfInBounds_toArray, List.set_cons_zero, List.set_cons_succ]
                refine wpAnyH_take (i := 14) (oi := ⟨some 81, _, _, _, _, _⟩) (v := ?_) rfl (by kernel_rfl) (by kernel_rfl) (by kernel_rfl) (fun _ _ _ h => h) (Or.inl ⟨by rfl, ?_⟩) (by assumption) ?_
                rotate_left 1
                · (intro w hSw; (try dsimp only at hSw); go_simp; try with_reducible rfl)
                try simp only [Act.put, List.setIfInBounds_toArray, List.set_cons_zero, List.set_cons_succ]
                refine wpAnyH_take (i := 15) (oi := ⟨some 82, _, _, _, _, _⟩) (v := ?_) rfl (by kernel_rfl) (by kernel_rfl) (by kernel_rfl) (fun _ _ _ h => h) (Or.inl ⟨by rfl, ?_⟩) (by assumption) ?_
                rotate_left 1
                · (intro w hSw; (try dsimp only at hSw); go_simp; try with_reducible rfl)
                try simp only [Act.put, List.setIfInBounds_toArray, List.set_cons_zero, List.set_cons_succ]
                refine wpAnyH_take (i := 16) (oi := ⟨some 83, _, _, _, _, _⟩) (v := ?_) rfl (by kernel_rfl) (by kernel_rfl) (by kernel_rfl) (fun _ _ _ h => h) (Or.inl ⟨by rfl, ?_⟩) (by assumption) ?_
                rotate_left 1
                · (intro w hSw; (try dsimp only at hSw); go_simp; try with_reducible rfl)
                try simp only [Act.put, List.setIfInBounds_toArray, List.set_cons_zero, List.set_cons_succ]
                refine wpAnyH_take (i := 17) (oi := ⟨some 84, _, _, _, _, _⟩) (v := ?_) rfl (by kernel_rfl) (by kernel_rfl) (by kernel_rfl) (fun _ _ _ h => h) (Or.inl ⟨by rfl, ?_⟩) (by assumption) ?_
                rotate_left 1
                · (intro w hSw; (try dsimp only at hSw); go_simp; try with_reducible rfl)
                try simp only [Act.put, List.setIfInBounds_toArray, List.set_cons_zero, List.set_cons_succ]
                refine wpAnyH_take (i := 18) (oi := ⟨some 85, _, _, _, _, _⟩) (v := ?_) rfl (by kernel_rfl) (by kernel_rfl) (by kernel_rfl) (fun _ _ _ h => h) (Or.inl ⟨by rfl, ?_⟩) (by assumption) ?_
                rotate_left 1
                · (intro w hSw; (try dsimp only at hSw); go_simp; try with_reducible rfl)
                try simp only [Act.put, List.setIfInBounds_toArray, List.set_cons_zero, List.set_cons_succ]
                refine wpAnyH_take (i := 19) (oi := ⟨some 86, _, _, _, _, _⟩) (v := ?_) rfl (by kernel_rfl) (by kernel_rfl) (by kernel_rfl) (fun _ _ _ h => h) (Or.inl ⟨by rfl, ?_⟩) (by assumption) ?_
                rotate_left 1
                · (intro w hSw; (try dsimp only at hSw); go_simp; try with_reducible rfl)
                try simp only [Act.put, List.setIfInBounds_toArray, List.set_cons_zero, List.set_cons_succ]
                refine wpAnyH_take (i := 20) (oi := ⟨some 87, _, _, _, _, _⟩) (v := ?_) rfl (by kernel_rfl) (by kernel_rfl) (by kernel_rfl) (fun _ _ _ h => h) (Or.inl ⟨by rfl, ?_⟩) (by assumption) ?_
                rotate_left 1
                · (intro w hSw; (try dsimp only at hSw); go_simp; try with_reducible rfl)
                try simp only [Act.put, List.setIfInBounds_toArray, List.set_cons_zero, List.set_cons_succ]
                refine wpAnyH_take (i := 21) (oi := ⟨some 88, _, _, _, _, _⟩) (v := ?_) rfl (by kernel_rfl) (by kernel_rfl) (by kernel_rfl) (fun _ _ _ h => h) (Or.inl ⟨by rfl, ?_⟩) (by assumption) ?_
                rotate_left 1
                · (intro w hSw; (try dsimp only at hSw); go_simp; try with_reducible rfl)
                try simp only [Act.put, List.setIfInBounds_toArray, List.set_cons_zero, List.set_cons_succ]
                refine wpAnyH_take (i := 22) (oi := ⟨some 89, _, _, _, _, _⟩) (v := ?_) rfl (by kernel_rfl) (by kernel_rfl) (by kernel_rfl) (fun _ _ _ h => h) (Or.inl ⟨by rfl, ?_⟩) (by assumption) ?_
                rotate_left 1
                · (intro w hSw; (try dsimp only at hSw); go_simp; try with_reducible rfl)
                try simp only [Act.put, List.setIfInBounds_toArray, List.set_cons_zero, List.set_cons_succ]
                refine wpAnyH_take (i := 23) (oi := ⟨some 90, _, _, _, _, _⟩) (v := ?_) rfl (by kernel_rfl) (by kernel_rfl) (by kernel_rfl) (fun _ _ _ h => h) (Or.inl ⟨by rfl, ?_⟩) (by assumption) ?_
                rotate_left 1
                · (intro w hSw; (try dsimp only at hSw); go_simp; try with_reducible rfl)
                try simp only [Act.put, List.setIfInBounds_toArray, List.set_cons_zero, List.set_cons_succ]
                refine wpAnyH_take (i := 24) (oi := ⟨some 91, _, _, _, _, _⟩) (v := ?_) rfl (by kernel_rfl) (by kernel_rfl) (by kernel_rfl) (fun _ _ _ h => h) (Or.inl ⟨by rfl, ?_⟩) (by assumption) ?_
                rotate_left 1
                · (intro w hSw; (try dsimp only at hSw); go_simp; try with_reducible rfl)
                try simp only [Act.put, List.setIfInBounds_toArray, List.set_cons_zero, List.set_cons_succ]
                refine wpAnyH_take (i := 25) (oi := ⟨some 92, _, _, _, _, _⟩) (v := ?_) rfl (by kernel_rfl) (by kernel_rfl) (by kernel_rfl) (fun _ _ _ h => h) (Or.inl ⟨by rfl, ?_⟩) (by assumption) ?_
                rotate_left 1
                · (intro w hSw; (try dsimp only at hSw); go_simp; try with_reducible rfl)
                try simp only [Act.put, List.setIfInBounds_toArray, List.set_cons_zero, List.set_cons_succ]
                refine wpAnyH_take (i := 26) (oi := ⟨some 93, _, _, _, _, _⟩) (v := ?_) rfl (by kernel_rfl) (by kernel_rfl) (by kernel_rfl) (fun _ _ _ h => h) (Or.inl ⟨by rfl, ?_⟩) (by assumption) ?_
                rotate_left 1
                · (intro w hSw; (try dsimp only at hSw); go_simp; try with_reducible rfl)
                try simp only [Act.put, List.setIfInBounds_toArray, List.set_cons_zero, List.set_cons_succ]
                refine wpAnyH_take (i := 27) (oi := ⟨some 94, _, _, _, _, _⟩) (v := ?_) rfl (by kernel_rfl) (by kernel_rfl) (by kernel_rfl) (fun _ _ _ h => h) (Or.inl ⟨by rfl, ?_⟩) (by assumption) ?_
                rotate_left 1
                · (intro w hSw; (try dsimp only at hSw); go_simp; try with_reducible rfl)
                try simp only [Act.put, List.setIfInBounds_toArray, List.set_cons_zero, List.set_cons_succ]
                refine wpAnyH_take (i := 28) (oi := ⟨some 95, _, _, _, _, _⟩) (v := ?_) rfl (by kernel_rfl) (by kernel_rfl) (by kernel_rfl) (fun _ _ _ h => h) (Or.inl ⟨by rfl, ?_⟩) (by assumption) ?_
                rotate_left 1
                · (intro w hSw; (try dsimp only at hSw); go_simp; try with_reducible rfl)
                try simp only [Act.put, List.setIfInBounds_toArray, List.set_cons_zero, List.set_cons_succ]
                refine wpAnyH_take (i := 29) (oi := ⟨some 96, _, _, _, _, _⟩) (v := ?_) rfl (by kernel_rfl) (by kernel_rfl) (by kernel_rfl) (fun _ _ _ h => h) (Or.inl ⟨by rfl, ?_⟩) (by assumption) ?_
                rotate_left 1
                · (intro w hSw; (try dsimp only at hSw); go_simp; try with_reducible rfl)
                try simp only [Act.put, List.setIfInBounds_toArray, List.set_cons_zero, List.set_cons_succ]
                refine wpAnyH_take (i := 30) (oi := ⟨some 97, _, _, _, _, _⟩) (v := ?_) rfl (by kernel_rfl) (by kernel_rfl) (by kernel_rfl) (fun _ _ _ h => h) (Or.inl ⟨by rfl, ?_⟩) (by assumption) ?_
                rotate_left 1
                · (intro w hSw; (try dsimp only at hSw); go_simp; try with_reducible rfl)
                try simp only [Act.put, List.setIfInBounds_toArray, List.set_cons_zero, List.set_cons_succ]
                refine wpAnyH_take (i := 31) (oi := ⟨some 98, _, _, _, _, _⟩) (v := ?_) rfl (by kernel_rfl) (by kernel_rfl) (by kernel_rfl) (fun _ _ _ h => h) (Or.inl ⟨by rfl, ?_⟩) (by assumption) ?_
                rotate_left 1
                · (intro w hSw; (try dsimp only at hSw); go_simp; try with_reducible rfl)
                try simp only [Act.put, List.setIfInBounds_toArray, List.set_cons_zero, List.set_cons_succ]
                refine wpAnyH_take (i := 32) (oi := ⟨some 99, _, _, _, _, _⟩) (v := ?_) rfl (by kernel_rfl) (by kernel_rfl) (by kernel_rfl) (fun _ _ _ h => h) (Or.inl ⟨by rfl, ?_⟩) (by assumption) ?_
                rotate_left 1
                · (intro w hSw; (try dsimp only at hSw); go_simp; try with_reducible rfl)
                try simp only [Act.put, List.setIfInBounds_toArray, List.set_cons_zero, List.set_cons_succ]
                refine wpAnyH_take (i := 33) (oi := ⟨some 100, _, _, _, _, _⟩) (v := ?_) rfl (by kernel_rfl) (by kernel_rfl) (by kernel_rfl) (fun _ _ _ h => h) (Or.inl ⟨by rfl, ?_⟩) (by assumption) ?_
                rotate_left 1
                · (intro w hSw; (try dsimp only at hSw); go_simp; try with_reducible rfl)
                try simp only [Act.put, List.setIfInBounds_toArray, List.set_cons_zero, List.set_cons_succ]
                refine wpAnyH_take (i := 34) (oi := ⟨some 101, _, _, _, _, _⟩) (v := ?_) rfl (by kernel_rfl) (by kernel_rfl) (by kernel_rfl) (fun _ _ _ h => h) (Or.inl ⟨by rfl, ?_⟩) (by assumption) ?_
                rotate_left 1
                · (intro w hSw; (try dsimp only at hSw); go_simp; try with_reducible rfl)
                try simp only [Act.put, List.setIfInBounds_toArray, List.set_cons_zero, List.set_cons_succ]
                refine wpAnyH_take (i := 35) (oi := ⟨some 102, _, _, _, _, _⟩) (v := ?_) rfl (by kernel_rfl) (by kernel_rfl) (by kernel_rfl) (fun _ _ _ h => h) (Or.inl ⟨by rfl, ?_⟩) (by assumption) ?_
                rotate_left 1
                · (intro w hSw; (try dsimp only at hSw); go_simp; try with_reducible rfl)
                try simp only [Act.put, List.setIfInBounds_toArray, List.set_cons_zero, List.set_cons_succ]
                refine wpAnyH_take (i := 36) (oi := ⟨some 103, _, _, _, _, _⟩) (v := ?_) rfl (by kernel_rfl) (by kernel_rfl) (by kernel_rfl) (fun _ _ _ h => h) (Or.inl ⟨by rfl, ?_⟩) (by assumption) ?_
                rotate_left 1
                · (intro w hSw; (try dsimp only at hSw); go_simp; try with_reducible rfl)
                try simp only [Act.put, List.setIfInBounds_toArray, List.set_cons_zero, List.set_cons_succ]
                refine wpAnyH_take (i := 37) (oi := ⟨some 104, _, _, _, _, _⟩) (v := ?_) rfl (by kernel_rfl) (by kernel_rfl) (by kernel_rfl) (fun _ _ _ h => h) (Or.inl ⟨by rfl, ?_⟩) (by assumption) ?_
                rotate_left 1
                · (intro w hSw; (try dsimp only at hSw); go_simp; try with_reducible rfl)
                try simp only [Act.put, List.setIfInBounds_toArray, List.set_cons_zero, List.set_cons_succ]
                refine wpAnyH_take (i := 38) (oi := ⟨some 105, _, _, _, _, _⟩) (v := ?_) rfl (by kernel_rfl) (by kernel_rfl) (by kernel_rfl) (fun _ _ _ h => h) (Or.inl ⟨by rfl, ?_⟩) (by assumption) ?_
                rotate_left 1
                · (intro w hSw; (try dsimp only at hSw); go_simp; try with_reducible rfl)
                try simp only [Act.put, List.setIfInBounds_toArray, List.set_cons_zero, List.set_cons_succ]
                refine wpAnyH_take (i := 39) (oi := ⟨some 106, _, _, _, _, _⟩) (v := ?_) rfl (by kernel_rfl) (by kernel_rfl) (by kernel_rfl) (fun _ _ _ h => h) (Or.inl ⟨by rfl, ?_⟩) (by assumption) ?_
                rotate_left 1
                · (intro w hSw; (try dsimp only at hSw); go_simp; try with_reducible rfl)
                try simp only [Act.put, List.setIfInBounds_toArray, List.set_cons_zero, List.set_cons_succ]
                refine wpAnyH_take (i := 40) (oi := ⟨some 107, _, _, _, _, _⟩) (v := ?_) rfl (by kernel_rfl) (by kernel_rfl) (by kernel_rfl) (fun _ _ _ h => h) (Or.inl ⟨by rfl, ?_⟩) (by assumption) ?_
                rotate_left 1
                · (intro w hSw; (try dsimp only at hSw); go_simp; try with_reducible rfl)
                try simp only [Act.put, List.setIfInBounds_toArray, List.set_cons_zero, List.set_cons_succ]
                refine wpAnyH_take (i := 41) (oi := ⟨some 108, _, _, _, _, _⟩) (v := ?_) rfl (by kernel_rfl) (by kernel_rfl) (by kernel_rfl) (fun _ _ _ h => h) (Or.inl ⟨by rfl, ?_⟩) (by assumption) ?_
                rotate_left 1
                · (intro w hSw; (try dsimp only at hSw); go_simp; try with_reducible rfl)
                try simp only [Act.put, List.setIfInBounds_toArray, List.set_cons_zero, List.set_cons_succ]
                refine wpAnyH_take (i := 44) (oi := ⟨some 111, _, _, _, _, _⟩) (v := ?_) rfl (by kernel_rfl) (by kernel_rfl) (by kernel_rfl) (fun _ _ _ h => h) (Or.inl ⟨by rfl, ?_⟩) (by assumption) ?_
                rotate_left 1
                · (intro w hSw; (try dsimp only at hSw); go_simp; try with_reducible rfl)
                try simp only [Act.put, List.setIfInBounds_toArray, List.set_cons_zero, List.set_cons_succ]
                refine wpAnyH_take (i := 45) (oi := ⟨some 112, _, _, _, _, _⟩) (v := ?_) rfl (by kernel_rfl) (by kernel_rfl) (by kernel_rfl) (fun _ _ _ h => h) (Or.inl ⟨by rfl, ?_⟩) (by assumption) ?_
                rotate_left 1
                · (intro w hSw; (try dsimp only at hSw); go_simp; try with_reducible rfl)
                try simp only [Act.put, List.setIfInBounds_toArray, List.set_cons_zero, List.set_cons_succ]
                refine wpAnyH_take (i := 46) (oi := ⟨some 113, _, _, _, _, _⟩) (v := ?_) rfl (by kernel_rfl) (by kernel_rfl) (by kernel_rfl) (fun _ _ _ h => h) (Or.inl ⟨by rfl, ?_⟩) (by assumption) ?_
                rotate_left 1
                · (intro w hSw; (try dsimp only at hSw); go_simp; try with_reducible rfl)
                try simp only [Act.put, List.setIfInBounds_toArray, List.set_cons_zero, List.set_cons_succ]
                refine wpAnyH_take (i := 47) (oi := ⟨some 114, _, _, _, _, _⟩) (v := ?_) rfl (by kernel_rfl) (by kernel_rfl) (by kernel_rfl) (fun _ _ _ h => h) (Or.inl ⟨by rfl, ?_⟩) (by assumption) ?_
                rotate_left 1
                · (intro w hSw; (try dsimp only at hSw); go_simp; try with_reducible rfl)
                try simp only [Act.put, List.setIfInBounds_toArray, List.set_cons_zero, List.set_cons_succ]
                refine wpAnyH_take (i := 48) (oi := ⟨some 115, _, _, _, _, _⟩) (v := ?_) rfl (by kernel_rfl) (by kernel_rfl) (by kernel_rfl) (fun _ _ _ h => h) (Or.inl ⟨by rfl, ?_⟩) (by assumption) ?_
                rotate_left 1
                · (intro w hSw; (try dsimp only at hSw); go_simp; try with_reducible rfl)
                try simp only [Act.put, List.setIfInBounds_toArray, List.set_cons_zero, List.set_cons_succ]
                refine wpAnyH_ready (rs := [42, 43]) (by kernel_rfl) (by simp) ?_
                refine AllReadyH.cons (o := ⟨some 109, _, _, _, _, _⟩) rfl (fun K hK => ?_) ?_
                · go_simp
                  refine (kind_at q xn xa xt r _ HR.out).mono ?_
                  rintro e w3 ⟨rfl, hb3⟩
                  have hbw : Below wr.heap.size wr w3 := hbA.trans (hb3.mono (by simp))
                  have hs3 := hbw.size
                  have f0 := ((bcellS hbw).1 _ _ hg1).trans a0
                  have f1 := ((bcellS hbw).1 _ _ hg1).trans a1
                  have f2 := ((bcellS hbw).1 _ _ hg1).trans a2
                  have f3 := ((bcellS hbw).1 _ _ hg1).trans a3
                  have f4 := ((bcellS hbw).1 _ _ hg2).trans b0
                  have f5 := ((bcellS hbw).1 _ _ hg2).trans b1
                  have f6 := ((bcellS hbw).1 _ _ hg2).trans b2
                  refine hK.out _ _ (by exact ⟨f0, f1, f2, f3, f4, f5, f6⟩) ?_
                  clear hK K hHeld
                  intro hHeld
                  try simp only [Act.put, List.setIfInBounds_toArray, List.set_cons_zero, List.set_cons_succ]
                  refine wpAnyH_ready (rs := [43]) (by kernel_rfl) (by simp) ?_
                  refine AllReadyH.cons (o := ⟨some 110, _, _, _, _, _⟩) rfl (fun K hK => ?_) AllReadyH.nil
                  go_simp
                  refine hK.out _ _ (by exact ⟨(World.cell?_alloc_lt w3 _ _ (Nat.lt_of_lt_of_le hg1 hs3)).trans f0, (World.cell?_alloc_lt w3 _ _ (Nat.lt_of_lt_of_le hg1 hs3)).trans f1, (World.cell?_alloc_lt w3 _ _ (Nat.lt_of_lt_of_le hg1 hs3)).trans f2, (World.cell?_alloc_lt w3 _ _ (Nat.lt_of_lt_of_le hg1 hs3)).trans f3, (World.cell?_alloc_lt w3 _ _ (Nat.lt_of_lt_of_le hg2 hs3)).trans f4, (World.cell?_alloc_lt w3 _ _ (Nat.lt_of_lt_of_le hg2 hs3)).trans f5, (World.cell?_alloc_lt w3 _ _ (Nat.lt_of_lt_of_le hg2 hs3)).trans f6⟩) ?_
                  clear hK K hHeld
                  intro hHeld
                  try simp only [Act.put, List.setIfInBounds_toArray, List.set_cons_zero, List.set_cons_succ]
                  refine wpAnyH_take (i := 49) (oi := ⟨some 116, _, _, _, _, _⟩) (v := ?_) rfl (by kernel_rfl) (by kernel_rfl) (by kernel_rfl) (fun _ _ _ h => h) (Or.inl ⟨by rfl, ?_⟩) (by assumption) ?_
                  rotate_left 1
                  · (intro w hSw; (try dsimp only at hSw); go_simp; try with_reducible rfl)
                  try simp only [Act.put, List.setIfInBounds_toArray, List.set_cons_zero, List.set_cons_succ]
                  refine wpAnyH_ready (rs := [50]) (by kernel_rfl) (by simp) ?_
                  refine AllReadyH.cons (o := ⟨some 117, _, _, _, _, _⟩) rfl (fun K hK => ?_) AllReadyH.nil
                  go_simp
                  refine hK.out _ _ (by exact hHeld) ?_
                  clear hK K hHeld
                  intro hHeld
                  try simp only [Act.put, List.setIfInBounds_toArray, List.set_cons_zero, List.set_cons_succ]
                  refine wpAnyH_take (i := 51) (oi := ⟨some 118, _, _, _, _, _⟩) (v := ?_) rfl (by kernel_rfl) (by kernel_rfl) (by kernel_rfl) (fun _ _ _ h => h) (Or.inl ⟨by rfl, ?_⟩) (by assumption) ?_
                  rotate_left 1
                  · (intro w hSw; (try dsimp only at hSw); go_simp; try with_reducible rfl)
                  try simp only [Act.put, List.setIfInBounds_toArray, List.set_cons_zero, List.set_cons_succ]
                  refine wpAnyH_take (i := 52) (oi := ⟨some 119, _, _, _, _, _⟩) (v := ?_) rfl (by kernel_rfl) (by kernel_rfl) (by kernel_rfl) (fun _ _ _ h => h) (Or.inl ⟨by rfl, ?_⟩) (by assumption) ?_
                  rotate_left 1
                  · (intro w hSw; (try dsimp only at hSw); go_simp; try with_reducible rfl)
                  try simp only [Act.put, List.setIfInBounds_toArray, List.set_cons_zero, List.set_cons_succ]
                  refine wpAnyH_done (by kernel_rfl) ?_ _
                  refine NoPanic.normal ?_
                  go_wp2_with fail
                  go_roundg (gk - 1)
                  case measure => have := HKG.out; omega
                  case rel => exact ⟨k + 1, by have := HKG.out; omega, by go_num, HP1.out.below (hbw.alloc hs3 _) (Nat.le_refl _), HP2.out.below (hbw.alloc hs3 _) (Nat.le_refl _), HBL.out.trans ((hbw.alloc hs3 _).mono HBL.out.size)⟩
                refine AllReadyH.cons (o := ⟨some 110, _, _, _, _, _⟩) rfl (fun K hK => ?_) AllReadyH.nil
                go_simp
                refine hK.out _ _ (by exact ⟨(World.cell?_alloc_lt wr _ _ hg1).trans a0, (World.cell?_alloc_lt wr _ _ hg1).trans a1, (World.cell?_alloc_lt wr _ _ hg1).trans a2, (World.cell?_alloc_lt wr _ _ hg1).trans a3, (World.cell?_alloc_lt wr _ _ hg2).trans b0, (World.cell?_alloc_lt wr _ _ hg2).trans b1, (World.cell?_alloc_lt wr _ _ hg2).trans b2⟩) ?_
                clear hK K hHeld
                intro hHeld
                try simp only [Act.put, List.setIfInBounds_toArray, List.set_cons_zero, List.set_cons_succ]
                refine wpAnyH_take (i := 49) (oi := ⟨some 116, _, _, _, _, _⟩) (v := ?_) rfl (by kernel_rfl) (by kernel_rfl) (by kernel_rfl) (fun _ _ _ h => h) (Or.inl ⟨by rfl, ?_⟩) (by assumption) ?_
                rotate_left 1
                · (intro w hSw; (try dsimp only at hSw); go_simp; try with_reducible rfl)
                try simp only [Act.put, List.setIfInBounds_toArray, List.set_cons_zero, List.set_cons_succ]
                refine wpAnyH_ready (rs := [42, 50]) (by kernel_rfl) (by simp) ?_
                refine AllReadyH.cons (o := ⟨some 109, _, _, _, _, _⟩) rfl (fun K hK => ?_) ?_
                · go_simp
                  refine (kind_at q xn xa xt r _ HR.out).mono ?_
                  rintro e w3 ⟨rfl, hb3⟩
                  have hbw : Below wr.heap.size wr w3 := (hbA.alloc (by simp) _).trans (hb3.mono (by simp))
                  have hs3 := hbw.size
                  have f0 := ((bcellS hbw).1 _ _ hg1).trans a0
                  have f1 := ((bcellS hbw).1 _ _ hg1).trans a1
                  have f2 := ((bcellS hbw).1 _ _ hg1).trans a2
                  have f3 := ((bcellS hbw).1 _ _ hg1).trans a3
                  have f4 := ((bcellS hbw).1 _ _ hg2).trans b0
                  have f5 := ((bcellS hbw).1 _ _ hg2).trans b1
                  have f6 := ((bcellS hbw).1 _ _ hg2).trans b2
                  have f7 : w3.cell? ⟨wr.heap.size, q, none⟩ = some (.string r) := by rw [(bcellS hb3).1 _ _ (by simp)]; exact HNEW.out wr
                  refine hK.out _ _ (by exact ⟨f0, f1, f2, f3, f4, f5, f6⟩) ?_
                  clear hK K hHeld
                  intro hHeld
                  try simp only [Act.put, List.setIfInBounds_toArray, List.set_cons_zero, List.set_cons_succ]
                  refine wpAnyH_ready (rs := [50]) (by kernel_rfl) (by simp) ?_
                  refine AllReadyH.cons (o := ⟨some 117, _, _, _, _, _⟩) rfl (fun K hK => ?_) AllReadyH.nil
                  go_simp
                  refine hK.out _ _ (by exact hHeld) ?_
                  clear hK K hHeld
                  intro hHeld
                  try simp only [Act.put, List.setIfInBounds_toArray, List.set_cons_zero, List.set_cons_succ]
                  refine wpAnyH_take (i := 51) (oi := ⟨some 118, _, _, _, _, _⟩) (v := ?_) rfl (by kernel_rfl) (by kernel_rfl) (by kernel_rfl) (fun _ _ _ h => h) (Or.inl ⟨by rfl, ?_⟩) (by assumption) ?_
                  rotate_left 1
                  · (intro w hSw; (try dsimp only at hSw); go_simp; try with_reducible rfl)
                  try simp only [Act.put, List.setIfInBounds_toArray, List.set_cons_zero, List.set_cons_succ]
                  refine wpAnyH_take (i := 52) (oi := ⟨some 119, _, _, _, _, _⟩) (v := ?_) rfl (by kernel_rfl) (by kernel_rfl) (by kernel_rfl) (fun _ _ _ h => h) (Or.inl ⟨by rfl, ?_⟩) (by assumption) ?_
                  rotate_left 1
                  · (intro w hSw; (try dsimp only at hSw); go_simp; try with_reducible rfl)
                  try simp only [Act.put, List.setIfInBounds_toArray, List.set_cons_zero, List.set_cons_succ]
                  refine wpAnyH_done (by kernel_rfl) ?_ _
                  refine NoPanic.normal ?_
                  go_wp2_with fail
                  go_roundg (gk - 1)
                  case measure => have := HKG.out; omega
                  case rel => exact ⟨k + 1, by have := HKG.out; omega, by go_num, HP1.out.below (hbw) (Nat.le_refl _), HP2.out.below (hbw) (Nat.le_refl _), HBL.out.trans ((hbw).mono HBL.out.size)⟩
                refine AllReadyH.cons (o := ⟨some 117, _, _, _, _, _⟩) rfl (fun K hK => ?_) AllReadyH.nil
                go_simp
                refine hK.out _ _ (by exact hHeld) ?_
                clear hK K hHeld
                intro hHeld
                try simp only [Act.put, List.setIfInBounds_toArray, List.set_cons_zero, List.set_cons_succ]
                refine wpAnyH_ready (rs := [42]) (by kernel_rfl) (by simp) ?_
                refine AllReadyH.cons (o := ⟨some 109, _, _, _, _, _⟩) rfl (fun K hK => ?_) AllReadyH.nil
                go_simp
                refine (kind_at q xn xa xt r _ HR.out).mono ?_
                rintro e w3 ⟨rfl, hb3⟩
                have hbw : Below wr.heap.size wr w3 := (hbA.alloc (by simp) _).trans (hb3.mono (by simp))
                have hs3 := hbw.size
                have f0 := ((bcellS hbw).1 _ _ hg1).trans a0
                have f1 := ((bcellS hbw).1 _ _ hg1).trans a1
                have f2 := ((bcellS hbw).1 _ _ hg1).trans a2
                have f3 := ((bcellS hbw).1 _ _ hg1).trans a3
                have f4 := ((bcellS hbw).1 _ _ hg2).trans b0
                have f5 := ((bcellS hbw).1 _ _ hg2).trans b1
                have f6 := ((bcellS hbw).1 _ _ hg2).trans b2
                have f7 : w3.cell? ⟨wr.heap.size, q, none⟩ = some (.string r) := by rw [(bcellS hb3).1 _ _ (by simp)]; exact HNEW.out wr
                refine hK.out _ _ (by exact ⟨f0, f1, f2, f3, f4, f5, f6⟩) ?_
                clear hK K hHeld
                intro hHeld
                try simp only [Act.put, List.setIfInBounds_toArray, List.set_cons_zero, List.set_cons_succ]
                refine wpAnyH_take (i := 51) (oi := ⟨some 118, _, _, _, _, _⟩) (v := ?_) rfl (by kernel_rfl) (by kernel_rfl) (by kernel_rfl) (fun _ _ _ h => h) (Or.inl ⟨by rfl, ?_⟩) (by assumption) ?_
                rotate_left 1
                · (intro w hSw; (try dsimp only at hSw); go_simp; try with_reducible rfl)
                try simp only [Act.put, List.setIfInBounds_toArray, List.set_cons_zero, List.set_cons_succ]
                refine wpAnyH_take (i := 52) (oi := ⟨some 119, _, _, _, _, _⟩) (v := ?_) rfl (by kernel_rfl) (by kernel_rfl) (by kernel_rfl) (fun _ _ _ h => h) (Or.inl ⟨by rfl, ?_⟩) (by assumption) ?_
                rotate_left 1
                · (intro w hSw; (try dsimp only at hSw); go_simp; try with_reducible rfl)
                try simp only [Act.put, List.setIfInBounds_toArray, List.set_cons_zero, List.set_cons_succ]
                refine wpAnyH_done (by kernel_rfl) ?_ _
                refine NoPanic.normal ?_
                go_wp2_with fail
                go_roundg (gk - 1)
                case measure => have := HKG.out; omega
                case rel => exact ⟨k + 1, by have := HKG.out; omega, by go_num, HP1.out.below (hbw) (Nat.le_refl _), HP2.out.below (hbw) (Nat.le_refl _), HBL.out.trans ((hbw).mono HBL.out.size)⟩
              · go_wp2_with fail
                refine (kind_at 5 0 0 _ ⟨#[63]⟩ _ (by decide)).mono ?_; rintro e w4 ⟨rfl, hb4⟩
                have HB4 := Lib.hid (HBL.out.trans (hb4.mono HBL.out.size))
                clear hb4
                go_wp2_with fail
                refine (kind_at (-1) 0 0 _ ⟨#[63]⟩ _ (by decide)).mono ?_; rintro e w5 ⟨rfl, hb5⟩
                have HB5 := Lib.hid (HB4.out.trans (hb5.mono HB4.out.size))
                clear hb5
                go_wp2_with fail
                refine (awakeL_any _).mono ?_; rintro e w6 ⟨rfl, hb6⟩
                have HB6 := Lib.hid (HB5.out.trans (hb6.mono HB5.out.size))
                clear hb6
                go_wp2_with fail
                go_ret
                exact ⟨rfl, HB6.out⟩
          · rw [HM.out] at hm2
            cases hm2
  · have HB := Lib.hid hb
    have hne : (er != 0) = true := by simpa using her
    clear hb
    go_wp2_with fail
    refine (awakeL_any _).mono ?_; rintro e w3 ⟨rfl, hb3⟩
    go_wp2_with fail
    go_ret
    exact ⟨rfl, HB.out.trans (hb3.mono HB.out.size)⟩
end Go.Proofs.Ytaofjnidniekjaa
