/- Contract of lex.number: the token of a text that begins with a digit. Condition: the text is not empty, and no longer than Go's longest length. -/
import Derived.Test.YtaofjnidniekjaaLexA
import Derived.Test.YtaofjnidniekjaaBlk
namespace Go.Proofs.Ytaofjnidniekjaa
open Go.RowKit

/-- a call's answer: a token and an error; nothing that was there has changed -/
def RetTok (w : World) (err k n a : Int) (t : ByteArray) (e : Ending) (w' : World) : Prop :=
  e = .returned (.tuple #[.agg #[.int .i64 k, .string t, .int .i64 n, .int .i64 a], .int .i64 err]) ∧ Below w.heap.size w w'

/-- what a run of digits is: the error, the kind, the number -/
def numR (t : ByteArray) : Int × Int × Int :=
  if (t.data.toList.all digB) ∧ ¬ (1 < t.size ∧ t.data.toList.headD 0 = 48) then (if 9 < t.size then (4, 0, 0) else (0, 3, numS t.data.toList)) else (6, 0, 0)

/-- what becomes of a run that is (er, k, n): the token's parts -/
def TokOut (R : Int × Int × Int) (t : ByteArray) (a er k n a' : Int) (t' : ByteArray) : Prop :=
  R = (er, k, n) ∧ a' = (if er = 0 then a else 0) ∧ t' = (if er = 0 then t else ⟨#[]⟩)
theorem TokOut.bad {R : Int × Int × Int} {t t' : ByteArray} {a er k n a' e : Int} (h : TokOut R t a er k n a' t') (he : R = (e, 0, 0)) (h0 : e ≠ 0) : er = e ∧ k = 0 ∧ n = 0 ∧ a' = 0 ∧ t' = ⟨#[]⟩ := by
  obtain ⟨h1, h2, h3⟩ := h
  rw [he] at h1
  simp only [Prod.mk.injEq] at h1
  obtain ⟨rfl, rfl, rfl⟩ := h1
  rw [if_neg h0] at h2 h3
  exact ⟨rfl, rfl, rfl, h2, h3⟩
theorem TokOut.good {R : Int × Int × Int} {t t' : ByteArray} {a er k n a' k1 n1 : Int} (h : TokOut R t a er k n a' t') (he : R = (0, k1, n1)) : er = 0 ∧ k = k1 ∧ n = n1 ∧ a = a' ∧ t = t' := by
  obtain ⟨h1, h2, h3⟩ := h
  rw [he] at h1
  simp only [Prod.mk.injEq] at h1
  obtain ⟨rfl, rfl, rfl⟩ := h1
  rw [if_pos rfl] at h2 h3
  exact ⟨rfl, rfl, rfl, h2.symm, h3.symm⟩

theorem numS_snoc (l : List UInt8) (c : UInt8) : numS (l ++ [c]) = 10 * numS l + ((c.toNat : Int) - 48) := by
  unfold numS; rw [List.foldl_append]; rfl
theorem takeB_snoc {s : ByteArray} {k : Nat} (h : k < s.size) : s.data.toList.take (k + 1) = s.data.toList.take k ++ [s[k]] := by
  rw [List.take_succ_eq_append_getElem (by simpa using h), getB h]

set_option maxHeartbeats 400000 in
theorem number_at (k0 a er k1 n1 a1 : Int) (t t1 : ByteArray) (w : World) (ht : 0 < t.size) (hs : t.size ≤ 9223372036854775807) (ho : TokOut (numR t) t a er k1 n1 a1 t1) :
    Calls Try.prog 41 #[.agg #[.int .i64 k0, .string t, .int .i64 0, .int .i64 a]] w
      (RetTok w er k1 n1 a1 t1) := by
  have HOUT := Lib.hid ho
  clear ho
  go_enter Try.func41, Try.ntmps41
  go_wp2_with fail
  go_loopg [4, 9] t.size (fun g x u wr => (w.alloc (.cells #[.int .i64 k0, .string t, .int .i64 0, .int .i64 a] 30)).alloc (.cells #[.int .i64 0, .string ⟨#[]⟩, .int .i64 0, .int .i64 0] 30) = wr ∧ ∃ k : Nat, k + g = t.size ∧ u = .int .i64 k ∧ ∀ (i : Nat) (hi : i < t.size), i < k → digB t[i] = true)
  case atStart => exact ⟨rfl, 0, by omega, rfl, fun i h hk => by omega⟩
  case round =>
    obtain ⟨rfl, k, hk, rfl, hj⟩ := hrel
    have HJ := Lib.hid hj
    have HK := Lib.hid hk
    clear hj hk
    by_cases hlt : k < t.size
    · by_cases he : digB (t[k]'hlt) = true
      · have HE := Lib.hid he
        have a1 : 48 ≤ ((t[k]'hlt).toNat : Int) := by unfold digB at he; rw [decide_eq_true_eq] at he; omega
        have a2 : ((t[k]'hlt).toNat : Int) ≤ 57 := by unfold digB at he; rw [decide_eq_true_eq] at he; omega
        clear he
        go_wp2_with fail
        go_roundg (gk - 1)
        case measure => have := HK.out; omega
        case rel => exact ⟨rfl, k + 1, by have := HK.out; omega, by go_num, fun i hi h => by
          by_cases e : i = k
          · subst e; exact HE.out
          · exact HJ.out i hi (by omega)⟩
      · have HN : Hid (numR t = (6, 0, 0)) := by
          have h : numR t = (6, 0, 0) := by
            unfold numR
            rw [if_neg]
            intro h
            exact he (all_iff.1 h.1 k hlt)
          exact Lib.hid h
        have hb : ((t[k]'hlt).toNat : Int) < 48 ∨ 57 < ((t[k]'hlt).toNat : Int) := by unfold digB at he; rw [decide_eq_true_eq] at he; omega
        obtain ⟨rfl, rfl, rfl, rfl, rfl⟩ := HOUT.out.bad HN.out (by decide)
        clear he
        rcases hb with a1 | a1
        · go_wp2_with fail
          exact bodyPost_ret (v := .tuple #[.agg #[.int .i64 0, .string ⟨#[]⟩, .int .i64 0, .int .i64 0], .int .i64 6]) (by simp [results, Try.results41, go_sem]) rfl (by exact ⟨rfl, ((Below.refl _ _).alloc (Nat.le_refl _) _).alloc (by simp) _⟩)
        · go_wp2_with fail
          exact bodyPost_ret (v := .tuple #[.agg #[.int .i64 0, .string ⟨#[]⟩, .int .i64 0, .int .i64 0], .int .i64 6]) (by simp [results, Try.results41, go_sem]) rfl (by exact ⟨rfl, ((Below.refl _ _).alloc (Nat.le_refl _) _).alloc (by simp) _⟩)
    · have HA := Lib.hid ((all_iff (p := digB)).2 (fun i hi => HJ.out i hi (by omega)))
      obtain ⟨c0, hc0⟩ : ∃ c, (t[0]'ht).toNat = c := ⟨_, rfl⟩
      have HD := Lib.hid (head_at ht)
      by_cases hz : c0 = 48 ∧ 1 < t.size
      · obtain ⟨rfl, hz2⟩ := hz
        have HN : Hid (numR t = (6, 0, 0)) := by
          have h : numR t = (6, 0, 0) := by
            unfold numR
            rw [if_neg]
            intro h
            exact h.2 ⟨hz2, by rw [HD.out]; exact UInt8.toNat_inj.1 hc0⟩
          exact Lib.hid h
        obtain ⟨rfl, rfl, rfl, rfl, rfl⟩ := HOUT.out.bad HN.out (by decide)
        have hq : (((t[0]'ht).toNat : Int) == 48) = true := by rw [hc0]; rfl
        clear hc0
        go_wp2_with fail
        exact bodyPost_ret (v := .tuple #[.agg #[.int .i64 0, .string ⟨#[]⟩, .int .i64 0, .int .i64 0], .int .i64 6]) (by simp [results, Try.results41, go_sem]) rfl (by exact ⟨rfl, ((Below.refl _ _).alloc (Nat.le_refl _) _).alloc (by simp) _⟩)
      · have HNZ : Hid (¬ (1 < t.size ∧ t.data.toList.headD 0 = 48)) := by
          have h : ¬ (1 < t.size ∧ t.data.toList.headD 0 = 48) := fun h => hz ⟨by rw [← hc0, ← HD.out, h.2]; rfl, h.1⟩
          exact Lib.hid h
        by_cases h9 : 9 < t.size
        · have HN : Hid (numR t = (4, 0, 0)) := by
            have h : numR t = (4, 0, 0) := by
              unfold numR
              rw [if_pos ⟨HA.out, HNZ.out⟩, if_pos h9]
            exact Lib.hid h
          obtain ⟨rfl, rfl, rfl, rfl, rfl⟩ := HOUT.out.bad HN.out (by decide)
          have hq : (((t[0]'ht).toNat : Int) == 48) = false := by simp; omega
          clear hc0 hz
          go_wp2_with fail
          exact bodyPost_ret (v := .tuple #[.agg #[.int .i64 0, .string ⟨#[]⟩, .int .i64 0, .int .i64 0], .int .i64 4]) (by simp [results, Try.results41, go_sem]) rfl (by exact ⟨rfl, ((Below.refl _ _).alloc (Nat.le_refl _) _).alloc (by simp) _⟩)
        · have HN : Hid (numR t = (0, 3, numS t.data.toList)) := by
            have h : numR t = (0, 3, numS t.data.toList) := by
              unfold numR
              rw [if_pos ⟨HA.out, HNZ.out⟩, if_neg h9]
            exact Lib.hid h
          obtain ⟨rfl, rfl, HN1, rfl, rfl⟩ := HOUT.out.good HN.out
          have hq : (((t[0]'ht).toNat : Int) == 48) = false ∨ ((((t[0]'ht).toNat : Int) == 48) = true ∧ ¬ (1 < (t.size : Int))) := by
            by_cases h : c0 = 48
            · exact .inr ⟨by simp; omega, by omega⟩
            · exact .inl (by simp; omega)
          have h9' : t.size ≤ 9 := by omega
          clear hc0 hz h9
          have HH := Lib.hid HN1
          clear HN1
          rcases hq with hq | ⟨hq, hq2⟩
          all_goals
            go_wp2_with fail
            go_loopg [5, 46] t.size (fun g x u wr => ∃ k : Nat, k + g = t.size ∧ u = .int .i64 k ∧ Blk wr w.heap.size 30 #[.int .i64 3, .string t, .int .i64 (numS (t.data.toList.take k)), .int .i64 a] ∧
              Blk wr (w.heap.size + 1) 30 #[.int .i64 0, .string ⟨#[]⟩, .int .i64 0, .int .i64 0] ∧ Below w.heap.size w wr)
            case atStart => exact ⟨0, by omega, rfl, (Blk.new _ _ _).alloc _, (by have h := Blk.new (w.alloc (.cells #[.int .i64 3, .string t, .int .i64 0, .int .i64 a] 30)) 30 #[.int .i64 0, .string ⟨#[]⟩, .int .i64 0, .int .i64 0]; simpa using h), ((Below.refl _ _).alloc (Nat.le_refl _) _).alloc (by simp) _⟩
            case round =>
              obtain ⟨j, hj, rfl, hB0, hB1, hbl⟩ := hrel
              have HB0 := Lib.hid hB0
              have HB1 := Lib.hid hB1
              have HBL := Lib.hid hbl
              have HJ2 := Lib.hid hj
              clear hj hB1 hbl
              by_cases hlt2 : j < t.size
              · have c1 : wr.cell? ⟨w.heap.size, 1, none⟩ = some (.string t) := by rw [hB0.cell]; rfl
                have c2 : wr.cell? ⟨w.heap.size, 2, none⟩ = some (.int .i64 (numS (t.data.toList.take j))) := by rw [hB0.cell]; rfl
                have f2 : wr.frozen? ⟨w.heap.size, 2, none⟩ = false := hB0.frozen 2
                have b1 := numS_bd (t.data.toList.take j) (fun c hc => List.all_eq_true.1 HA.out c (List.mem_of_mem_take hc))
                have b2 : (10 : Int) ^ (t.data.toList.take j).length ≤ 10 ^ 8 := by
                  have h8 : (t.data.toList.take j).length ≤ 8 := by rw [List.length_take]; omega
                  have := Nat.pow_le_pow_right (n := 10) (by decide) h8
                  have e : ((10 ^ (t.data.toList.take j).length : Nat) : Int) = 10 ^ (t.data.toList.take j).length := by rw [Int.natCast_pow]; rfl
                  omega
                obtain ⟨b3, b4⟩ := b1
                have HS := Lib.hid (numS_snoc (t.data.toList.take j) (t[j]'hlt2))
                have b5 : numS (t.data.toList.take j) < 100000000 := by omega
                obtain ⟨m, hm⟩ : ∃ m, numS (t.data.toList.take j) = m := ⟨_, rfl⟩
                rw [hm] at c2 b3 b5
                have HM := Lib.hid hm
                have a1 : 48 ≤ ((t[j]'hlt2).toNat : Int) := by have he := all_iff.1 HA.out j hlt2; unfold digB at he; rw [decide_eq_true_eq] at he; omega
                have a2 : ((t[j]'hlt2).toNat : Int) ≤ 57 := by have he := all_iff.1 HA.out j hlt2; unfold digB at he; rw [decide_eq_true_eq] at he; omega
                have g0 : (0 : Int) ≤ (j : Int) := by omega
                have g1 : (j : Int) < (t.size : Int) := by omega
                clear hB0 b2 b4 hm hq
                go_wp2_with fail
                go_region
                go_wp2_with fail
                go_roundg (gk - 1)
                case measure => have := HJ2.out; omega
                case rel => exact ⟨j + 1, by have := HJ2.out; omega, by go_num, ((HB0.out.set_ 2 _).drew).to (by rw [takeB_snoc hlt2, HS.out, HM.out]; rfl), (HB1.out.far (by simp) _).drew, (HBL.out.setCell (Nat.le_refl _) _).drew⟩
              · have e1 : t.data.toList.take j = t.data.toList := List.take_of_length_le (by have := HJ2.out; simp; omega)
                rw [e1, ← HH.out] at hB0
                have c0 : wr.cell? ⟨w.heap.size, 0, none⟩ = some (.int .i64 3) := by rw [hB0.cell]; rfl
                have c1 : wr.cell? ⟨w.heap.size, 1, none⟩ = some (.string t) := by rw [hB0.cell]; rfl
                have c2 : wr.cell? ⟨w.heap.size, 2, none⟩ = some (.int .i64 n1) := by rw [hB0.cell]; rfl
                have c3 : wr.cell? ⟨w.heap.size, 3, none⟩ = some (.int .i64 a) := by rw [hB0.cell]; rfl
                have d0 : wr.cell? ⟨w.heap.size + 1, 0, none⟩ = some (.int .i64 0) := by rw [HB1.out.cell]; rfl
                have d1 : wr.cell? ⟨w.heap.size + 1, 1, none⟩ = some (.string ⟨#[]⟩) := by rw [HB1.out.cell]; rfl
                have d2 : wr.cell? ⟨w.heap.size + 1, 2, none⟩ = some (.int .i64 0) := by rw [HB1.out.cell]; rfl
                have d3 : wr.cell? ⟨w.heap.size + 1, 3, none⟩ = some (.int .i64 0) := by rw [HB1.out.cell]; rfl
                have df : ∀ i, wr.frozen? ⟨w.heap.size + 1, i, none⟩ = false := fun i => HB1.out.frozen i
                clear hB0 e1 hq
                go_wp2_with fail
                exact bodyPost_ret (v := .tuple #[.agg #[.int .i64 3, .string t, .int .i64 n1, .int .i64 a], .int .i64 0]) (by simp [results, Try.results41, go_sem, d0, d1, d2, d3]) rfl (by exact ⟨rfl, ((((HBL.out.setCell (by simp) _).setCell (by simp) _).setCell (by simp) _).setCell (by simp) _)⟩)
end Go.Proofs.Ytaofjnidniekjaa
