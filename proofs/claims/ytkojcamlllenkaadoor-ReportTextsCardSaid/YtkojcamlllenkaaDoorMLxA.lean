/- The plain laws of cutting a text into tokens: no program in sight. No conditions but those stated. -/
import Derived.Test.YtkojcamlllenkaaDoorNamesD
import Derived.Test.YtkojcamlllenkaaDoorBlk
import Derived.Deep.AppendLies
namespace Go.Proofs.YtkojcamlllenkaaDoor
open Go.RowKit

/-- is a byte one of a run? -/
def runB (c : UInt8) : Bool := decide ((97 ≤ c.toNat ∧ c.toNat ≤ 122) ∨ (48 ≤ c.toNat ∧ c.toNat ≤ 57) ∨ c.toNat = 95)
def digB (c : UInt8) : Bool := decide (48 ≤ c.toNat ∧ c.toNat ≤ 57)
def smallB (c : UInt8) : Bool := decide (97 ≤ c.toNat ∧ c.toNat ≤ 122)
/-- the number of decimal digits -/
def numS (l : List UInt8) : Int := l.foldl (fun n c => 10 * n + ((c.toNat : Int) - 48)) 0

theorem numS_bd : ∀ (l : List UInt8), (∀ c ∈ l, digB c = true) → 0 ≤ numS l ∧ numS l < 10 ^ l.length := by
 intro l
 unfold numS
 suffices h : ∀ (l : List UInt8) (a : Int) (k : Nat), 0 ≤ a → a < 10 ^ k → (∀ c ∈ l, digB c = true) → 0 ≤ l.foldl (fun n c => 10 * n + ((c.toNat : Int) - 48)) a ∧ l.foldl (fun n c => 10 * n + ((c.toNat : Int) - 48)) a < 10 ^ (k + l.length) by
  intro hl
  have := h l 0 0 (Int.le_refl 0) (by decide) hl
  rwa [Nat.zero_add] at this
 intro l
 induction l with
 | nil => intro a k h1 h2 _; exact ⟨h1, h2⟩
 | cons c l ih =>
  intro a k h1 h2 hc
  have hd := hc c List.mem_cons_self
  unfold digB at hd
  rw [decide_eq_true_eq] at hd
  have := ih (10 * a + ((c.toNat : Int) - 48)) (k + 1) (by omega) (by rw [Int.pow_succ]; omega) (fun x hx => hc x (List.mem_cons_of_mem _ hx))
  rw [List.foldl_cons, List.length_cons, show k + (l.length + 1) = k + 1 + l.length from by omega]
  exact this

/-- what a run is: the error, the kind, the number -/
def runR (t : ByteArray) : Int × Int × Int :=
 if wordB t then (0, 1, 0)
 else if smallB (t.data.toList.headD 0) ∨ t.data.toList.headD 0 = 95 then
  (if smallB (t.data.toList.headD 0) ∧ 16 < t.size then (4, 0, 0) else if smallB (t.data.toList.headD 0) then (0, 2, 0) else (6, 0, 0))
 else if (t.data.toList.all digB) ∧ ¬ (1 < t.size ∧ t.data.toList.headD 0 = 48) then (if 9 < t.size then (4, 0, 0) else (0, 3, numS t.data.toList))
 else (6, 0, 0)
end Go.Proofs.YtkojcamlllenkaaDoor
/- Contracts of lex.running and of bushelref35's in, small, tens, all: they only compute. No conditions. -/
namespace Go.Proofs.YtkojcamlllenkaaDoor
open Go.RowKit

theorem running_at (c : UInt8) (b : Bool) (w : World) (hb : runB c = b) : Calls Tryd.prog 60 #[.int .u8 c.toNat] w fun e w' => e = .returned (.bool b) ∧ w = w' := by
 have hc : c.toNat < 256 := c.toNat_lt
 unfold runB at hb
 generalize c.toNat = n at *
 have H : (97 ≤ (n : Int) ∧ (n : Int) ≤ 122 ∧ b = true) ∨ (48 ≤ (n : Int) ∧ (n : Int) ≤ 57 ∧ b = true) ∨ (n = 95 ∧ b = true) ∨ (((n : Int) == 95) = false ∧ b = false ∧ ((n : Int) < 48 ∨ (57 < (n : Int) ∧ (n : Int) < 97) ∨ 122 < (n : Int))) := by
  cases b
  ·rw [decide_eq_false_iff_not] at hb
   exact .inr (.inr (.inr ⟨by simp; omega, rfl, by omega⟩))
  ·rw [decide_eq_true_eq] at hb
   rcases hb with h | h | h
   ·exact .inl ⟨by omega, by omega, rfl⟩
   ·exact .inr (.inl ⟨by omega, by omega, rfl⟩)
   ·exact .inr (.inr (.inl ⟨h, rfl⟩))
 clear hb
 rcases H with ⟨h1, h2, rfl⟩ | ⟨h1, h2, rfl⟩ | ⟨rfl, rfl⟩ | ⟨h0, rfl, h1 | ⟨h1, h2⟩ | h1⟩
 ·go_enter Tryd.func60, Tryd.ntmps60
  go_wp2_with fail
  go_ret
  exact ⟨rfl, rfl⟩
 ·go_enter Tryd.func60, Tryd.ntmps60
  go_wp2_with fail
  go_ret
  exact ⟨rfl, rfl⟩
 ·go_enter Tryd.func60, Tryd.ntmps60
  go_wp2_with fail
  go_ret
  exact ⟨rfl, rfl⟩
 ·go_enter Tryd.func60, Tryd.ntmps60
  go_wp2_with fail
  go_ret
  exact ⟨rfl, rfl⟩
 ·have h4 : decide ((n : Int) ≤ 57) = false := by simp; omega
  go_enter Tryd.func60, Tryd.ntmps60
  go_wp2_with fail
  go_ret
  exact ⟨rfl, rfl⟩
 ·have h3 : decide ((n : Int) ≤ 122) = false := by simp; omega
  have h4 : decide ((n : Int) ≤ 57) = false := by simp; omega
  go_enter Tryd.func60, Tryd.ntmps60
  go_wp2_with fail
  go_ret
  exact ⟨rfl, rfl⟩

/-- is the byte one of the text's? -/
def inB (c : UInt8) (s : ByteArray) : Bool := s.data.toList.any (fun d => d == c)
def smallS : ByteArray := ⟨#[97, 98, 99, 100, 101, 102, 103, 104, 105, 106, 107, 108, 109, 110, 111, 112, 113, 114, 115, 116, 117, 118, 119, 120, 121, 122]⟩
def tensS : ByteArray := ⟨#[48, 49, 50, 51, 52, 53, 54, 55, 56, 57]⟩
theorem byte_all {p : UInt8 → Bool} (h : ∀ n : Fin 256, p (UInt8.ofNat n.val) = true) (c : UInt8) : p c = true := by
 have := h ⟨c.toNat, c.toNat_lt⟩
 simpa using this
theorem in_run (c : UInt8) : inB c (smallS ++ tensS ++ ⟨#[95]⟩) = runB c := by
 have := byte_all (p := fun c => inB c (smallS ++ tensS ++ ⟨#[95]⟩) == runB c) (by decide +kernel) c
 simpa using this

theorem getB {s : ByteArray} {i : Nat} (h : i < s.size) : s.data.toList[i]'(by simpa using h) = s[i] := by
 show _ = s.data[i]
 simp
theorem all_iff {s : ByteArray} {p : UInt8 → Bool} : s.data.toList.all p = true ↔ ∀ (i : Nat) (h : i < s.size), p s[i] = true := by
 rw [List.all_eq_true]
 constructor
 ·intro h i hi
  exact h _ (by show s.data[i] ∈ _; simp)
 ·intro h c hc
  obtain ⟨i, hi, e⟩ := List.mem_iff_getElem.1 hc
  have := h i (by simpa using hi)
  rw [← getB (by simpa using hi), e] at this
  exact this
theorem head_at {s : ByteArray} (h : 0 < s.size) : s.data.toList.headD 0 = s[0] := by
 rw [← getB h]
 rw [List.headD_eq_head?_getD, List.head?_eq_getElem?, List.getElem?_eq_getElem (by simpa using h)]; rfl

end Go.Proofs.YtkojcamlllenkaaDoor
/- Contract of lex.number: the token of a text that begins with a digit. Condition: the text is not empty, and no longer than Go's longest length. -/
namespace Go.Proofs.YtkojcamlllenkaaDoor
open Go.RowKit

/-- a call's answer: a token and an error; nothing that was there has changed -/
def RetTok (w : World) (err k n a : Int) (t : ByteArray) (e : Ending) (w' : World) : Prop :=
 e = .returned (.tuple #[.agg #[.int .i64 k, .string t, .int .i64 n, .int .i64 a], .int .i64 err]) ∧ Below w.heap.size w w'

/-- what a run of digits is: the error, the kind, the number -/
def numR (t : ByteArray) : Int × Int × Int :=
 if (t.data.toList.all digB) ∧ ¬ (1 < t.size ∧ t.data.toList.headD 0 = 48) then (if 9 < t.size then (4, 0, 0) else (0, 3, numS t.data.toList)) else (6, 0, 0)

/-- what becomes of a run that is (er, k, n): the token's parts -/
def TokOut (R : Int × Int × Int) (t : ByteArray) (a er k n a' : Int) (t' : ByteArray) : Prop :=
 R = (er, k, n) ∧ a' = (if er = 0 then a else 0) ∧ t' = (if er = 0 then t else ⟨#[]⟩)
theorem TokOut.bad {R : Int × Int × Int} {t t' : ByteArray} {a er k n a' e : Int} (h : TokOut R t a er k n a' t') (he : R = (e, 0, 0)) (h0 : e ≠ 0) : er = e ∧ k = 0 ∧ n = 0 ∧ a' = 0 ∧ t' = ⟨#[]⟩ := by
 obtain ⟨h1, h2, h3⟩ := h
 rw [he] at h1
 simp only [Prod.mk.injEq] at h1
 obtain ⟨rfl, rfl, rfl⟩ := h1
 rw [if_neg h0] at h2 h3
 exact ⟨rfl, rfl, rfl, h2, h3⟩
theorem TokOut.good {R : Int × Int × Int} {t t' : ByteArray} {a er k n a' k1 n1 : Int} (h : TokOut R t a er k n a' t') (he : R = (0, k1, n1)) : er = 0 ∧ k = k1 ∧ n = n1 ∧ a = a' ∧ t = t' := by
 obtain ⟨h1, h2, h3⟩ := h
 rw [he] at h1
 simp only [Prod.mk.injEq] at h1
 obtain ⟨rfl, rfl, rfl⟩ := h1
 rw [if_pos rfl] at h2 h3
 exact ⟨rfl, rfl, rfl, h2.symm, h3.symm⟩

theorem numS_snoc (l : List UInt8) (c : UInt8) : numS (l ++ [c]) = 10 * numS l + ((c.toNat : Int) - 48) := by
 unfold numS; rw [List.foldl_append]; rfl
theorem takeB_snoc {s : ByteArray} {k : Nat} (h : k < s.size) : s.data.toList.take (k + 1) = s.data.toList.take k ++ [s[k]] := by
 rw [List.take_succ_eq_append_getElem (by simpa using h), getB h]

set_option maxHeartbeats 400000 in
theorem number_at (k0 a er k1 n1 a1 : Int) (t t1 : ByteArray) (w : World) (ht : 0 < t.size) (hs : t.size ≤ 9223372036854775807) (ho : TokOut (numR t) t a er k1 n1 a1 t1) :
  Calls Tryd.prog 76 #[.agg #[.int .i64 k0, .string t, .int .i64 0, .int .i64 a]] w
   (RetTok w er k1 n1 a1 t1) := by
 have HOUT := Lib.hid ho
 clear ho
 go_enter Tryd.func76, Tryd.ntmps76
 go_wp2_with fail
 go_loopg [4, 9] t.size (fun g x u wr => (w.alloc (.cells #[.int .i64 k0, .string t, .int .i64 0, .int .i64 a] 116)).alloc (.cells #[.int .i64 0, .string ⟨#[]⟩, .int .i64 0, .int .i64 0] 116) = wr ∧ ∃ k : Nat, k + g = t.size ∧ u = .int .i64 k ∧ ∀ (i : Nat) (hi : i < t.size), i < k → digB t[i] = true)
 case atStart => exact ⟨rfl, 0, by omega, rfl, fun i h hk => by omega⟩
 case round =>
  obtain ⟨rfl, k, hk, rfl, hj⟩ := hrel
  have HJ := Lib.hid hj
  have HK := Lib.hid hk
  clear hj hk
  by_cases hlt : k < t.size
  ·by_cases he : digB (t[k]'hlt) = true
   ·have HE := Lib.hid he
    have a1 : 48 ≤ ((t[k]'hlt).toNat : Int) := by unfold digB at he; rw [decide_eq_true_eq] at he; omega
    have a2 : ((t[k]'hlt).toNat : Int) ≤ 57 := by unfold digB at he; rw [decide_eq_true_eq] at he; omega
    clear he
    go_wp2_with fail
    go_roundg (gk - 1)
    case measure => have := HK.out; omega
    case rel => exact ⟨rfl, k + 1, by have := HK.out; omega, by go_num, fun i hi h => by
     by_cases e : i = k
     ·subst e; exact HE.out
     ·exact HJ.out i hi (by omega)⟩
   ·have HN : Hid (numR t = (6, 0, 0)) := by
     have h : numR t = (6, 0, 0) := by
      unfold numR
      rw [if_neg]
      intro h
      exact he (all_iff.1 h.1 k hlt)
     exact Lib.hid h
    have hb : ((t[k]'hlt).toNat : Int) < 48 ∨ 57 < ((t[k]'hlt).toNat : Int) := by unfold digB at he; rw [decide_eq_true_eq] at he; omega
    obtain ⟨rfl, rfl, rfl, rfl, rfl⟩ := HOUT.out.bad HN.out (by decide)
    clear he
    rcases hb with a1 | a1
    ·go_wp2_with fail
     exact bodyPost_ret (v := .tuple #[.agg #[.int .i64 0, .string ⟨#[]⟩, .int .i64 0, .int .i64 0], .int .i64 6]) (by simp [results, Tryd.results76, go_sem]) rfl (by exact ⟨rfl, ((Below.refl _ _).alloc (Nat.le_refl _) _).alloc (by simp) _⟩)
    ·go_wp2_with fail
     exact bodyPost_ret (v := .tuple #[.agg #[.int .i64 0, .string ⟨#[]⟩, .int .i64 0, .int .i64 0], .int .i64 6]) (by simp [results, Tryd.results76, go_sem]) rfl (by exact ⟨rfl, ((Below.refl _ _).alloc (Nat.le_refl _) _).alloc (by simp) _⟩)
  ·have HA := Lib.hid ((all_iff (p := digB)).2 (fun i hi => HJ.out i hi (by omega)))
   obtain ⟨c0, hc0⟩ : ∃ c, (t[0]'ht).toNat = c := ⟨_, rfl⟩
   have HD := Lib.hid (head_at ht)
   by_cases hz : c0 = 48 ∧ 1 < t.size
   ·obtain ⟨rfl, hz2⟩ := hz
    have HN : Hid (numR t = (6, 0, 0)) := by
     have h : numR t = (6, 0, 0) := by
      unfold numR
      rw [if_neg]
      intro h
      exact h.2 ⟨hz2, by rw [HD.out]; exact UInt8.toNat_inj.1 hc0⟩
     exact Lib.hid h
    obtain ⟨rfl, rfl, rfl, rfl, rfl⟩ := HOUT.out.bad HN.out (by decide)
    have hq : (((t[0]'ht).toNat : Int) == 48) = true := by rw [hc0]; rfl
    clear hc0
    go_wp2_with fail
    exact bodyPost_ret (v := .tuple #[.agg #[.int .i64 0, .string ⟨#[]⟩, .int .i64 0, .int .i64 0], .int .i64 6]) (by simp [results, Tryd.results76, go_sem]) rfl (by exact ⟨rfl, ((Below.refl _ _).alloc (Nat.le_refl _) _).alloc (by simp) _⟩)
   ·have HNZ : Hid (¬ (1 < t.size ∧ t.data.toList.headD 0 = 48)) := by
     have h : ¬ (1 < t.size ∧ t.data.toList.headD 0 = 48) := fun h => hz ⟨by rw [← hc0, ← HD.out, h.2]; rfl, h.1⟩
     exact Lib.hid h
    by_cases h9 : 9 < t.size
    ·have HN : Hid (numR t = (4, 0, 0)) := by
      have h : numR t = (4, 0, 0) := by
       unfold numR
       rw [if_pos ⟨HA.out, HNZ.out⟩, if_pos h9]
      exact Lib.hid h
     obtain ⟨rfl, rfl, rfl, rfl, rfl⟩ := HOUT.out.bad HN.out (by decide)
     have hq : (((t[0]'ht).toNat : Int) == 48) = false := by simp; omega
     clear hc0 hz
     go_wp2_with fail
     exact bodyPost_ret (v := .tuple #[.agg #[.int .i64 0, .string ⟨#[]⟩, .int .i64 0, .int .i64 0], .int .i64 4]) (by simp [results, Tryd.results76, go_sem]) rfl (by exact ⟨rfl, ((Below.refl _ _).alloc (Nat.le_refl _) _).alloc (by simp) _⟩)
    ·have HN : Hid (numR t = (0, 3, numS t.data.toList)) := by
      have h : numR t = (0, 3, numS t.data.toList) := by
       unfold numR
       rw [if_pos ⟨HA.out, HNZ.out⟩, if_neg h9]
      exact Lib.hid h
     obtain ⟨rfl, rfl, HN1, rfl, rfl⟩ := HOUT.out.good HN.out
     have hq : (((t[0]'ht).toNat : Int) == 48) = false ∨ ((((t[0]'ht).toNat : Int) == 48) = true ∧ ¬ (1 < (t.size : Int))) := by
      by_cases h : c0 = 48
      ·exact .inr ⟨by simp; omega, by omega⟩
      ·exact .inl (by simp; omega)
     have h9' : t.size ≤ 9 := by omega
     clear hc0 hz h9
     have HH := Lib.hid HN1
     clear HN1
     rcases hq with hq | ⟨hq, hq2⟩
     all_goals
      go_wp2_with fail
      go_loopg [5, 46] t.size (fun g x u wr => ∃ k : Nat, k + g = t.size ∧ u = .int .i64 k ∧ Blk wr w.heap.size 116 #[.int .i64 3, .string t, .int .i64 (numS (t.data.toList.take k)), .int .i64 a] ∧
       Blk wr (w.heap.size + 1) 116 #[.int .i64 0, .string ⟨#[]⟩, .int .i64 0, .int .i64 0] ∧ Below w.heap.size w wr)
      case atStart => exact ⟨0, by omega, rfl, (Blk.new _ _ _).alloc _, (by have h := Blk.new (w.alloc (.cells #[.int .i64 3, .string t, .int .i64 0, .int .i64 a] 116)) 116 #[.int .i64 0, .string ⟨#[]⟩, .int .i64 0, .int .i64 0]; simpa using h), ((Below.refl _ _).alloc (Nat.le_refl _) _).alloc (by simp) _⟩
      case round =>
       obtain ⟨j, hj, rfl, hB0, hB1, hbl⟩ := hrel
       have HB0 := Lib.hid hB0
       have HB1 := Lib.hid hB1
       have HBL := Lib.hid hbl
       have HJ2 := Lib.hid hj
       clear hj hB1 hbl
       by_cases hlt2 : j < t.size
       ·have c1 : wr.cell? ⟨w.heap.size, 1, none⟩ = some (.string t) := by rw [hB0.cell]; rfl
        have c2 : wr.cell? ⟨w.heap.size, 2, none⟩ = some (.int .i64 (numS (t.data.toList.take j))) := by rw [hB0.cell]; rfl
        have f2 : wr.frozen? ⟨w.heap.size, 2, none⟩ = false := hB0.frozen 2
        have b1 := numS_bd (t.data.toList.take j) (fun c hc => List.all_eq_true.1 HA.out c (List.mem_of_mem_take hc))
        have b2 : (10 : Int) ^ (t.data.toList.take j).length ≤ 10 ^ 8 := by
         have h8 : (t.data.toList.take j).length ≤ 8 := by rw [List.length_take]; omega
         have := Nat.pow_le_pow_right (n := 10) (by decide) h8
         have e : ((10 ^ (t.data.toList.take j).length : Nat) : Int) = 10 ^ (t.data.toList.take j).length := by rw [Int.natCast_pow]; rfl
         omega
        obtain ⟨b3, b4⟩ := b1
        have HS := Lib.hid (numS_snoc (t.data.toList.take j) (t[j]'hlt2))
        have b5 : numS (t.data.toList.take j) < 100000000 := by omega
        obtain ⟨m, hm⟩ : ∃ m, numS (t.data.toList.take j) = m := ⟨_, rfl⟩
        rw [hm] at c2 b3 b5
        have HM := Lib.hid hm
        have a1 : 48 ≤ ((t[j]'hlt2).toNat : Int) := by have he := all_iff.1 HA.out j hlt2; unfold digB at he; rw [decide_eq_true_eq] at he; omega
        have a2 : ((t[j]'hlt2).toNat : Int) ≤ 57 := by have he := all_iff.1 HA.out j hlt2; unfold digB at he; rw [decide_eq_true_eq] at he; omega
        have g0 : (0 : Int) ≤ (j : Int) := by omega
        have g1 : (j : Int) < (t.size : Int) := by omega
        clear hB0 b2 b4 hm hq
        go_wp2_with fail
        go_region
        go_wp2_with fail
        go_roundg (gk - 1)
        case measure => have := HJ2.out; omega
        case rel => exact ⟨j + 1, by have := HJ2.out; omega, by go_num, ((HB0.out.set_ 2 _).drew).to (by rw [takeB_snoc hlt2, HS.out, HM.out]; rfl), (HB1.out.far (by simp) _).drew, (HBL.out.setCell (Nat.le_refl _) _).drew⟩
       ·have e1 : t.data.toList.take j = t.data.toList := List.take_of_length_le (by have := HJ2.out; simp; omega)
        rw [e1, ← HH.out] at hB0
        have c0 : wr.cell? ⟨w.heap.size, 0, none⟩ = some (.int .i64 3) := by rw [hB0.cell]; rfl
        have c1 : wr.cell? ⟨w.heap.size, 1, none⟩ = some (.string t) := by rw [hB0.cell]; rfl
        have c2 : wr.cell? ⟨w.heap.size, 2, none⟩ = some (.int .i64 n1) := by rw [hB0.cell]; rfl
        have c3 : wr.cell? ⟨w.heap.size, 3, none⟩ = some (.int .i64 a) := by rw [hB0.cell]; rfl
        have d0 : wr.cell? ⟨w.heap.size + 1, 0, none⟩ = some (.int .i64 0) := by rw [HB1.out.cell]; rfl
        have d1 : wr.cell? ⟨w.heap.size + 1, 1, none⟩ = some (.string ⟨#[]⟩) := by rw [HB1.out.cell]; rfl
        have d2 : wr.cell? ⟨w.heap.size + 1, 2, none⟩ = some (.int .i64 0) := by rw [HB1.out.cell]; rfl
        have d3 : wr.cell? ⟨w.heap.size + 1, 3, none⟩ = some (.int .i64 0) := by rw [HB1.out.cell]; rfl
        have df : ∀ i, wr.frozen? ⟨w.heap.size + 1, i, none⟩ = false := fun i => HB1.out.frozen i
        clear hB0 e1 hq
        go_wp2_with fail
        exact bodyPost_ret (v := .tuple #[.agg #[.int .i64 3, .string t, .int .i64 n1, .int .i64 a], .int .i64 0]) (by simp [results, Tryd.results76, go_sem, d0, d1, d2, d3]) rfl (by exact ⟨rfl, ((((HBL.out.setCell (by simp) _).setCell (by simp) _).setCell (by simp) _).setCell (by simp) _)⟩)
end Go.Proofs.YtkojcamlllenkaaDoor
/- Contract of lex.run: the token of a run. Conditions: the text is a run: it is not empty, and all its bytes are a run's. -/
namespace Go.Proofs.YtkojcamlllenkaaDoor
open Go.RowKit

theorem words_small : ∀ x ∈ wordList, smallB (x.data.toList.headD 0) = true := by decide
theorem word_head {t : ByteArray} (h : wordB t = true) : smallB (t.data.toList.headD 0) = true := by
 unfold wordB at h
 rw [decide_eq_true_eq, place_mem] at h
 exact words_small t h
theorem name_of {t : ByteArray} (h0 : 0 < t.size) (hr : t.data.toList.all runB = true) (hs : smallB (t.data.toList.headD 0) = true) (h16 : t.size ≤ 16) (hw : wordB t = false) : nameB t = true := by
 refine nameB_yes ⟨h0, h16, fun h => ?_, fun i hi => ?_, hw⟩
 ·rw [head_at h0] at hs
  unfold smallB at hs
  rw [decide_eq_true_eq] at hs
  exact hs
 ·have := all_iff.1 hr i hi
  unfold runB at this
  rw [decide_eq_true_eq] at this
  exact this

theorem runR_dig {t : ByteArray} (h : digB (t.data.toList.headD 0) = true) : runR t = numR t := by
 have h1 : smallB (t.data.toList.headD 0) = false := by
  unfold digB at h; unfold smallB
  rw [decide_eq_true_eq] at h; rw [decide_eq_false_iff_not]; omega
 have h2 : wordB t = false := by
  cases hw : wordB t
  ·rfl
  ·rw [word_head hw] at h1; cases h1
 have h3 : ¬ (t.data.toList.headD 0 = 95) := by
  intro e; rw [e] at h; exact absurd h (by decide)
 unfold runR numR
 rw [h2, h1, if_neg (by decide), if_neg (fun h => h.elim (fun h => absurd h (by decide)) h3)]
theorem runR_word {t : ByteArray} (h : wordB t = true) : runR t = (0, 1, 0) := by
 unfold runR; rw [if_pos h]
theorem runR_line {t : ByteArray} (h : wordB t = false) (h2 : t.data.toList.headD 0 = 95) : runR t = (6, 0, 0) := by
 unfold runR; rw [h, h2, if_neg (by decide), if_pos (.inr rfl), if_neg (fun e => absurd e.1 (by decide)), if_neg (by decide)]
theorem runR_long {t : ByteArray} (h : wordB t = false) (h2 : smallB (t.data.toList.headD 0) = true) (h3 : 16 < t.size) : runR t = (4, 0, 0) := by
 unfold runR; rw [h, if_neg (by decide), if_pos (.inl h2), if_pos ⟨h2, h3⟩]
theorem runR_name {t : ByteArray} (h : wordB t = false) (h2 : smallB (t.data.toList.headD 0) = true) (h3 : t.size ≤ 16) : runR t = (0, 2, 0) := by
 unfold runR; rw [h, if_neg (by decide), if_pos (.inl h2), if_neg (fun e => by have := e.2; omega), if_pos h2]

theorem head_cases {t : ByteArray} (h0 : 0 < t.size) (hr : t.data.toList.all runB = true) :
  (digB (t.data.toList.headD 0) = true ∧ 48 ≤ (t[0].toNat : Int) ∧ (t[0].toNat : Int) ≤ 57) ∨ (t.data.toList.headD 0 = 95 ∧ t[0].toNat = 95) ∨ (smallB (t.data.toList.headD 0) = true ∧ 97 ≤ (t[0].toNat : Int) ∧ (t[0].toNat : Int) ≤ 122) := by
 have := all_iff.1 hr 0 h0
 rw [head_at h0]
 unfold runB at this
 rw [decide_eq_true_eq] at this
 rcases this with h | h | h
 ·exact .inr (.inr ⟨by unfold smallB; rw [decide_eq_true_eq]; exact h, by omega, by omega⟩)
 ·exact .inl ⟨by unfold digB; rw [decide_eq_true_eq]; exact h, by omega, by omega⟩
 ·exact .inr (.inl ⟨UInt8.toNat_inj.1 h, h⟩)

theorem wordP_at (s : ByteArray) (b : Bool) (w : World) (h : wordB s = b) : Calls Tryd.prog 77 #[.string s] w fun e w' => e = .returned (.bool b) ∧ Below w.heap.size w w' := by
 rw [← h]; exact nmword_any s w
theorem nameP_at (s : ByteArray) (b : Bool) (w : World) (h : nameB s = b) : Calls Tryd.prog 74 #[.string s] w fun e w' => e = .returned (.bool b) ∧ Below w.heap.size w w' := by
 rw [← h]; exact pis_any s w

set_option maxHeartbeats 400000 in
theorem lrun_at (a er k1 n1 a1 : Int) (t t1 : ByteArray) (w : World) (ht : 0 < t.size) (hs : t.size ≤ 9223372036854775807) (hr : t.data.toList.all runB = true) (ho : TokOut (runR t) t a er k1 n1 a1 t1) :
  Calls Tryd.prog 61 #[.string t, .int .i64 a] w (RetTok w er k1 n1 a1 t1) := by
 have HOUT := Lib.hid ho
 have HR := Lib.hid hr
 have hhc := head_cases ht hr
 clear ho hr
 have HBA : Hid (Below w.heap.size w ((w.alloc (.cells #[.int .i64 0, .string ⟨#[]⟩, .int .i64 0, .int .i64 0] 116)).alloc (.cells #[.int .i64 2, .string t, .int .i64 0, .int .i64 a] 116))) := Lib.hid (((Below.refl _ _).alloc (Nat.le_refl _) _).alloc (by simp) _)
 have HB0 : Hid (Blk ((w.alloc (.cells #[.int .i64 0, .string ⟨#[]⟩, .int .i64 0, .int .i64 0] 116)).alloc (.cells #[.int .i64 2, .string t, .int .i64 0, .int .i64 a] 116)) w.heap.size 116 #[.int .i64 0, .string ⟨#[]⟩, .int .i64 0, .int .i64 0]) := Lib.hid ((Blk.new _ _ _).alloc _)
 have HB1 : Hid (Blk ((w.alloc (.cells #[.int .i64 0, .string ⟨#[]⟩, .int .i64 0, .int .i64 0] 116)).alloc (.cells #[.int .i64 2, .string t, .int .i64 0, .int .i64 a] 116)) (w.heap.size + 1) 116 #[.int .i64 2, .string t, .int .i64 0, .int .i64 a]) := by
  have h := Blk.new (w.alloc (.cells #[.int .i64 0, .string ⟨#[]⟩, .int .i64 0, .int .i64 0] 116)) 116 #[.int .i64 2, .string t, .int .i64 0, .int .i64 a]
  exact Lib.hid (by simpa using h)
 have hsz : w.heap.size + 1 < ((w.alloc (.cells #[.int .i64 0, .string ⟨#[]⟩, .int .i64 0, .int .i64 0] 116)).alloc (.cells #[.int .i64 2, .string t, .int .i64 0, .int .i64 a] 116)).heap.size := by simp
 rcases hhc with ⟨hd, g1, g2⟩ | ⟨hd, g1⟩ | ⟨hd, g1, g2⟩
 ·have HN := Lib.hid (runR_dig hd)
  clear hd
  go_enter Tryd.func61, Tryd.ntmps61
  go_wp2_with fail
  generalize ((w.alloc (.cells #[.int .i64 0, .string ⟨#[]⟩, .int .i64 0, .int .i64 0] 116)).alloc (.cells #[.int .i64 2, .string t, .int .i64 0, .int .i64 a] 116)) = wb at *
  refine (number_at 2 a er k1 n1 a1 t t1 _ ht hs (by have h := HOUT.out; rw [HN.out] at h; exact h)).mono ?_; rintro e w1 ⟨rfl, hb1⟩
  have B0 := HB0.out.below hb1 (by omega)
  have HB2 := Lib.hid (HBA.out.trans (hb1.mono HBA.out.size))
  have d0 : w1.cell? ⟨w.heap.size, 0, none⟩ = some (.int .i64 0) := by rw [B0.cell]; rfl
  have d1 : w1.cell? ⟨w.heap.size, 1, none⟩ = some (.string ⟨#[]⟩) := by rw [B0.cell]; rfl
  have d2 : w1.cell? ⟨w.heap.size, 2, none⟩ = some (.int .i64 0) := by rw [B0.cell]; rfl
  have d3 : w1.cell? ⟨w.heap.size, 3, none⟩ = some (.int .i64 0) := by rw [B0.cell]; rfl
  have df : ∀ i, w1.frozen? ⟨w.heap.size, i, none⟩ = false := fun i => B0.frozen i
  clear B0 hb1
  go_wp2_with fail
  exact bodyPost_ret (v := .tuple #[.agg #[.int .i64 k1, .string t1, .int .i64 n1, .int .i64 a1], .int .i64 er]) (by simp [results, Tryd.results61, go_sem, d0, d1, d2, d3]) rfl (by exact ⟨rfl, ((((HB2.out.setCell (by simp) _).setCell (by simp) _).setCell (by simp) _).setCell (by simp) _)⟩)
 ·have hne : ¬ (((t[0]'ht).toNat : Int) ≤ 57) := by omega
  have hd57 : decide (((t[0]'ht).toNat : Int) ≤ 57) = false := by simpa using hne
  have hq95 : (((t[0]'ht).toNat : Int) == 95) = true := by rw [g1]; rfl
  have g48 : 48 ≤ ((t[0]'ht).toNat : Int) := by omega
  have HW : Hid (wordB t = false) := by
   have h : wordB t = false := by
    cases hw : wordB t
    ·rfl
    ·have := word_head hw; rw [hd] at this; exact absurd this (by decide)
   exact Lib.hid h
  obtain ⟨rfl, rfl, rfl, rfl, rfl⟩ := HOUT.out.bad (runR_line HW.out hd) (by decide)
  clear hd g1
  go_enter Tryd.func61, Tryd.ntmps61
  go_wp2_with fail
  generalize ((w.alloc (.cells #[.int .i64 0, .string ⟨#[]⟩, .int .i64 0, .int .i64 0] 116)).alloc (.cells #[.int .i64 2, .string t, .int .i64 0, .int .i64 a] 116)) = wb at *
  refine (wordP_at t false _ HW.out).mono ?_; rintro e w1 ⟨rfl, hb1⟩
  have B0 := HB0.out.below hb1 (by omega)
  have HB2 := Lib.hid (HBA.out.trans (hb1.mono HBA.out.size))
  have d0 : w1.cell? ⟨w.heap.size, 0, none⟩ = some (.int .i64 0) := by rw [B0.cell]; rfl
  have d1 : w1.cell? ⟨w.heap.size, 1, none⟩ = some (.string ⟨#[]⟩) := by rw [B0.cell]; rfl
  have d2 : w1.cell? ⟨w.heap.size, 2, none⟩ = some (.int .i64 0) := by rw [B0.cell]; rfl
  have d3 : w1.cell? ⟨w.heap.size, 3, none⟩ = some (.int .i64 0) := by rw [B0.cell]; rfl
  have df : ∀ i, w1.frozen? ⟨w.heap.size, i, none⟩ = false := fun i => B0.frozen i
  clear B0 hb1
  go_wp2_with fail
  exact bodyPost_ret (v := .tuple #[.agg #[.int .i64 0, .string ⟨#[]⟩, .int .i64 0, .int .i64 0], .int .i64 6]) (by simp [results, Tryd.results61, go_sem, d0, d1, d2, d3]) rfl (by exact ⟨rfl, ((((HB2.out.setCell (by simp) _).setCell (by simp) _).setCell (by simp) _).setCell (by simp) _)⟩)
 ·have hd57 : decide (((t[0]'ht).toNat : Int) ≤ 57) = false := by simp; omega
  have hq95 : (((t[0]'ht).toNat : Int) == 95) = false := by simp; omega
  have g48 : 48 ≤ ((t[0]'ht).toNat : Int) := by omega
  have HD := Lib.hid hd
  clear hd
  cases hw : wordB t
  ·have HW := Lib.hid hw
   clear hw
   by_cases h16 : 16 < t.size
   ·obtain ⟨rfl, rfl, rfl, rfl, rfl⟩ := HOUT.out.bad (runR_long HW.out HD.out h16) (by decide)
    go_enter Tryd.func61, Tryd.ntmps61
    go_wp2_with fail
    generalize ((w.alloc (.cells #[.int .i64 0, .string ⟨#[]⟩, .int .i64 0, .int .i64 0] 116)).alloc (.cells #[.int .i64 2, .string t, .int .i64 0, .int .i64 a] 116)) = wb at *
    refine (wordP_at t false _ HW.out).mono ?_; rintro e w1 ⟨rfl, hb1⟩
    have B0 := HB0.out.below hb1 (by omega)
    have HB2 := Lib.hid (HBA.out.trans (hb1.mono HBA.out.size))
    have d0 : w1.cell? ⟨w.heap.size, 0, none⟩ = some (.int .i64 0) := by rw [B0.cell]; rfl
    have d1 : w1.cell? ⟨w.heap.size, 1, none⟩ = some (.string ⟨#[]⟩) := by rw [B0.cell]; rfl
    have d2 : w1.cell? ⟨w.heap.size, 2, none⟩ = some (.int .i64 0) := by rw [B0.cell]; rfl
    have d3 : w1.cell? ⟨w.heap.size, 3, none⟩ = some (.int .i64 0) := by rw [B0.cell]; rfl
    have df : ∀ i, w1.frozen? ⟨w.heap.size, i, none⟩ = false := fun i => B0.frozen i
    clear B0 hb1
    go_wp2_with fail
    exact bodyPost_ret (v := .tuple #[.agg #[.int .i64 0, .string ⟨#[]⟩, .int .i64 0, .int .i64 0], .int .i64 4]) (by simp [results, Tryd.results61, go_sem, d0, d1, d2, d3]) rfl (by exact ⟨rfl, ((((HB2.out.setCell (by simp) _).setCell (by simp) _).setCell (by simp) _).setCell (by simp) _)⟩)
   ·obtain ⟨rfl, rfl, rfl, rfl, rfl⟩ := HOUT.out.good (runR_name HW.out HD.out (by omega))
    have HNM := Lib.hid (name_of ht HR.out HD.out (by omega) HW.out)
    go_enter Tryd.func61, Tryd.ntmps61
    go_wp2_with fail
    generalize ((w.alloc (.cells #[.int .i64 0, .string ⟨#[]⟩, .int .i64 0, .int .i64 0] 116)).alloc (.cells #[.int .i64 2, .string t, .int .i64 0, .int .i64 a] 116)) = wb at *
    refine (wordP_at t false _ HW.out).mono ?_; rintro e w1 ⟨rfl, hb1⟩
    have HB0b := Lib.hid (HB0.out.below hb1 (by omega))
    have HB1b := Lib.hid (HB1.out.below hb1 (by omega))
    have HB2 := Lib.hid (HBA.out.trans (hb1.mono HBA.out.size))
    have hs1 : w.heap.size + 1 < w1.heap.size := by have := hb1.size; omega
    clear hb1 HB0 HB1
    go_wp2_with fail
    refine (nameP_at t true _ HNM.out).mono ?_; rintro e w2 ⟨rfl, hb1⟩
    have B0 := HB0b.out.below hb1 (by omega)
    have B1 := HB1b.out.below hb1 (by omega)
    have HB3 := Lib.hid (HB2.out.trans (hb1.mono HB2.out.size))
    have d0 : w2.cell? ⟨w.heap.size, 0, none⟩ = some (.int .i64 0) := by rw [B0.cell]; rfl
    have d1 : w2.cell? ⟨w.heap.size, 1, none⟩ = some (.string ⟨#[]⟩) := by rw [B0.cell]; rfl
    have d2 : w2.cell? ⟨w.heap.size, 2, none⟩ = some (.int .i64 0) := by rw [B0.cell]; rfl
    have d3 : w2.cell? ⟨w.heap.size, 3, none⟩ = some (.int .i64 0) := by rw [B0.cell]; rfl
    have c0 : w2.cell? ⟨w.heap.size + 1, 0, none⟩ = some (.int .i64 2) := by rw [B1.cell]; rfl
    have c1 : w2.cell? ⟨w.heap.size + 1, 1, none⟩ = some (.string t) := by rw [B1.cell]; rfl
    have c2 : w2.cell? ⟨w.heap.size + 1, 2, none⟩ = some (.int .i64 0) := by rw [B1.cell]; rfl
    have c3 : w2.cell? ⟨w.heap.size + 1, 3, none⟩ = some (.int .i64 a) := by rw [B1.cell]; rfl
    have df : ∀ i, w2.frozen? ⟨w.heap.size, i, none⟩ = false := fun i => B0.frozen i
    clear B0 B1 hb1
    go_wp2_with fail
    exact bodyPost_ret (v := .tuple #[.agg #[.int .i64 2, .string t, .int .i64 0, .int .i64 a], .int .i64 0]) (by simp [results, Tryd.results61, go_sem, d0, d1, d2, d3]) rfl (by exact ⟨rfl, ((((HB3.out.setCell (by simp) _).setCell (by simp) _).setCell (by simp) _).setCell (by simp) _)⟩)
  ·have HW := Lib.hid hw
   clear hw
   obtain ⟨rfl, rfl, rfl, rfl, rfl⟩ := HOUT.out.good (runR_word HW.out)
   go_enter Tryd.func61, Tryd.ntmps61
   go_wp2_with fail
   generalize ((w.alloc (.cells #[.int .i64 0, .string ⟨#[]⟩, .int .i64 0, .int .i64 0] 116)).alloc (.cells #[.int .i64 2, .string t, .int .i64 0, .int .i64 a] 116)) = wb at *
   refine (wordP_at t true _ HW.out).mono ?_; rintro e w2 ⟨rfl, hb1⟩
   have B0 := HB0.out.below hb1 (by omega)
   have B1 := HB1.out.below hb1 (by omega)
   have HB3 := Lib.hid (HBA.out.trans (hb1.mono HBA.out.size))
   have d0 : w2.cell? ⟨w.heap.size, 0, none⟩ = some (.int .i64 0) := by rw [B0.cell]; rfl
   have d1 : w2.cell? ⟨w.heap.size, 1, none⟩ = some (.string ⟨#[]⟩) := by rw [B0.cell]; rfl
   have d2 : w2.cell? ⟨w.heap.size, 2, none⟩ = some (.int .i64 0) := by rw [B0.cell]; rfl
   have d3 : w2.cell? ⟨w.heap.size, 3, none⟩ = some (.int .i64 0) := by rw [B0.cell]; rfl
   have c0 : w2.cell? ⟨w.heap.size + 1, 0, none⟩ = some (.int .i64 2) := by rw [B1.cell]; rfl
   have c1 : w2.cell? ⟨w.heap.size + 1, 1, none⟩ = some (.string t) := by rw [B1.cell]; rfl
   have c2 : w2.cell? ⟨w.heap.size + 1, 2, none⟩ = some (.int .i64 0) := by rw [B1.cell]; rfl
   have c3 : w2.cell? ⟨w.heap.size + 1, 3, none⟩ = some (.int .i64 a) := by rw [B1.cell]; rfl
   have df : ∀ i, w2.frozen? ⟨w.heap.size, i, none⟩ = false := fun i => B0.frozen i
   have cf : ∀ i, w2.frozen? ⟨w.heap.size + 1, i, none⟩ = false := fun i => B1.frozen i
   clear B0 B1 hb1
   go_wp2_with fail
   exact bodyPost_ret (v := .tuple #[.agg #[.int .i64 1, .string t, .int .i64 0, .int .i64 a], .int .i64 0]) (by simp [results, Tryd.results61, go_sem, d0, d1, d2, d3]) rfl (by exact ⟨rfl, (((((HB3.out.setCell (by simp) _).setCell (by simp) _).setCell (by simp) _).setCell (by simp) _).setCell (by simp) _)⟩)
end Go.Proofs.YtkojcamlllenkaaDoor
/- Contract of bushelref35.run: the token of a run. Conditions: the text is a run: it is not empty, and all its bytes are a run's. -/
namespace Go.Proofs.YtkojcamlllenkaaDoor
open Go.RowKit

end Go.Proofs.YtkojcamlllenkaaDoor
/- Cutting a text into tokens, plainly; slices of tokens of the call's own, and one law for their append. Conditions: those stated. -/
namespace Go.Proofs.YtkojcamlllenkaaDoor
open Go.RowKit

structure Tok where
 k : Int
 t : ByteArray
 n : Int
 a : Int
def Tok.cells (x : Tok) : List Value := [.int .i64 x.k, .string x.t, .int .i64 x.n, .int .i64 x.a]
inductive LexR where
 | ok (l : List Tok)
 | bad (a er : Int)

/-- where a run ends -/
def rEndF (s : ByteArray) : Nat → Nat → Nat
 | 0, e => e
 | f + 1, e => if h : e < s.size then (if runB s[e] then rEndF s f (e + 1) else e) else e
def rEnd (s : ByteArray) (a : Nat) : Nat := rEndF s (s.size - a) a
theorem rEndF_ge (s : ByteArray) : ∀ f e, e ≤ rEndF s f e
 | 0, e => Nat.le_refl _
 | f + 1, e => by
  unfold rEndF
  split
  ·split
   ·have := rEndF_ge s f (e + 1); omega
   ·omega
  ·omega
theorem rEndF_le (s : ByteArray) : ∀ f e, e ≤ s.size → rEndF s f e ≤ s.size
 | 0, e, h => h
 | f + 1, e, h => by
  unfold rEndF
  split
  ·split
   ·exact rEndF_le s f (e + 1) (by omega)
   ·exact h
  ·exact h
theorem rEndF_run (s : ByteArray) : ∀ f e i, e ≤ i → i < rEndF s f e → ∀ h : i < s.size, runB s[i] = true
 | 0, e, i, h1, h2, _ => by unfold rEndF at h2; omega
 | f + 1, e, i, h1, h2, h => by
  unfold rEndF at h2
  split at h2
  ·split at h2
   ·rename_i hr
    by_cases he : i = e
    ·subst he; exact hr
    ·exact rEndF_run s f (e + 1) i (by omega) h2 h
   ·omega
  ·omega
theorem rEndF_step {s : ByteArray} {f e : Nat} (h : e < s.size) (hr : runB s[e] = true) : rEndF s (f + 1) e = rEndF s f (e + 1) := by
 rw [rEndF, dif_pos h, if_pos hr]
theorem rEndF_stop {s : ByteArray} {f e : Nat} (h : e < s.size) (hr : runB s[e] = false) : rEndF s f e = e := by
 cases f
 ·rfl
 ·rw [rEndF, dif_pos h, if_neg (by rw [hr]; decide)]
theorem rEndF_end {s : ByteArray} {f e : Nat} (h : s.size ≤ e) : rEndF s f e = e := by
 cases f
 ·rfl
 ·rw [rEndF, dif_neg (by omega)]
theorem rEnd_step {s : ByteArray} {a : Nat} (h : a < s.size) (hr : runB s[a] = true) : rEnd s a = rEndF s (s.size - (a + 1)) (a + 1) := by
 unfold rEnd
 rw [show s.size - a = (s.size - (a + 1)) + 1 from by omega, rEndF_step h hr]

theorem ext_size {s : ByteArray} {a e : Nat} (h : e ≤ s.size) : (s.extract a e).size = e - a := by
 rw [ByteArray.size_extract]; omega
theorem ext_get {s : ByteArray} {a e i : Nat} (h : e ≤ s.size) (hi : i < (s.extract a e).size) : (s.extract a e)[i] = s[a + i]'(by rw [ext_size h] at hi; omega) := by
 rw [ByteArray.getElem_extract]
theorem run_ext {s : ByteArray} {a : Nat} (h : a < s.size) : (s.extract a (rEnd s a)).data.toList.all runB = true := by
 have hle : rEnd s a ≤ s.size := rEndF_le s _ _ (by omega)
 rw [all_iff]
 intro i hi
 rw [ext_get hle hi]
 rw [ext_size hle] at hi
 exact rEndF_run s (s.size - a) a (a + i) (by omega) (by unfold rEnd at hi; omega) _

def isBlank (c : UInt8) : Prop := c = 32 ∨ c = 10
def isSign (c : UInt8) : Prop := c = 40 ∨ c = 41 ∨ c = 44 ∨ c = 61
instance (c : UInt8) : Decidable (isBlank c) := by unfold isBlank; infer_instance
instance (c : UInt8) : Decidable (isSign c) := by unfold isSign; infer_instance

/-- the tokens from place a on, behind those that were cut -/
def lx (s : ByteArray) : Nat → Nat → List Tok → LexR
  | 0, _, out => .ok (out ++ [⟨0, ⟨#[]⟩, 0, s.size⟩])
  | f + 1, a, out =>
    if h : a < s.size then
      if isBlank s[a] then lx s f (a + 1) out
      else if isSign s[a] then
        (if out.length = 1000 then .bad a 3 else lx s f (a + 1) (out ++ [⟨4, s.extract a (a + 1), 0, a⟩]))
      else if runB s[a] then
        (if (runR (s.extract a (rEnd s a))).1 ≠ 0 then .bad a (runR (s.extract a (rEnd s a))).1
         else if out.length = 1000 then .bad a 3
         else lx s f (rEnd s a) (out ++ [⟨(runR (s.extract a (rEnd s a))).2.1, s.extract a (rEnd s a), (runR (s.extract a (rEnd s a))).2.2, a⟩]))
      else .bad a 6
    else .ok (out ++ [⟨0, ⟨#[]⟩, 0, s.size⟩])
def lexAll (s : ByteArray) : LexR := if 4096 < s.size then .bad 0 4 else lx s s.size 0 []

section
variable {s : ByteArray} {f a : Nat} {out : List Tok}
theorem lx_end (h : s.size ≤ a) : lx s f a out = .ok (out ++ [⟨0, ⟨#[]⟩, 0, s.size⟩]) := by
 cases f
 ·rfl
 ·rw [lx, dif_neg (by omega)]
theorem lx_blank (h : a < s.size) (hb : isBlank s[a]) : lx s (f + 1) a out = lx s f (a + 1) out := by
 rw [lx, dif_pos h, if_pos hb]
theorem lx_sign (h : a < s.size) (hb : ¬ isBlank s[a]) (hs : isSign s[a]) (ho : ¬ out.length = 1000) : lx s (f + 1) a out = lx s f (a + 1) (out ++ [⟨4, s.extract a (a + 1), 0, a⟩]) := by
 rw [lx, dif_pos h, if_neg hb, if_pos hs, if_neg ho]
theorem lx_sign_many (h : a < s.size) (hb : ¬ isBlank s[a]) (hs : isSign s[a]) (ho : out.length = 1000) : lx s (f + 1) a out = .bad a 3 := by
 rw [lx, dif_pos h, if_neg hb, if_pos hs, if_pos ho]
theorem lx_run (h : a < s.size) (hb : ¬ isBlank s[a]) (hs : ¬ isSign s[a]) (hr : runB s[a] = true) {k n : Int} (hR : runR (s.extract a (rEnd s a)) = (0, k, n)) (ho : ¬ out.length = 1000) :
  lx s (f + 1) a out = lx s f (rEnd s a) (out ++ [⟨k, s.extract a (rEnd s a), n, a⟩]) := by
 rw [lx, dif_pos h, if_neg hb, if_neg hs, if_pos hr, hR, if_neg (by simp), if_neg ho]
theorem lx_run_many (h : a < s.size) (hb : ¬ isBlank s[a]) (hs : ¬ isSign s[a]) (hr : runB s[a] = true) {k n : Int} (hR : runR (s.extract a (rEnd s a)) = (0, k, n)) (ho : out.length = 1000) :
  lx s (f + 1) a out = .bad a 3 := by
 rw [lx, dif_pos h, if_neg hb, if_neg hs, if_pos hr, hR, if_neg (by simp), if_pos ho]
theorem lx_run_bad (h : a < s.size) (hb : ¬ isBlank s[a]) (hs : ¬ isSign s[a]) (hr : runB s[a] = true) {er k n : Int} (hR : runR (s.extract a (rEnd s a)) = (er, k, n)) (he : er ≠ 0) :
  lx s (f + 1) a out = .bad a er := by
 rw [lx, dif_pos h, if_neg hb, if_neg hs, if_pos hr, hR, if_pos he]
theorem lx_bad (h : a < s.size) (hb : ¬ isBlank s[a]) (hs : ¬ isSign s[a]) (hr : runB s[a] = false) : lx s (f + 1) a out = .bad a 6 := by
 rw [lx, dif_pos h, if_neg hb, if_neg hs, if_neg (by rw [hr]; decide)]
end

/-- the slice value v of n tokens owns them, in a block from B on -/
def OwnT (w : World) (B : Nat) (e : TypeId) (v : Value) (n : Nat) (xs : List Tok) : Prop := w.ownsRow B e 4 v n (xs.flatMap Tok.cells)
theorem OwnT.nil (w : World) (B : Nat) (e : TypeId) : OwnT w B e (.slice none 0 0) 0 [] := World.ownsRow_nil _ _ _ _
theorem OwnT.form {w : World} {B : Nat} {e : TypeId} {v : Value} {n : Nat} {xs : List Tok} (h : OwnT w B e v n xs) : ∃ a c, v = .slice a n c := by
 rcases h.2 with ⟨rfl, rfl⟩ | ⟨g, cap, cur, rfl, _⟩
 ·exact ⟨none, 0, rfl⟩
 ·exact ⟨_, cap, rfl⟩
theorem OwnT.below {w w' : World} {B N : Nat} {e : TypeId} {v : Value} {n : Nat} {xs : List Tok} (h : OwnT w B e v n xs) (hb : Below N w w') (hN : w.heap.size ≤ N) : OwnT w' B e v n xs := by
 obtain ⟨h1, h2⟩ := h
 refine ⟨h1, ?_⟩
 rcases h2 with h2 | ⟨g, cap, cur, hv, hg, hh, r⟩
 ·exact .inl h2
 ·refine .inr ⟨g, cap, cur, hv, hg, ?_, r⟩
  rw [hb.block g (by have := (Array.getElem?_eq_some_iff.1 hh).1; omega)]; exact hh
theorem OwnT.lt {w : World} {B : Nat} {e : TypeId} {v : Value} {n : Nat} {xs : List Tok} (h : OwnT w B e v n xs) {g : Nat} (hg : v.ownBlock = some g) : B ≤ g ∧ g < w.heap.size := World.ownsRow.lt h g hg

theorem OwnT.alloc {w : World} {B : Nat} {e : TypeId} {v : Value} {n : Nat} {xs : List Tok} (h : OwnT w B e v n xs) (o : Obj) : OwnT (w.alloc o) B e v n xs := World.ownsRow.alloc h o
theorem OwnT.far {w : World} {B : Nat} {e : TypeId} {v : Value} {n : Nat} {xs : List Tok} (h : OwnT w B e v n xs) {p : Addr} (hp : ∀ g, v.ownBlock = some g → g ≠ p.block) (u : Value) : OwnT (w.setCell p u) B e v n xs := by
 obtain ⟨h1, h2⟩ := h
 refine ⟨h1, ?_⟩
 rcases h2 with h2 | ⟨g, cap, cur, hv, hg, hh, r⟩
 ·exact .inl h2
 ·refine .inr ⟨g, cap, cur, hv, hg, ?_, r⟩
  rw [Below.heap_setCell _ _ _ _ (hp g (by rw [hv]; rfl))]; exact hh

theorem grownT_alloc {w : World} {o : Obj} {w' : World} {row : Option Nat} (h : (w.alloc o).grownBy w' row) : w.grownBy w' row :=
 ⟨h.os, h.tape, h.output, by have := h.size; simp at this; omega, fun k hk hne => by
  rw [h.block k (by simp; omega) hne]; exact Below.heap_alloc _ _ _ hk⟩

theorem appendT (t e : TypeId) (hinfo : (Tryd.prog.info? e).map (fun i => (i.zero, i.size, i.bytes)) = some (some (.agg #[.int .i64 0, .string ⟨#[]⟩, .int .i64 0, .int .i64 0]), 4, 40)) (ht : Tryd.prog.underlying t = some (.slice e))
  {ops : Array Oper} {rest : List Oper} {o : Oper} {a : Act} {Q : Exit → Act → World → Prop} (hgd : o.guard = none) (s x : Operand)
  (ho : o.op = .call { callee := .builtin .append, args := #[s, x], argTypes := #[t, t] }) (B : Nat) (wr : World) (v : Value) (n : Nat) (xs : List Tok) (d : Tok)
  (hs : a.eval s = v) (hz : Nat) (hx : a.eval x = .slice (some ⟨hz, 0, none⟩) 1 1) (hzz : wr.heap.size = hz) (hown : OwnT wr B e v n xs) (hn : n ≤ 100000) (hB : B ≤ wr.heap.size)
  (h : ∀ v' w', OwnT w' B e v' (n + 1) (xs ++ [d]) → (∀ w0, Below B w0 wr → Below B w0 w') → wr.grownBy w' v.ownBlock → wpList Tryd.prog ops Q rest (a.put o.dst v') w') :
  wpList Tryd.prog ops Q (o :: rest) a (wr.alloc (.cells #[.int .i64 d.k, .string d.t, .int .i64 d.n, .int .i64 d.a] e)) := by
 subst hzz
 obtain ⟨i0, hi, hz0, hz1, hz2⟩ := info_parts hinfo
 refine wpList_append_lies _ hgd s x t ho B e i0 _ 4 40 ht hi hz0 hz1 hz2 rfl (by decide) v n _ hs (World.ownsRow.alloc hown _) ⟨wr.heap.size, 0, none⟩ 1 1 d.cells hx rfl ?c1 ?c2 (by decide) ?c3 ?c4 ?c5 _ rfl ?_
 case c1 =>
  intro j u hj
  have hc : (wr.alloc (.cells #[.int .i64 d.k, .string d.t, .int .i64 d.n, .int .i64 d.a] e)).cell? ⟨wr.heap.size, j, none⟩ = some u := by
   rw [cell_of_row _ _ _ _ e (0, 0) (heap_alloc_new wr _)]
   unfold Tok.cells at hj
   match j, hj with
   | 0, hj => simpa using hj
   | 1, hj => simpa using hj
   | 2, hj => simpa using hj
   | 3, hj => simpa using hj
   | j + 4, hj => simp at hj
  unfold Addr.add
  split
  ·rename_i h0; rw [h0] at hc; exact hc
  ·simpa using hc
 case c2 => intro u hu; unfold Tok.cells at hu; simp at hu; rcases hu with rfl | rfl | rfl | rfl <;> rfl
 case c3 => unfold maxLen; omega
 case c4 => omega
 case c5 => simp; omega
 intro g cap w' h1 h2 h4 _
 have h3 := grownT_alloc h2
 exact h _ w' (by unfold OwnT; rw [List.flatMap_append]; simpa using h1) (fun w0 hb => hb.grown h3 hB fun k hk => (World.ownsRow.lt hown k hk).1) h3

/-- a call's answer: the tokens, or the place and the error -/
def RetLex (T : TypeId) (w : World) (R : LexR) (e : Ending) (w' : World) : Prop :=
 (∃ l v, R = .ok l ∧ e = .returned (.tuple #[v, .int .i64 0, .int .i64 0]) ∧ OwnT w' w.heap.size T v l.length l ∧ Below w.heap.size w w') ∨
 (∃ a er, R = .bad a er ∧ er ≠ 0 ∧ e = .returned (.tuple #[.slice none 0 0, .int .i64 a, .int .i64 er]) ∧ Below w.heap.size w w')
end Go.Proofs.YtkojcamlllenkaaDoor
/- Plain laws of package lex: tokens that are told one behind the other with a blank behind each are cut into the same ones. Conditions: the text has at most 2000 bytes. -/
namespace Go.Proofs.YtkojcamlllenkaaDoor
open Go.RowKit

/-- a token that is not the end -/
def Good (x : Tok) : Prop := (x.k = 4 ∧ x.n = 0 ∧ ∃ c, isSign c ∧ x.t = ⟨#[c]⟩) ∨ (0 < x.t.size ∧ x.t.data.toList.all runB = true ∧ runR x.t = (0, x.k, x.n))
def sizes : List Tok → Nat
 | [] => 0
 | x :: xs => x.t.size + sizes xs
theorem ba_ext {a b : ByteArray} (h : a.data.toList = b.data.toList) : a = b := ByteArray.ext (Array.ext' h)
theorem ext_list (s : ByteArray) (a e : Nat) : (s.extract a e).data.toList = (s.data.toList.drop a).take (e - a) := by
 rw [ByteArray.data_extract, Array.toList_extract]
/-- the bytes of tokens, a byte behind each -/
def told (sep : UInt8) : List Tok → List UInt8
 | [] => []
 | x :: xs => x.t.data.toList ++ sep :: told sep xs
theorem get_drop {t : ByteArray} {a : Nat} {c : UInt8} {r : List UInt8} (h : t.data.toList.drop a = c :: r) : ∃ hlt : a < t.size, t[a] = c := by
 have h1 : a < t.data.toList.length := by
  have := congrArg List.length h
  rw [List.length_drop, List.length_cons] at this; omega
 have hlt : a < t.size := by simpa using h1
 refine ⟨hlt, ?_⟩
 rw [← getB hlt]
 have := List.drop_eq_getElem_cons h1
 rw [h] at this
 injection this with this _
 exact this.symm
theorem drop_more {t : ByteArray} {a : Nat} {u r : List UInt8} (h : t.data.toList.drop a = u ++ r) : t.data.toList.drop (a + u.length) = r := by
 rw [← List.drop_drop, h, List.drop_left]

theorem run_noblank {c : UInt8} (h : runB c = true) : ¬ isBlank c ∧ ¬ isSign c := by
 constructor
 ·rintro (rfl | rfl) <;> exact absurd h (by decide)
 ·rintro (rfl | rfl | rfl | rfl) <;> exact absurd h (by decide)

theorem runR_kind (t : ByteArray) (k n : Int) (h : runR t = (0, k, n)) : k = 1 ∨ k = 2 ∨ k = 3 := by
 unfold runR at h
 split at h <;> (try split at h) <;> (try split at h) <;> (try split at h) <;> (try split at h)
 all_goals
  have h1 := congrArg (fun r : Int × Int × Int => r.1) h
  have h2 := congrArg (fun r : Int × Int × Int => r.2.1) h
  dsimp only at h1 h2
  omega
end Go.Proofs.YtkojcamlllenkaaDoor
