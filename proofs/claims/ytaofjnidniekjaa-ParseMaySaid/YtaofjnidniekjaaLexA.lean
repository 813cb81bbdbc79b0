/- Contracts of lex.running and of bushelref35's in, small, tens, all: they only compute. No conditions. -/
import Derived.Test.YtaofjnidniekjaaLexP
namespace Go.Proofs.Ytaofjnidniekjaa
open Go.RowKit

theorem running_at (c : UInt8) (b : Bool) (w : World) (hb : runB c = b) : Calls Try.prog 17 #[.int .u8 c.toNat] w fun e w' => e = .returned (.bool b) ∧ w = w' := by
  have hc : c.toNat < 256 := c.toNat_lt
  unfold runB at hb
  generalize c.toNat = n at *
  have H : (97 ≤ (n : Int) ∧ (n : Int) ≤ 122 ∧ b = true) ∨ (48 ≤ (n : Int) ∧ (n : Int) ≤ 57 ∧ b = true) ∨ (n = 95 ∧ b = true) ∨ (((n : Int) == 95) = false ∧ b = false ∧ ((n : Int) < 48 ∨ (57 < (n : Int) ∧ (n : Int) < 97) ∨ 122 < (n : Int))) := by
    cases b
    · rw [decide_eq_false_iff_not] at hb
      exact .inr (.inr (.inr ⟨by simp; omega, rfl, by omega⟩))
    · rw [decide_eq_true_eq] at hb
      rcases hb with h | h | h
      · exact .inl ⟨by omega, by omega, rfl⟩
      · exact .inr (.inl ⟨by omega, by omega, rfl⟩)
      · exact .inr (.inr (.inl ⟨h, rfl⟩))
  clear hb
  rcases H with ⟨h1, h2, rfl⟩ | ⟨h1, h2, rfl⟩ | ⟨rfl, rfl⟩ | ⟨h0, rfl, h1 | ⟨h1, h2⟩ | h1⟩
  · go_enter Try.func17, Try.ntmps17
    go_wp2_with fail
    go_ret
    exact ⟨rfl, rfl⟩
  · go_enter Try.func17, Try.ntmps17
    go_wp2_with fail
    go_ret
    exact ⟨rfl, rfl⟩
  · go_enter Try.func17, Try.ntmps17
    go_wp2_with fail
    go_ret
    exact ⟨rfl, rfl⟩
  · go_enter Try.func17, Try.ntmps17
    go_wp2_with fail
    go_ret
    exact ⟨rfl, rfl⟩
  · have h4 : decide ((n : Int) ≤ 57) = false := by simp; omega
    go_enter Try.func17, Try.ntmps17
    go_wp2_with fail
    go_ret
    exact ⟨rfl, rfl⟩
  · have h3 : decide ((n : Int) ≤ 122) = false := by simp; omega
    have h4 : decide ((n : Int) ≤ 57) = false := by simp; omega
    go_enter Try.func17, Try.ntmps17
    go_wp2_with fail
    go_ret
    exact ⟨rfl, rfl⟩

/-- is the byte one of the text's? -/
def inB (c : UInt8) (s : ByteArray) : Bool := s.data.toList.any (fun d => d == c)
theorem inB_yes {c : UInt8} {s : ByteArray} {i : Nat} (h : i < s.size) (e : s[i] = c) : inB c s = true := by
  unfold inB
  rw [List.any_eq_true]
  exact ⟨s[i], by show s.data[i] ∈ _; simp, by simp [e]⟩
theorem inB_no {c : UInt8} {s : ByteArray} (h : ∀ (i : Nat) (hi : i < s.size), s[i] ≠ c) : inB c s = false := by
  unfold inB
  rw [List.any_eq_false]
  intro d hd
  obtain ⟨i, hi, e⟩ := List.mem_iff_getElem.1 hd
  have := h i (by simpa using hi)
  rw [← e]
  have h2 : ¬ (s.data[i]'(by simpa using hi)) = c := this
  simpa using h2

theorem in_at (c : UInt8) (s : ByteArray) (b : Bool) (w : World) (hs : s.size ≤ 9223372036854775807) (hb : inB c s = b) : Calls Try.prog 19 #[.int .u8 c.toNat, .string s] w fun e w' => e = .returned (.bool b) ∧ w = w' := by
  have HB := Lib.hid hb
  clear hb
  go_enter Try.func19, Try.ntmps19
  go_wp2_with fail
  go_loopg [5] s.size (fun g u wr => w = wr ∧ ∃ k : Nat, k + g = s.size ∧ u = .int .i64 k ∧ ∀ (i : Nat) (hi : i < s.size), i < k → s[i] ≠ c)
  case atStart => exact ⟨rfl, 0, by omega, rfl, fun i h hk => by omega⟩
  case round =>
    obtain ⟨rfl, k, hk, rfl, hj⟩ := hrel
    have HJ := Lib.hid hj
    have HK := Lib.hid hk
    clear hj hk
    by_cases hlt : k < s.size
    · by_cases he : (s[k]'hlt) = c
      · have h1 : (((s[k]'hlt).toNat : Int) == (c.toNat : Int)) = true := by rw [he]; simp
        have HE := Lib.hid (inB_yes hlt he)
        clear he
        go_wp2_with fail
        go_ret
        exact ⟨ret_boolS (HE.out.symm.trans HB.out), rfl⟩
      · have h1 : (((s[k]'hlt).toNat : Int) == (c.toNat : Int)) = false := by
          simp only [beq_eq_false_iff_ne, ne_eq]
          intro e
          exact he (UInt8.toNat_inj.1 (by omega))
        have HE := Lib.hid he
        clear he
        go_wp2_with fail
        go_roundg (gk - 1)
        case measure => have := HK.out; omega
        case rel => exact ⟨rfl, k + 1, by have := HK.out; omega, by go_num, fun i hi h => by
          by_cases e : i = k
          · subst e; exact HE.out
          · exact HJ.out i hi (by omega)⟩
    · have HE := Lib.hid (inB_no (c := c) (fun i hi => HJ.out i hi (by omega)))
      go_wp2_with fail
      go_ret
      exact ⟨ret_boolS (HE.out.symm.trans HB.out), rfl⟩

def smallS : ByteArray := ⟨#[97, 98, 99, 100, 101, 102, 103, 104, 105, 106, 107, 108, 109, 110, 111, 112, 113, 114, 115, 116, 117, 118, 119, 120, 121, 122]⟩
def tensS : ByteArray := ⟨#[48, 49, 50, 51, 52, 53, 54, 55, 56, 57]⟩
theorem lxsmall_any (w : World) : Calls Try.prog 20 #[] w fun e w' => e = .returned (.string smallS) ∧ w = w' := by
  go_enter Try.func20, Try.ntmps20
  go_wp2_with fail
  go_ret
  exact ⟨rfl, rfl⟩
theorem tens_any (w : World) : Calls Try.prog 21 #[] w fun e w' => e = .returned (.string tensS) ∧ w = w' := by
  go_enter Try.func21, Try.ntmps21
  go_wp2_with fail
  go_ret
  exact ⟨rfl, rfl⟩

theorem byte_all {p : UInt8 → Bool} (h : ∀ n : Fin 256, p (UInt8.ofNat n.val) = true) (c : UInt8) : p c = true := by
  have := h ⟨c.toNat, c.toNat_lt⟩
  simpa using this
theorem in_small (c : UInt8) : inB c smallS = smallB c := by
  have := byte_all (p := fun c => inB c smallS == smallB c) (by decide +kernel) c
  simpa using this
theorem in_tens (c : UInt8) : inB c tensS = digB c := by
  have := byte_all (p := fun c => inB c tensS == digB c) (by decide +kernel) c
  simpa using this
theorem in_run (c : UInt8) : inB c (smallS ++ tensS ++ ⟨#[95]⟩) = runB c := by
  have := byte_all (p := fun c => inB c (smallS ++ tensS ++ ⟨#[95]⟩) == runB c) (by decide +kernel) c
  simpa using this

theorem getB {s : ByteArray} {i : Nat} (h : i < s.size) : s.data.toList[i]'(by simpa using h) = s[i] := by
  show _ = s.data[i]
  simp
theorem all_iff {s : ByteArray} {p : UInt8 → Bool} : s.data.toList.all p = true ↔ ∀ (i : Nat) (h : i < s.size), p s[i] = true := by
  rw [List.all_eq_true]
  constructor
  · intro h i hi
    exact h _ (by show s.data[i] ∈ _; simp)
  · intro h c hc
    obtain ⟨i, hi, e⟩ := List.mem_iff_getElem.1 hc
    have := h i (by simpa using hi)
    rw [← getB (by simpa using hi), e] at this
    exact this
theorem head_at {s : ByteArray} (h : 0 < s.size) : s.data.toList.headD 0 = s[0] := by
  rw [← getB h]
  rw [List.headD_eq_head?_getD, List.head?_eq_getElem?, List.getElem?_eq_getElem (by simpa using h)]; rfl

/-- of the digits -/
theorem all_at (s : ByteArray) (b : Bool) (w : World) (hs : s.size ≤ 9223372036854775807) (hb : s.data.toList.all digB = b) : Calls Try.prog 47 #[.string s, .string tensS] w fun e w' => e = .returned (.bool b) ∧ w = w' := by
  have HB := Lib.hid hb
  clear hb
  go_enter Try.func47, Try.ntmps47
  go_wp2_with fail
  go_loopg [5] s.size (fun g u wr => w = wr ∧ ∃ k : Nat, k + g = s.size ∧ u = .int .i64 k ∧ ∀ (i : Nat) (hi : i < s.size), i < k → digB s[i] = true)
  case atStart => exact ⟨rfl, 0, by omega, rfl, fun i h hk => by omega⟩
  case round =>
    obtain ⟨rfl, k, hk, rfl, hj⟩ := hrel
    have HJ := Lib.hid hj
    have HK := Lib.hid hk
    clear hj hk
    by_cases hlt : k < s.size
    · by_cases he : digB (s[k]'hlt) = true
      · have HE := Lib.hid he
        clear he
        go_wp2_with fail
        refine (in_at (s[k]'hlt) tensS true _ (by decide) ((in_tens _).trans HE.out)).mono ?_; rintro e w1 ⟨rfl, rfl⟩
        go_wp2_with fail
        go_roundg (gk - 1)
        case measure => have := HK.out; omega
        case rel => exact ⟨rfl, k + 1, by have := HK.out; omega, by go_num, fun i hi h => by
          by_cases e : i = k
          · subst e; exact HE.out
          · exact HJ.out i hi (by omega)⟩
      · have he' : digB (s[k]'hlt) = false := by simpa using he
        have HE := Lib.hid he'
        have HN : Hid (s.data.toList.all digB = false) := by
          have h : s.data.toList.all digB = false := by
            cases h : s.data.toList.all digB
            · rfl
            · exact absurd (all_iff.1 h k hlt) he
          exact Lib.hid h
        clear he he'
        go_wp2_with fail
        refine (in_at (s[k]'hlt) tensS false _ (by decide) ((in_tens _).trans HE.out)).mono ?_; rintro e w1 ⟨rfl, rfl⟩
        go_wp2_with fail
        go_ret
        exact ⟨ret_boolS (HN.out.symm.trans HB.out), rfl⟩
    · have HE := Lib.hid ((all_iff (p := digB)).2 (fun i hi => HJ.out i hi (by omega)))
      go_wp2_with fail
      go_ret
      exact ⟨ret_boolS (HE.out.symm.trans HB.out), rfl⟩
end Go.Proofs.Ytaofjnidniekjaa
