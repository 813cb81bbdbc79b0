/- Contracts of package bushelref10 and of package names: lists of strings. Conditions: those stated. -/
import Derived.Test.YtehmompbmnejkaaGreatStrs
import Derived.Maps.OwnSet
namespace Go.Proofs.YtehmompbmnejkaaGreat
open Go.RowKit

theorem words_row (w : World) (cs : Array Value) (t : TypeId) (h : cs = (wordList.map Value.string).toArray) : RowS (w.alloc (.cells cs t)) (some ⟨w.heap.size, 0, none⟩) 16 16 wordList := by
 refine ⟨rfl, Nat.le_refl _, by unfold maxLen; omega, .inr ⟨w.heap.size, 0, rfl, by simp, fun i hi => ?_⟩⟩
 rw [cell_of_row _ _ _ cs t (0, 0) (heap_alloc_new w _), h, Nat.zero_add]
 have hl : i < wordList.length := hi
 simp [hl]

theorem rwords_any (w : World) : Calls Tryz.prog 51 #[] w fun e w' => e = .returned (.slice (some ⟨w.heap.size, 0, none⟩) 16 16) ∧ RowS w' (some ⟨w.heap.size, 0, none⟩) 16 16 wordList ∧ Below w.heap.size w w' := by
 go_enter Tryz.func51, Tryz.ntmps51
 go_wp2
 go_ret
 exact ⟨rfl, words_row _ _ _ rfl, (Below.refl _ _).alloc (Nat.le_refl _) _⟩
theorem pwords_any (w : World) : Calls Tryz.prog 92 #[] w fun e w' => e = .returned (.slice (some ⟨w.heap.size, 0, none⟩) 16 16) ∧ RowS w' (some ⟨w.heap.size, 0, none⟩) 16 16 wordList ∧ Below w.heap.size w w' := by
 go_enter Tryz.func92, Tryz.ntmps92
 go_wp2
 go_ret
 exact ⟨rfl, words_row _ _ _ rfl, (Below.refl _ _).alloc (Nat.le_refl _) _⟩

theorem rplace_any (a : Option Addr) (n cap : Nat) (xs : List ByteArray) (s : ByteArray) (w : World) (h : RowS w a n cap xs) :
  Calls Tryz.prog 50 #[.slice a n cap, .string s] w fun e w' => e = .returned (.int .i64 (place xs s)) ∧ w = w' := by
 have H := Lib.hid h
 have hn : n ≤ 9223372036854775807 := by have := h.2.1; have := h.2.2.1; unfold maxLen at this; omega
 have HL := Lib.hid h.1
 clear h
 go_enter Tryz.func50, Tryz.ntmps50
 go_wp2_with fail
 go_loopg [5] n (fun g u wr => w = wr ∧ ∃ k : Nat, k + g = n ∧ u = .int .i64 k ∧ ∀ j, j < k → xs.getD j ByteArray.empty ≠ s)
 case atStart => exact ⟨rfl, 0, by omega, rfl, fun j hj => by omega⟩
 case round =>
  obtain ⟨rfl, k, hk, rfl, hj⟩ := hrel
  have HJ := Lib.hid hj
  have HK := Lib.hid hk
  clear hj hk
  by_cases hlt : k < n
  ·obtain ⟨-, -, -, h4⟩ := H.out
   rcases h4 with hcap0 | ⟨b, off, rfl, hb, hc⟩
   ·have := H.out.2.1; omega
   have hc1 := hc k hlt
   obtain ⟨x, hx⟩ : ∃ x, xs.getD k ByteArray.empty = x := ⟨_, rfl⟩
   rw [hx] at hc1
   have HX := Lib.hid hx
   clear hc hx
   by_cases he : x = s
   ·have hq := str_eq he
    have HE := Lib.hid he
    clear he
    go_wp2_with fail
    go_ret
    exact ⟨ret_ints (place_some (by rw [HL.out]; exact hlt) (HX.out.trans HE.out) HJ.out).symm, rfl⟩
   ·have hq := str_ne he
    have HE := Lib.hid he
    clear he
    go_wp2_with fail
    go_roundg (gk - 1)
    case measure => have := HK.out; omega
    case rel => exact ⟨rfl, k + 1, by have := HK.out; omega, by go_num, fun j hj => by
     by_cases h : j = k
     ·rw [h, HX.out]; exact HE.out
     ·exact HJ.out j (by omega)⟩
  ·go_wp2_with fail
   go_ret
   exact ⟨ret_ints (place_none fun hm => by
    obtain ⟨j, hj, e⟩ := mem_getDs hm
    exact HJ.out j (by rw [HL.out] at hj; omega) e).symm, rfl⟩

end Go.Proofs.YtehmompbmnejkaaGreat
/- Contracts of package names and bushelref10: Same, Word, Is. Conditions: those stated. -/
namespace Go.Proofs.YtehmompbmnejkaaGreat
open Go.RowKit

theorem bl_trans : ∀ (x y z : List UInt8), Op.bytesLess x y = true → Op.bytesLess y z = true → Op.bytesLess x z = true
 | [], [], _, h, _ => by simp [Op.bytesLess] at h
 | [], _ :: _, [], _, h => by simp [Op.bytesLess] at h
 | [], _ :: _, _ :: _, _, _ => by simp [Op.bytesLess]
 | _ :: _, [], _, h, _ => by simp [Op.bytesLess] at h
 | _ :: _, _ :: _, [], _, h => by simp [Op.bytesLess] at h
 | a :: x, b :: y, c :: z, h1, h2 => by
  rw [Op.bytesLess, Bool.or_eq_true, Bool.and_eq_true, decide_eq_true_eq, beq_iff_eq] at h1 h2 ⊢
  rcases h1 with h1 | ⟨rfl, h1⟩ <;> rcases h2 with h2 | ⟨rfl, h2⟩
  ·exact .inl (UInt8.lt_trans h1 h2)
  ·exact .inl h1
  ·exact .inl h2
  ·exact .inr ⟨rfl, bl_trans x y z h1 h2⟩
theorem bl_irr : ∀ (x : List UInt8), Op.bytesLess x x = false
 | [] => by simp [Op.bytesLess]
 | a :: x => by simp [Op.bytesLess, bl_irr x]

theorem words_sorted : ∀ k, k < 16 → ∀ j, j < k → Op.bytesLess (wordList.getD j ByteArray.empty).toList (wordList.getD k ByteArray.empty).toList = true := by
 simp only [Lib.toList_data]
 decide

def wordB (s : ByteArray) : Bool := decide (0 ≤ place wordList s)
theorem wordB_yes {s : ByteArray} {k : Nat} (hk : k < 16) (h : wordList.getD k ByteArray.empty = s) : wordB s = true := by
 unfold wordB
 rw [decide_eq_true_eq, place_mem, ← h]
 exact getDs_mem hk
theorem wordB_no {s : ByteArray} (h : ∀ j, j < 16 → wordList.getD j ByteArray.empty ≠ s) : wordB s = false := by
 unfold wordB
 rw [decide_eq_false_iff_not, place_mem]
 intro hm
 obtain ⟨j, hj, e⟩ := mem_getDs hm
 exact h j hj e

theorem nmword_any (s : ByteArray) (w : World) : Calls Tryz.prog 64 #[.string s] w fun e w' => e = .returned (.bool (wordB s)) ∧ Below w.heap.size w w' := by
 go_enter Tryz.func64, Tryz.ntmps64
 go_wp2_with fail
 refine (pwords_any _).mono ?_; rintro e w1 ⟨rfl, hr, hb⟩
 have HR := Lib.hid hr
 have HB := Lib.hid hb
 clear hr hb
 go_wp2_with fail
 go_loopg [4, 5] 16 (fun g u v wr => w1 = wr ∧ ∃ lo hi : Nat, u = .int .i64 lo ∧ v = .int .i64 hi ∧ hi - lo ≤ g ∧ lo ≤ hi ∧ hi ≤ 16 ∧ (∀ j, j < lo → wordList.getD j ByteArray.empty ≠ s) ∧ (∀ j, hi ≤ j → j < 16 → wordList.getD j ByteArray.empty ≠ s))
 case atStart => exact ⟨rfl, 0, 16, rfl, rfl, by omega, by omega, by omega, fun j hj => by omega, fun j h1 h2 => by omega⟩
 case round =>
  obtain ⟨rfl, lo, hi, rfl, rfl, hg, hl, hh, h1, h2⟩ := hrel
  have H1 := Lib.hid h1
  have H2 := Lib.hid h2
  clear h1 h2
  by_cases hlt : lo < hi
  ·obtain ⟨mid, hmid⟩ : ∃ m, m = (lo + hi) / 2 := ⟨_, rfl⟩
   have m1 : lo ≤ mid := by omega
   have m2 : mid < hi := by omega
   have m3 : mid < 16 := by omega
   have m4 : (0 : Int) ≤ (mid : Int) := by omega
   obtain ⟨-, -, -, h4⟩ := HR.out
   rcases h4 with hcap0 | ⟨b, off, e0, hb, hc⟩
   ·omega
   have hc1 := hc mid m3
   simp only [Option.some.injEq, Addr.mk.injEq] at e0
   obtain ⟨rfl, rfl, -⟩ := e0
   rw [Nat.zero_add] at hc1
   obtain ⟨x, hx⟩ : ∃ x, wordList.getD mid ByteArray.empty = x := ⟨_, rfl⟩
   rw [hx] at hc1
   have HX := Lib.hid hx
   have hc2 : w1.cell? ⟨w.heap.size, (lo + hi) / 2, none⟩ = some (.string x) := by rw [← hmid]; exact hc1
   clear hc hx hb hc1
   have HMID := Lib.hid hmid
   clear hmid
   by_cases he : x = s
   ·have hq1 := str_eq he
    have HE := Lib.hid he
    clear he
    go_wp2_with fail
    go_ret
    exact ⟨ret_boolS (wordB_yes m3 (HX.out.trans HE.out)).symm, HB.out⟩
   ·have hq1 := str_ne he
    have HE := Lib.hid he
    clear he
    by_cases hls : Op.bytesLess x.toList s.toList = true
    ·go_wp2_with fail
     go_roundg (hi - (mid + 1))
     case measure => omega
     case rel => exact ⟨rfl, mid + 1, hi, congrArg (Value.int .i64) (by have := HMID.out; omega), rfl, by omega, by omega, by omega, (fun j hj e => by
      by_cases h : j = mid
      ·rw [h, HX.out] at e; exact HE.out e
      ·have hs := words_sorted mid m3 j (by omega)
       rw [HX.out, e] at hs
       have := bl_trans _ _ _ hs hls
       rw [bl_irr] at this; cases this), H2.out⟩
    ·have hls' : Op.bytesLess x.toList s.toList = false := by simpa using hls
     have HLS := Lib.hid hls
     clear hls
     go_wp2_with fail
     go_roundg (mid - lo)
     case measure => omega
     case rel => exact ⟨rfl, lo, mid, rfl, congrArg (Value.int .i64) (by have := HMID.out; omega), by omega, by omega, by omega, H1.out, fun j hj hj2 e => by
      by_cases h : j = mid
      ·rw [h, HX.out] at e; exact HE.out e
      ·have hs := words_sorted j hj2 mid (by omega)
       rw [HX.out, e] at hs
       exact HLS.out hs⟩
  ·go_wp2_with fail
   go_ret
   exact ⟨ret_boolS (wordB_no fun j hj => by
    by_cases h : j < lo
    ·exact H1.out j h
    ·exact H2.out j (by omega) hj).symm, HB.out⟩
end Go.Proofs.YtehmompbmnejkaaGreat
/- Contract of names.Is. Conditions: those stated. -/
namespace Go.Proofs.YtehmompbmnejkaaGreat
open Go.RowKit

/-- a byte of a name -/
def OkC (c : Nat) : Prop := (97 ≤ c ∧ c ≤ 122) ∨ (48 ≤ c ∧ c ≤ 57) ∨ c = 95
/-- when a text is a name -/
def NameP (s : ByteArray) : Prop := 1 ≤ s.size ∧ s.size ≤ 16 ∧ (∀ h : 0 < s.size, 97 ≤ s[0].toNat ∧ s[0].toNat ≤ 122) ∧ (∀ (i : Nat) (h : i < s.size), OkC s[i].toNat) ∧ wordB s = false
noncomputable def nameB (s : ByteArray) : Bool := @decide (NameP s) (Classical.propDecidable _)
theorem nameB_yes {s : ByteArray} (h : NameP s) : nameB s = true := by exact @decide_eq_true _ (Classical.propDecidable _) h
theorem nameB_no {s : ByteArray} (h : ¬ NameP s) : nameB s = false := by exact @decide_eq_false _ (Classical.propDecidable _) h
theorem pis_any (s : ByteArray) (w : World) : Calls Tryz.prog 36 #[.string s] w fun e w' => e = .returned (.bool (nameB s)) ∧ Below w.heap.size w w' := by
 by_cases h0 : s.size = 0
 ·have he : s = ByteArray.empty := by
   apply ByteArray.ext; apply Array.ext'; exact List.eq_nil_of_length_eq_zero h0
  subst he
  have HN := Lib.hid (nameB_no (s := ByteArray.empty) (fun h => by have := h.1; exact absurd this (by decide)))
  go_enter Tryz.func36, Tryz.ntmps36
  go_wp2_with fail
  go_ret
  exact ⟨ret_boolS HN.out.symm, Below.refl _ _⟩
 ·have hs0 : 0 < s.size := by omega
  have hq0 : s.toList.isEmpty = false := by
   rw [Lib.toList_data, List.isEmpty_eq_false_iff]
   intro e; have : s.data.toList.length = 0 := by rw [e]; rfl
   exact h0 this
  by_cases h16 : 16 < s.size
  ·have HN := Lib.hid (nameB_no (s := s) (fun h => by have := h.2.1; omega))
   go_enter Tryz.func36, Tryz.ntmps36
   go_wp2_with fail
   go_ret
   exact ⟨ret_boolS HN.out.symm, Below.refl _ _⟩
  ·obtain ⟨c0, hc0⟩ : ∃ c : Nat, c = (s[0]'hs0).toNat := ⟨_, rfl⟩
   by_cases hsm : 97 ≤ c0 ∧ c0 ≤ 122
   ·obtain ⟨g1, g2⟩ := hsm
    have HC := Lib.hid hc0
    have e1 : ¬ (((s[0]'hs0).toNat : Int) < 97) := by omega
    have e2 : ¬ (122 < ((s[0]'hs0).toNat : Int)) := by omega
    have hsz : s.size ≤ 16 := by omega
    clear hc0 h16 h0
    go_enter Tryz.func36, Tryz.ntmps36
    go_wp2_with fail
    go_loopg [3, 4, 24] s.size (fun g x y u wr => w = wr ∧ ∃ k : Nat, k + g = s.size ∧ u = .int .i64 k ∧ ∀ (i : Nat) (h : i < s.size), i < k → OkC s[i].toNat)
    case atStart => exact ⟨rfl, 0, by omega, rfl, fun i h hk => by omega⟩
    case round =>
     obtain ⟨rfl, k, hk, rfl, hj⟩ := hrel
     have HJ := Lib.hid hj
     have HK := Lib.hid hk
     clear hj hk e1 e2
     by_cases hlt : k < s.size
     ·by_cases hok : OkC (s[k]'hlt).toNat
      ·have HOK := Lib.hid hok
       have hb : (97 ≤ ((s[k]'hlt).toNat : Int) ∧ ((s[k]'hlt).toNat : Int) ≤ 122) ∨ (48 ≤ ((s[k]'hlt).toNat : Int) ∧ ((s[k]'hlt).toNat : Int) ≤ 57) ∨ (95 ≤ ((s[k]'hlt).toNat : Int) ∧ ((s[k]'hlt).toNat : Int) ≤ 95 ∧ (((s[k]'hlt).toNat : Int) != 95) = false) := by
        rcases hok with ⟨a1, a2⟩ | ⟨a1, a2⟩ | a1
        ·exact .inl ⟨by omega, by omega⟩
        ·exact .inr (.inl ⟨by omega, by omega⟩)
        ·exact .inr (.inr ⟨by omega, by omega, by simp; omega⟩)
       clear hok
       rcases hb with ⟨a1, a2⟩ | ⟨a1, a2⟩ | ⟨a1, a2, a3⟩
       all_goals
        go_wp2_with fail
        go_roundg (gk - 1)
        case measure => have := HK.out; omega
        case rel => exact ⟨rfl, k + 1, by have := HK.out; omega, by go_num, fun i h hi => by
         by_cases e : i = k
         ·subst e; exact HOK.out
         ·exact HJ.out i h (by omega)⟩
      ·have HN := Lib.hid (nameB_no (s := s) (fun h => hok (h.2.2.2.1 k hlt)))
       have hb : (((s[k]'hlt).toNat : Int) != 95) = true ∧ (((s[k]'hlt).toNat : Int) < 48 ∨ (57 < ((s[k]'hlt).toNat : Int) ∧ ((s[k]'hlt).toNat : Int) < 97) ∨ 122 < ((s[k]'hlt).toNat : Int)) := by
        unfold OkC at hok
        exact ⟨by simp; omega, by omega⟩
       clear hok
       obtain ⟨a0, hb⟩ := hb
       rcases hb with a1 | ⟨a1, a2⟩ | a1
       all_goals
        go_wp2_with fail
        go_ret
        exact ⟨ret_boolS HN.out.symm, Below.refl _ _⟩
     ·have HN : Hid (nameB s = !wordB s) := by
       have h : nameB s = !wordB s := by
        cases hw : wordB s
        ·exact nameB_yes ⟨by omega, by omega, fun _ => by rw [← HC.out]; exact ⟨g1, g2⟩, fun i h => HJ.out i h (by omega), hw⟩
        ·exact nameB_no (fun h => by have h5 := h.2.2.2.2; rw [hw] at h5; cases h5)
       exact Lib.hid h
      go_wp2_with fail
      refine (nmword_any _ _).mono ?_; rintro e w1 ⟨rfl, hb⟩
      go_wp2_with fail
      go_ret
      exact ⟨ret_boolS HN.out.symm, hb⟩
   ·have HN := Lib.hid (nameB_no (s := s) (fun h => hsm (by rw [hc0]; exact h.2.2.1 hs0)))
    have hb : ((s[0]'hs0).toNat : Int) < 97 ∨ 122 < ((s[0]'hs0).toNat : Int) := by omega
    clear hsm hc0
    rcases hb with a1 | a1
    all_goals
     go_enter Tryz.func36, Tryz.ntmps36
     go_wp2_with fail
     go_ret
     exact ⟨ret_boolS HN.out.symm, Below.refl _ _⟩
end Go.Proofs.YtehmompbmnejkaaGreat
/- Contracts of names.Twice and bushelref10.Twice: the first place whose string stands ahead of it too. Condition: no string is longer than Go's longest length. -/
namespace Go.Proofs.YtehmompbmnejkaaGreat
open Go.RowKit Go.Maps Go.WideMaps

theorem quiet_leftS {P : Program} {f : FuncId} {args : Array Value} {w : World} {n : Nat} {v : Value}
  (h : Calls P f args (w.drewN n) fun e w' => e = .returned v ∧ w.drewN n = w') : Calls P f args (w.drewN n) fun e w' => e = .returned v ∧ ∃ m, w' = w.drewN m :=
 h.mono fun _ _ ⟨he, hm⟩ => ⟨he, n, hm.symm⟩
theorem rplace_at2 (a : Option Addr) (n cap : Nat) (xs : List ByteArray) (s : ByteArray) (r : Int) (w : World) (h : RowS w a n cap xs) (hr : place xs s = r) :
  Calls Tryz.prog 50 #[.slice a n cap, .string s] w fun e w' => e = .returned (.int .i64 r) ∧ w = w' := by
 rw [← hr]; exact rplace_any a n cap xs s w h

theorem rtwice_any (a : Option Addr) (n cap : Nat) (xs : List ByteArray) (r : Int) (w : World) (h : RowS w a n cap xs) (hr : TwiceIs xs r) :
  Calls Tryz.prog 25 #[.slice a n cap] w fun e w' => e = .returned (.int .i64 r) ∧ Below w.heap.size w w' := by
 have H := Lib.hid h
 have HR := Lib.hid hr
 have hcap : n ≤ cap := h.2.1
 have hn : n ≤ 9223372036854775807 := by have := h.2.1; have := h.2.2.1; unfold maxLen at this; omega
 have hcap2 : cap ≤ 9223372036854775807 := by have := h.2.2.1; unfold maxLen at this; omega
 have HL := Lib.hid h.1
 clear h hr
 go_enter Tryz.func25, Tryz.ntmps25
 go_wp2_with fail
 go_loopg [3] n (fun g u wr => ∃ k : Nat, k + g = n ∧ u = .int .i64 k ∧ Below w.heap.size w wr ∧ ∀ j, j < k → xs.getD j ByteArray.empty ∉ xs.take j)
 case atStart => exact ⟨0, by omega, rfl, Below.refl _ _, fun j hj => by omega⟩
 case round =>
  obtain ⟨k, hk, rfl, hbl, hj⟩ := hrel
  have HBL := Lib.hid hbl
  have HK := Lib.hid hk
  have HJ := Lib.hid hj
  clear hj hk
  by_cases hlt : k < n
  ·have hR := H.out.below hbl (Nat.le_refl _)
   have hRT := Lib.hid (hR.take (m := k) (by omega))
   obtain ⟨-, -, -, h4⟩ := hR
   rcases h4 with hcap0 | ⟨b, off, rfl, hb, hc⟩
   ·omega
   have hc1 := hc k hlt
   obtain ⟨x, hx⟩ : ∃ x, xs.getD k ByteArray.empty = x := ⟨_, rfl⟩
   rw [hx] at hc1
   have HX := Lib.hid hx
   have g0 : (0 : Int) ≤ (k : Int) := by omega
   have g1 : (k : Int) < (n : Int) := by omega
   have g2 : (k : Int) ≤ (cap : Int) := by omega
   clear hc hx hb hbl
   obtain ⟨pl, hpl⟩ : ∃ p, place (xs.take k) x = p := ⟨_, rfl⟩
   have HPL := Lib.hid hpl
   have hRD : ∀ q, RowS (wr.drewN q) (some ⟨b, off, none⟩) k cap (xs.take k) := fun q => hRT.out
   have HRD := Lib.hid hRD
   have hp : 0 ≤ pl ↔ x ∈ xs.take k := by rw [← hpl]; exact place_mem
   have HP := Lib.hid hp
   clear hpl hp hRD
   by_cases hq : 0 ≤ pl
   ·have HRK : Hid (r = (k : Int)) := Lib.hid (HR.out.one (.inr ⟨k, rfl, by rw [HL.out]; exact hlt, by rw [HX.out]; exact HP.out.1 hq, HJ.out⟩))
    go_wp2_with fail
    go_quiet ((go_at_call 50; exact quiet_leftS (rplace_at2 _ _ _ _ _ _ _ (HRD.out _) HPL.out)))
    go_wp2_with fail
    go_ret
    exact ⟨ret_ints HRK.out.symm, sbelow_dn HBL.out _⟩
   ·have HNP : Hid (x ∉ xs.take k) := Lib.hid (fun hm => hq (HP.out.2 hm))
    go_wp2_with fail
    go_quiet ((go_at_call 50; exact quiet_leftS (rplace_at2 _ _ _ _ _ _ _ (HRD.out _) HPL.out)))
    go_wp2_with fail
    go_roundg (gk - 1)
    case measure => have := HK.out; omega
    case rel => exact ⟨k + 1, by have := HK.out; omega, by go_num, sbelow_dn HBL.out _, fun j hj => by
     by_cases e : j = k
     ·rw [e, HX.out]; exact HNP.out
     ·exact HJ.out j (by omega)⟩
  ·have HRK : Hid (r = -1) := Lib.hid (HR.out.one (.inl ⟨rfl, fun j hj => HJ.out j (by rw [HL.out] at hj; omega)⟩))
   go_wp2_with fail
   go_ret
   exact ⟨ret_ints HRK.out.symm, HBL.out⟩

def keyL (s : ByteArray) : Lit := .string s.data.toList
theorem keyL_inj {s t : ByteArray} (h : keyL s = keyL t) : s = t := by
 unfold keyL at h
 injection h with h
 exact ByteArray.ext (Array.ext' h)
/-- the map behind k rounds: where each string was met -/
def DM (xs : List ByteArray) : Nat → DataW Unit
 | 0 => .map []
 | k + 1 => (DM xs k).put (keyL (xs.getD k ByteArray.empty)) (.lit (.int .i64 k))
theorem DM_map (xs : List ByteArray) : ∀ k, IsMap (DM xs k)
 | 0 => isMap_empty
 | k + 1 => (DM_map xs k).put _ _
theorem take_snocS {xs : List ByteArray} {k : Nat} (h : k < xs.length) : xs.take (k + 1) = xs.take k ++ [xs.getD k ByteArray.empty] := by
 rw [List.take_succ_eq_append_getElem h, List.getD_eq_getElem?_getD, List.getElem?_eq_getElem h]; rfl
theorem has_DM (xs : List ByteArray) (s : ByteArray) : ∀ k, k ≤ xs.length → (Maps.has (DM xs k) (keyL s) = true ↔ s ∈ xs.take k)
 | 0, _ => by simp [DM, Maps.has]
 | k + 1, hk => by
  rw [take_snocS (by omega), List.mem_append, List.mem_singleton, ← has_DM xs s k (by omega)]
  by_cases e : s = xs.getD k ByteArray.empty
  ·rw [e]
   exact ⟨fun _ => .inr rfl, fun _ => has_put_same (DM_map xs k) (by trivial) _⟩
  ·rw [show DM xs (k + 1) = (DM xs k).put (keyL (xs.getD k ByteArray.empty)) (.lit (.int .i64 k)) from rfl, has_put_other (fun h => e (keyL_inj h))]
   exact ⟨.inl, fun h => h.resolve_right e⟩

theorem law_str : Keyed Tryz.prog 9 := string_keyed Tryz.underlying9
theorem zero_int (w : World) : (zeroValue 3).run Tryz.prog w = .ok (.int .i64 0) w := by kernel_rfl
theorem run_makeMap_hint' {P : Program} (t k e : TypeId) (kd : IntKind) (n : Int) (ht : P.underlying t = some (.map k e)) (w : World) :
  (Instr.makeMap t (some (.int kd n))).run P w = .ok (.map (some w.heap.size)) (w.alloc (.map #[] 0)) := by
 simp [Instr.makeMap, run_underlying ht]; rfl

theorem ptwice_any (a : Option Addr) (n cap : Nat) (xs : List ByteArray) (r : Int) (w : World) (h : RowS w a n cap xs) (hr : TwiceIs xs r) (hlen : ∀ s ∈ xs, s.size ≤ maxLen) :
  Calls Tryz.prog 37 #[.slice a n cap] w fun e w' => e = .returned (.int .i64 r) ∧ Below w.heap.size w w' := by
 have H := Lib.hid h
 have HR := Lib.hid hr
 have HLEN := Lib.hid hlen
 have hn : n ≤ 9223372036854775807 := by have := h.2.1; have := h.2.2.1; unfold maxLen at this; omega
 have hnm : n ≤ maxLen := by have := h.2.1; have := h.2.2.1; omega
 have HL := Lib.hid h.1
 clear h hr hlen
 have hmm := fun (n : Int) (w : World) => run_makeMap_hint' (P := Tryz.prog) 127 9 3 .i64 n Tryz.underlying127 w
 go_enter Tryz.func37, Tryz.ntmps37
 go_wp2_with fail
 clear hmm
 go_loopg [4, 5, 6, 7, 13] n (fun g x1 x2 x3 x4 u wr => ∃ k : Nat, k + g = n ∧ u = .int .i64 k ∧ Below w.heap.size w wr ∧ wr.ownsMap Tryz.prog 9 (plainElem Tryz.prog 3) w.heap.size k (DM xs k) ∧ ∀ j, j < k → xs.getD j ByteArray.empty ∉ xs.take j)
 case atStart => exact ⟨0, by omega, rfl, (Below.refl _ _).alloc (Nat.le_refl _) _, World.ownsMap_made _ _ _ _, fun j hj => by omega⟩
 case round =>
  obtain ⟨k, hk, rfl, hbl, hown, hj⟩ := hrel
  have HBL := Lib.hid hbl
  have HK := Lib.hid hk
  have HJ := Lib.hid hj
  have HO := Lib.hid hown
  clear hj hk hown
  by_cases hlt : k < n
  ·have hR := H.out.below hbl (Nat.le_refl _)
   obtain ⟨-, -, -, h4⟩ := hR
   rcases h4 with hcap0 | ⟨b, off, rfl, hb, hc⟩
   ·have := H.out.2.1; omega
   have hc1 := hc k hlt
   obtain ⟨x, hx⟩ : ∃ x, xs.getD k ByteArray.empty = x := ⟨_, rfl⟩
   rw [hx] at hc1
   have HX := Lib.hid hx
   have hkey : Hid (keyOf Tryz.prog 9 (.string x) = some (keyL x)) := by
    have h := keyOf_string_mk Tryz.underlying9 (HLEN.out x (by rw [← hx]; exact getDs_mem (by rw [HL.out]; exact hlt)))
    exact Lib.hid h
   have HH := Lib.hid (has_DM xs x k (by rw [HL.out]; omega))
   have hkm : k < maxLen := by omega
   clear hc hx hb hbl
   by_cases hm : x ∈ xs.take k
   ·have HRK : Hid (r = (k : Int)) := Lib.hid (HR.out.one (.inr ⟨k, rfl, by rw [HL.out]; exact hlt, by rw [HX.out]; exact hm, HJ.out⟩))
    have HT := Lib.hid (HH.out.2 hm)
    clear hm
    go_wp2_with (at_lookup; refine wpList_lookup_own_ok_int _ rfl _ _ 127 rfl 9 3 .i64 law_str Tryz.underlying127 Tryz.underlying3 (zero_int _) w.heap.size k _ rfl HO.out _ _ rfl hkey.out ?_; rw [HT.out]; intro c hat hwc)
    go_ret
    exact ⟨ret_ints HRK.out.symm, HBL.out⟩
   ·have HNM := Lib.hid hm
    have HT : Hid (Maps.has (DM xs k) (keyL x) = false) := by
     have h : Maps.has (DM xs k) (keyL x) = false := by
      cases h : Maps.has (DM xs k) (keyL x)
      ·rfl
      ·exact absurd (HH.out.1 h) hm
     exact Lib.hid h
    clear hm
    go_wp2_with (first
     | (at_lookup; refine wpList_lookup_own_ok_int _ rfl _ _ 127 rfl 9 3 .i64 law_str Tryz.underlying127 Tryz.underlying3 (zero_int _) w.heap.size k _ rfl HO.out _ _ rfl hkey.out ?_; rw [HT.out]; intro c hat hwc)
     | (at_mapUpdate; refine wpList_mapUpdate_own _ rfl _ _ _ 127 rfl 9 3 law_str Tryz.underlying127 (plainElem Tryz.prog 3) w.heap.size k _ rfl HO.out hkm _ _ _ rfl rfl hkey.out _ [] (plainElem_int Tryz.underlying3 (WalkArith.wf_i64 (by omega))) ?_; intro w1 hown1 hgrow1))
    go_roundg (gk - 1)
    case measure => have := HK.out; omega
    case rel => exact ⟨k + 1, by have := HK.out; omega, by go_num, HBL.out.grown hgrow1 HBL.out.size (fun j hj => by cases hj; exact Nat.le_refl _), by
     show w1.ownsMap _ _ _ _ _ ((DM xs k).put (keyL (xs.getD k ByteArray.empty)) _)
     rw [HX.out]; exact hown1, fun j hj => by
     by_cases e : j = k
     ·rw [e, HX.out]; exact HNM.out
     ·exact HJ.out j (by omega)⟩
  ·have HRK : Hid (r = -1) := Lib.hid (HR.out.one (.inl ⟨rfl, fun j hj => HJ.out j (by rw [HL.out] at hj; omega)⟩))
   go_wp2_with fail
   go_ret
   exact ⟨ret_ints HRK.out.symm, HBL.out⟩
end Go.Proofs.YtehmompbmnejkaaGreat
