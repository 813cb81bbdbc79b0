/- Contract of package bushelref02's Text. Conditions: the number is not below 0; at most 100000 digits of base 1000. -/
import Derived.Test.YtkojcamlllenkaaDoorMNtB
import Derived.Test.YtkojcamlllenkaaDoorMRef02
namespace Go.Proofs.YtkojcamlllenkaaDoor
open Go.RowKit

theorem digit_slice (m : Int) (h0 : 0 ≤ m) (h1 : m ≤ 9) (w : World) :
  (Instr.slice 9 (.string ⟨#[48, 49, 50, 51, 52, 53, 54, 55, 56, 57]⟩) (some (.int .i64 m)) (some (.int .i64 (m + 1))) none).run Tryd.prog w = .ok (.string (strOfNums [48 + m])) w := by
 rw [run_slice_string w 9 _ .i64 .i64 m (m + 1) Tryd.underlying9 h0 (by omega) (by show m + 1 ≤ 10; omega)]
 obtain ⟨k, rfl⟩ : ∃ k : Nat, m = k := ⟨m.toNat, by omega⟩
 have hk : k = 0 ∨ k = 1 ∨ k = 2 ∨ k = 3 ∨ k = 4 ∨ k = 5 ∨ k = 6 ∨ k = 7 ∨ k = 8 ∨ k = 9 := by omega
 rcases hk with h | h | h | h | h | h | h | h | h | h <;> subst h <;> rfl
theorem str_cons (c : Int) (l : List Int) : strOfNums [c] ++ strOfNums l = strOfNums (c :: l) := by
 apply ByteArray.ext
 simp [strOfNums]
theorem chars_push (ds : List Int) (d : Int) : (48 + d) :: (chars ds).reverse = (chars (ds ++ [d])).reverse := by simp [chars]
theorem take_more {ds : List Int} {k : Nat} (h : k < ds.length) : ds.take (k + 1) = ds.take k ++ [ds.getD k 0] := by
 rw [List.take_succ_eq_append_getElem h, List.getD_eq_getElem?_getD, List.getElem?_eq_getElem h]
 rfl
theorem sb_cons {c : Int} {l : List Int} (h0 : 0 ≤ c) (h1 : c < 256) : sb (strOfNums (c :: l)) 0 = c := by
 unfold sb
 rw [strOfNums_data]
 simp
 omega
theorem str_tail (c : Int) (l : List Int) : (strOfNums (c :: l)).extract 1 (strOfNums (c :: l)).size = strOfNums l := by
 rw [Lib.extract_eq, strOfNums_data, strOfNums_size]
 simp only [List.map_cons, List.drop_succ_cons, List.drop_zero, List.length_cons, Nat.add_sub_cancel]
 rw [List.take_of_length_le (by simp)]
 rfl
set_option maxHeartbeats 1000000 in
set_option maxRecDepth 100000 in
theorem rtext_any (wn : Bool) (wa : Option Addr) (wl wc : Nat) (z : Int) (w : World) (h : NumC w wn wa wl wc z) (h0 : 0 ≤ z) (hl : wl ≤ 100000) :
  Calls Tryd.prog 51 #[.agg #[.bool wn, .slice wa wl wc]] w fun e w' => ∃ s, e = .returned (.string s) ∧ IsText z s ∧ Below w.heap.size w w' := by
 obtain ⟨xs, hr, hd, ht, hz, -⟩ := h
 have hv0 := (V_bd (B := 1000) (by decide) hd).1
 have HZ : Hid (vf 1000 (fun i => xs.getD i 0) wl = z) := Lib.hid (by
  rw [vf_ext (by rw [hr.1]; exact Nat.le_refl _), hz]
  cases wn <;> simp at hz ⊢
  omega)
 have HR := Lib.hid hr
 have HD := Lib.hid hd
 clear hr hd ht hz hv0
 have hb := (Below.refl w.heap.size w).alloc (Nat.le_refl _) (.cells #[.bool wn, .slice wa wl wc] 104)
 have hk := Blk.new w 104 #[.bool wn, .slice wa wl wc]
 have HB := Lib.hid hb
 have x1 : (w.alloc (.cells #[.bool wn, .slice wa wl wc] 104)).cell? ⟨w.heap.size, 1, none⟩ = some (.slice wa wl wc) := hk.cell 1
 clear hb hk
 go_enter Tryd.func51, Tryd.ntmps51
 go_wp2_with fail
 generalize w.alloc (.cells #[.bool wn, .slice wa wl wc] 104) = v at *
 go_loop [3, 4, 5, 6] (fun s i d k => ∃ (j : Nat) (ds : List Int), i = .int .i64 j ∧ j ≤ wl ∧ s = .string (strOfNums (chars ds).reverse) ∧ Dig 10 ds ∧ ds.length = 3 * j ∧ V 10 ds = vf 1000 (fun i => xs.getD i 0) j) (fun _ i _ _ => wl - (intOf i).toNat)
 case atStart => exact ⟨0, [], rfl, Nat.zero_le _, rfl, Dig.nil, rfl, rfl⟩
 case round =>
  obtain ⟨j, ds, rfl, hj, rfl, hd, hl3, hv⟩ := hrel
  have HDS := Lib.hid hd
  have HL3 := Lib.hid hl3
  have HV := Lib.hid hv
  clear hd hl3 hv
  by_cases hlt : j < wl
  ·obtain ⟨-, -, -, h4⟩ := HR.out.below HB.out (Nat.le_refl _)
   rcases h4 with hcap0 | ⟨ba, oa, rfl, hba, hc⟩
   ·have := HR.out.2.1; omega
   have hc1 := hc j hlt
   have hdr := HD.out.at (by decide) j
   obtain ⟨d, hdd⟩ : ∃ d, xs.getD j 0 = d := ⟨_, rfl⟩
   rw [hdd] at hc1 hdr
   have hd0 : 0 ≤ d := hdr.1
   have hd1 : d < 1000 := hdr.2
   have g1 : (j : Int) < (wl : Int) := by omega
   have HDD := Lib.hid hdd
   clear hc hdd hdr
   go_wp2_with fail
   go_loop [3, 5, 6] (fun s dd k => ∃ (kk : Nat) (es : List Int) (dc : Int), k = .int .i64 kk ∧ kk ≤ 3 ∧ s = .string (strOfNums (chars es).reverse) ∧ dd = .int .i64 dc ∧ Dig 10 es ∧ es.length = 3 * j + kk ∧ 0 ≤ dc ∧ dc < 10 ^ (3 - kk) ∧ V 10 es + 10 ^ (3 * j + kk) * dc = vf 1000 (fun i => xs.getD i 0) j + d * 1000 ^ j) (fun _ _ k => 3 - (intOf k).toNat)
   case atStart => exact ⟨0, ds, d, rfl, by omega, rfl, rfl, HDS.out, HL3.out, hd0, hd1, by rw [HV.out, Nat.add_zero, Int.pow_mul, Int.mul_comm]; rfl⟩
   case round =>
    obtain ⟨kk, es, dc, rfl, hkk, rfl, rfl, hes, hle, hdc0, hdc1, hve⟩ := hrel
    have HES := Lib.hid hes
    have HLE := Lib.hid hle
    have HVE := Lib.hid hve
    have HDC := Lib.hid hdc1
    have hdc2 : dc < 1000 := Int.lt_of_lt_of_le hdc1 (ipow_le (B := 10) (n := 3) (by decide) (by omega))
    clear hes hle hve hdc1
    by_cases hk3 : kk < 3
    ·have hsl := digit_slice (dc % 10) (by omega) (by omega) v
     have hsz : (strOfNums [48 + dc % 10]).size + (strOfNums (chars es).reverse).size ≤ 9223372036854775807 := by
      rw [strOfNums_size, strOfNums_size, List.length_reverse, chars_len, HLE.out]; simp; omega
     have HNX : Hid (V 10 (es ++ [dc % 10]) + 10 ^ (3 * j + (kk + 1)) * (dc / 10) = vf 1000 (fun i => xs.getD i 0) j + d * 1000 ^ j) := Lib.hid (by
      rw [V_snoc, HLE.out, ← HVE.out, ← Nat.add_assoc, Int.pow_succ, Int.mul_assoc, Int.mul_comm (dc % 10), Int.add_assoc, ← Int.mul_add]
      congr 2
      omega)
     have HDC' : Hid (dc / 10 < 10 ^ (3 - (kk + 1))) := Lib.hid (by
      have h := HDC.out
      have e : (10 : Int) ^ (3 - kk) = 10 ^ (3 - (kk + 1)) * 10 := by rw [← Int.pow_succ]; congr 1; omega
      rw [e] at h
      omega)
     go_wp2_with fail
     go_round
     case rel => exact ⟨kk + 1, es ++ [dc % 10], dc / 10, by go_num, by omega, congrArg Value.string (by rw [str_cons, chars_push]), rfl, HES.out.snoc (by omega) (by omega), by rw [List.length_append, HLE.out]; rfl, by omega, HDC'.out, HNX.out⟩
     case measure => simp [intOf]; omega
    ·have hk3' : kk = 3 := by omega
     have hdz : dc = 0 := by have h := HDC.out; rw [hk3'] at h; simp at h; omega
     have HVN : Hid (V 10 es = vf 1000 (fun i => xs.getD i 0) (j + 1)) := Lib.hid (by
      have h := HVE.out
      rw [hdz, Int.mul_zero, Int.add_zero] at h
      rw [h, ← HDD.out]
      rfl)
     have HLN : Hid (es.length = 3 * (j + 1)) := Lib.hid (by rw [HLE.out]; omega)
     clear hdz
     go_wp2_with fail
     go_round
     case rel => exact ⟨j + 1, es, by go_num, by omega, rfl, HES.out, HLN.out, HVN.out⟩
     case measure => simp [intOf]; omega
  ·have hjl : j = wl := by omega
   subst hjl
   have HVZ : Hid (V 10 ds = z) := Lib.hid (by rw [HV.out, HZ.out])
   clear hlt hj
   go_wp2_with fail
   go_loop [3] (fun s => ∃ m : Nat, m ≤ ds.length ∧ s = .string (strOfNums (chars (ds.take m)).reverse) ∧ V 10 (ds.take m) = z) (fun s => match s with | .string b => b.size | _ => 0)
   case atStart => exact ⟨ds.length, Nat.le_refl _, by rw [List.take_length], by rw [List.take_length]; exact HVZ.out⟩
   case round =>
    obtain ⟨m, hm, rfl, hvm⟩ := hrel
    have HVM := Lib.hid hvm
    clear hvm
    rcases Nat.eq_zero_or_pos m with h1 | h1
    ·subst h1
     have hz0 : z = 0 := by rw [← HVM.out]; rfl
     have HZ0 := Lib.hid hz0
     clear hz0
     have hs : strOfNums (chars (ds.take 0)).reverse = ⟨#[]⟩ := rfl
     rw [hs]
     clear hs
     go_wp2_with fail
     go_ret
     exact ⟨_, rfl, ⟨[], Dig.nil, .inl rfl, by rw [HZ0.out]; rfl, rfl⟩, HB.out⟩
    ·obtain ⟨k, rfl⟩ : ∃ k, m = k + 1 := ⟨m - 1, by omega⟩
     have hk := take_more (ds := ds) (k := k) (by omega)
     have hdk := HDS.out.at (by decide) k
     generalize ds.getD k 0 = x at *
     obtain ⟨s, hs⟩ : ∃ s, strOfNums (chars (ds.take (k + 1))).reverse = s := ⟨_, rfl⟩
     have hs2 : s = strOfNums ((48 + x) :: (chars (ds.take k)).reverse) := by rw [← hs, hk, ← chars_push]
     have hp : 0 < s.size := by rw [hs2, strOfNums_size]; simp
     have hsm : s.size ≤ 9223372036854775807 := by rw [hs2, strOfNums_size, List.length_cons, List.length_reverse, chars_len, List.length_take]; have := HL3.out; omega
     have he : s.toList.isEmpty = false := by rw [isEmpty_of]; exact decide_eq_false (by omega)
     have hb : 48 + x = ((s[0]'hp).toNat : Int) := by
      rw [← sb_at hp, hs2, sb_cons (by omega) (by omega)]
      rfl
     have hext : s.extract 1 s.size = strOfNums (chars (ds.take k)).reverse := by rw [hs2]; exact str_tail _ _
     have hszs : s.size = (strOfNums (chars (ds.take k)).reverse).size + 1 := by rw [hs2, strOfNums_size, strOfNums_size]; rfl
     rw [hs]
     have HS := Lib.hid hs
     have HEX := Lib.hid hext
     have HSZ := Lib.hid hszs
     have HK := Lib.hid hk
     clear hs hs2 hext hszs hk
     obtain ⟨c0, hc0⟩ : ∃ c : Int, ((s[0]'hp).toNat : Int) = c := ⟨_, rfl⟩
     have hcx : c0 = 48 + x := by rw [← hc0]; exact hb.symm
     clear hb
     by_cases hx0 : x = 0
     ·have hq : (((s[0]'hp).toNat : Int) == 48) = true := by rw [hc0, hcx, hx0]; rfl
      have HVK : Hid (V 10 (ds.take k) = z) := Lib.hid (by rw [← HVM.out, HK.out, V_snoc, hx0, Int.zero_mul, Int.add_zero])
      clear hcx hx0
      go_wp2_with fail
      go_round
      case rel => exact ⟨k, by omega, congrArg Value.string HEX.out, HVK.out⟩
      case measure =>
       rw [HEX.out]
       show (strOfNums (chars (ds.take k)).reverse).size < s.size
       have := HSZ.out
       omega
     ·have hq : (((s[0]'hp).toNat : Int) == 48) = false := by rw [hc0, hcx]; simp; omega
      have HT : Hid (IsText z s) := Lib.hid ⟨ds.take (k + 1), HDS.out.take _, .inr (by rw [HK.out, List.length_append, List.length_singleton, List.getD_eq_getElem?_getD, List.getElem?_append_right (by simp)]; simpa using hx0), HVM.out, by rw [if_neg (by rw [HK.out]; simp), HS.out]⟩
      clear hcx hx0
      go_wp2_with fail
      go_ret
      exact ⟨_, rfl, HT.out, HB.out⟩
end Go.Proofs.YtkojcamlllenkaaDoor
