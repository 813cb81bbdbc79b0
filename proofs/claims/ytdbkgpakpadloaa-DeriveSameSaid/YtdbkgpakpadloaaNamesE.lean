/- Contracts of names.Twice and bushelref10.Twice: the first place whose string stands ahead of it too. Condition: no string is longer than Go's longest length. -/
import Derived.Test.YtdbkgpakpadloaaNamesB
import Derived.Maps.OwnSet
namespace Go.Proofs.Ytdbkgpakpadloaa
open Go.RowKit Go.Maps Go.WideMaps

theorem quiet_leftS {P : Program} {f : FuncId} {args : Array Value} {w : World} {n : Nat} {v : Value}
    (h : Calls P f args (w.drewN n) fun e w' => e = .returned v ∧ w.drewN n = w') : Calls P f args (w.drewN n) fun e w' => e = .returned v ∧ ∃ m, w' = w.drewN m :=
  h.mono fun _ _ ⟨he, hm⟩ => ⟨he, n, hm.symm⟩
def keyL (s : ByteArray) : Lit := .string s.data.toList
theorem keyL_inj {s t : ByteArray} (h : keyL s = keyL t) : s = t := by
  unfold keyL at h
  injection h with h
  exact ByteArray.ext (Array.ext' h)
/-- the map behind k rounds: where each string was met -/
def DM (xs : List ByteArray) : Nat → DataW Unit
  | 0 => .map []
  | k + 1 => (DM xs k).put (keyL (xs.getD k ByteArray.empty)) (.lit (.int .i64 k))
theorem DM_map (xs : List ByteArray) : ∀ k, IsMap (DM xs k)
  | 0 => isMap_empty
  | k + 1 => (DM_map xs k).put _ _
theorem take_snocS {xs : List ByteArray} {k : Nat} (h : k < xs.length) : xs.take (k + 1) = xs.take k ++ [xs.getD k ByteArray.empty] := by
  rw [List.take_succ_eq_append_getElem h, List.getD_eq_getElem?_getD, List.getElem?_eq_getElem h]; rfl
theorem has_DM (xs : List ByteArray) (s : ByteArray) : ∀ k, k ≤ xs.length → (Maps.has (DM xs k) (keyL s) = true ↔ s ∈ xs.take k)
  | 0, _ => by simp [DM, Maps.has]
  | k + 1, hk => by
    rw [take_snocS (by omega), List.mem_append, List.mem_singleton, ← has_DM xs s k (by omega)]
    by_cases e : s = xs.getD k ByteArray.empty
    · rw [e]
      exact ⟨fun _ => .inr rfl, fun _ => has_put_same (DM_map xs k) (by trivial) _⟩
    · rw [show DM xs (k + 1) = (DM xs k).put (keyL (xs.getD k ByteArray.empty)) (.lit (.int .i64 k)) from rfl, has_put_other (fun h => e (keyL_inj h))]
      exact ⟨.inl, fun h => h.resolve_right e⟩

theorem law_str : Keyed Try.prog 9 := string_keyed Try.underlying9
theorem zero_int (w : World) : (zeroValue 3).run Try.prog w = .ok (.int .i64 0) w := by kernel_rfl
theorem run_makeMap_hint' {P : Program} (t k e : TypeId) (kd : IntKind) (n : Int) (ht : P.underlying t = some (.map k e)) (w : World) :
    (Instr.makeMap t (some (.int kd n))).run P w = .ok (.map (some w.heap.size)) (w.alloc (.map #[] 0)) := by
  simp [Instr.makeMap, run_underlying ht]; rfl

theorem ptwice_any (a : Option Addr) (n cap : Nat) (xs : List ByteArray) (r : Int) (w : World) (h : RowS w a n cap xs) (hr : TwiceIs xs r) (hlen : ∀ s ∈ xs, s.size ≤ maxLen) :
    Calls Try.prog 24 #[.slice a n cap] w fun e w' => e = .returned (.int .i64 r) ∧ Below w.heap.size w w' := by
  have H := Lib.hid h
  have HR := Lib.hid hr
  have HLEN := Lib.hid hlen
  have hn : n ≤ 9223372036854775807 := by have := h.2.1; have := h.2.2.1; unfold maxLen at this; omega
  have hnm : n ≤ maxLen := by have := h.2.1; have := h.2.2.1; omega
  have HL := Lib.hid h.1
  clear h hr hlen
  have hmm := fun (n : Int) (w : World) => run_makeMap_hint' (P := Try.prog) 86 9 3 .i64 n Try.underlying86 w
  go_enter Try.func24, Try.ntmps24
  go_wp2_with fail
  clear hmm
  go_loopg [4, 5, 6, 7, 13] n (fun g x1 x2 x3 x4 u wr => ∃ k : Nat, k + g = n ∧ u = .int .i64 k ∧ Below w.heap.size w wr ∧ wr.ownsMap Try.prog 9 (plainElem Try.prog 3) w.heap.size k (DM xs k) ∧ ∀ j, j < k → xs.getD j ByteArray.empty ∉ xs.take j)
  case atStart => exact ⟨0, by omega, rfl, (Below.refl _ _).alloc (Nat.le_refl _) _, World.ownsMap_made _ _ _ _, fun j hj => by omega⟩
  case round =>
    obtain ⟨k, hk, rfl, hbl, hown, hj⟩ := hrel
    have HBL := Lib.hid hbl
    have HK := Lib.hid hk
    have HJ := Lib.hid hj
    have HO := Lib.hid hown
    clear hj hk hown
    by_cases hlt : k < n
    · have hR := H.out.below hbl (Nat.le_refl _)
      obtain ⟨-, -, -, h4⟩ := hR
      rcases h4 with hcap0 | ⟨b, off, rfl, hb, hc⟩
      · have := H.out.2.1; omega
      have hc1 := hc k hlt
      obtain ⟨x, hx⟩ : ∃ x, xs.getD k ByteArray.empty = x := ⟨_, rfl⟩
      rw [hx] at hc1
      have HX := Lib.hid hx
      have hkey : Hid (keyOf Try.prog 9 (.string x) = some (keyL x)) := by
        have h := keyOf_string_mk Try.underlying9 (HLEN.out x (by rw [← hx]; exact getDs_mem (by rw [HL.out]; exact hlt)))
        exact Lib.hid h
      have HH := Lib.hid (has_DM xs x k (by rw [HL.out]; omega))
      have hkm : k < maxLen := by omega
      clear hc hx hb hbl
      by_cases hm : x ∈ xs.take k
      · have HRK : Hid (r = (k : Int)) := Lib.hid (HR.out.one (.inr ⟨k, rfl, by rw [HL.out]; exact hlt, by rw [HX.out]; exact hm, HJ.out⟩))
        have HT := Lib.hid (HH.out.2 hm)
        clear hm
        go_wp2_with (at_lookup; refine wpList_lookup_own_ok_int _ rfl _ _ 86 rfl 9 3 .i64 law_str Try.underlying86 Try.underlying3 (zero_int _) w.heap.size k _ rfl HO.out _ _ rfl hkey.out ?_; rw [HT.out]; intro c hat hwc)
        go_ret
        exact ⟨ret_ints HRK.out.symm, HBL.out⟩
      · have HNM := Lib.hid hm
        have HT : Hid (Maps.has (DM xs k) (keyL x) = false) := by
          have h : Maps.has (DM xs k) (keyL x) = false := by
            cases h : Maps.has (DM xs k) (keyL x)
            · rfl
            · exact absurd (HH.out.1 h) hm
          exact Lib.hid h
        clear hm
        go_wp2_with (first
          | (at_lookup; refine wpList_lookup_own_ok_int _ rfl _ _ 86 rfl 9 3 .i64 law_str Try.underlying86 Try.underlying3 (zero_int _) w.heap.size k _ rfl HO.out _ _ rfl hkey.out ?_; rw [HT.out]; intro c hat hwc)
          | (at_mapUpdate; refine wpList_mapUpdate_own _ rfl _ _ _ 86 rfl 9 3 law_str Try.underlying86 (plainElem Try.prog 3) w.heap.size k _ rfl HO.out hkm _ _ _ rfl rfl hkey.out _ [] (plainElem_int Try.underlying3 (WalkArith.wf_i64 (by omega))) ?_; intro w1 hown1 hgrow1))
        go_roundg (gk - 1)
        case measure => have := HK.out; omega
        case rel => exact ⟨k + 1, by have := HK.out; omega, by go_num, HBL.out.grown hgrow1 HBL.out.size (fun j hj => by cases hj; exact Nat.le_refl _), by
          show w1.ownsMap _ _ _ _ _ ((DM xs k).put (keyL (xs.getD k ByteArray.empty)) _)
          rw [HX.out]; exact hown1, fun j hj => by
          by_cases e : j = k
          · rw [e, HX.out]; exact HNM.out
          · exact HJ.out j (by omega)⟩
    · have HRK : Hid (r = -1) := Lib.hid (HR.out.one (.inl ⟨rfl, fun j hj => HJ.out j (by rw [HL.out] at hj; omega)⟩))
      go_wp2_with fail
      go_ret
      exact ⟨ret_ints HRK.out.symm, HBL.out⟩
end Go.Proofs.Ytdbkgpakpadloaa
