/- Contract of package exact's Bytes. Conditions: below 2^2240 units. -/
import Derived.Test.YtfanjmgbkmdmfaaExE
namespace Go.Proofs.Ytfanjmgbkmdmfaa
open Go.RowKit Ieee

theorem wrap_u8 {x y : Int} (h : x % 256 = y) : IntKind.u8.wrap x = y := by
  simp only [IntKind.wrap, IntKind.bits, IntKind.signed]
  simp
  omega
theorem or_32 : ∀ b, b < 32 → b ||| 32 = b + 32 := by decide
theorem tail_more {xs : List Int} {j : Nat} {h : List Int} {x : Int} (hx : xs.getD (xs.length - 1 - j) 0 = x) : h ++ tailB xs j ++ be4 x = h ++ tailB xs (j + 1) := by
  rw [List.append_assoc, ← hx]; rfl

set_option maxRecDepth 100000 in
set_option maxHeartbeats 8000000 in
theorem sumbytes_any (w : World) (g b : Nat) (z : Int) (hs : SumAt w g b z) (hz : z.natAbs < ROOM) (hb : b < 32) :
    Calls Try.prog 33 #[.pointer (some ⟨g, 0, none⟩)] w (RBytes b z w) := by
  have HI := Lib.hid (sumis_any w g b z hs)
  obtain ⟨a, n, c, hk, hN⟩ := hs
  have hl := hN.words hz
  obtain ⟨xs, hr, hd, ht, hv⟩ := hN
  have hlen : xs.length = n := hr.1
  have HNT := Lib.hid (noughts_any a n c xs w hr hd (by omega))
  have HLW : Hid (∀ r, IsHalf (V 4294967296 xs) r → LowW xs (r / 32)) := Lib.hid (fun r h => low_noughts hd ht h)
  have HR := Lib.hid hr
  have HD := Lib.hid hd
  have HT := Lib.hid ht
  have HV := Lib.hid hv
  have HLEN := Lib.hid hlen
  have HK := Lib.hid hk
  have hg : g < w.heap.size := hk.lt
  have c1 : w.cell? ⟨g, 1, none⟩ = some (.int .u8 (b : Int)) := hk.cell 1
  have c2 : w.cell? ⟨g, 2, none⟩ = some (.bool (decide (z < 0))) := hk.cell 2
  have c3 : w.cell? ⟨g, 3, none⟩ = some (.slice a n c) := hk.cell 3
  have o32 : bits .or .u8 (b : Int) 32 = ((b + 32 : Nat) : Int) := by rw [← or_32 b hb]; exact bits_or_u8 (b := 32) (by omega) (by omega)
  obtain ⟨fl, hfl⟩ : ∃ fl : Nat, b + (if z < 0 then 32 else 0) = fl := ⟨_, rfl⟩
  have HFL := Lib.hid hfl
  have hneg : (decide (z < 0) = true ∧ fl = b + 32) ∨ (decide (z < 0) = false ∧ fl = b) := by
    rw [← hfl]
    by_cases h : z < 0
    · left; rw [if_pos h]; exact ⟨decide_eq_true h, rfl⟩
    · right; rw [if_neg h]; exact ⟨decide_eq_false h, rfl⟩
  clear hk hr hd ht hv hz hfl hlen
  rcases hneg with ⟨hn1, hn2⟩ | ⟨hn1, hn2⟩
  all_goals
    rw [hn1] at c2
    have HN2 := Lib.hid hn2
    clear hn1 hn2
    go_enter Try.func33, Try.ntmps33
    go_wp2_with fail
    refine HI.out.mono ?_; rintro e w1 ⟨rfl, rfl⟩
    go_wp2_with fail
    refine HNT.out.mono ?_; rintro e w1 ⟨r, rfl, rfl, hh⟩
    have hlow := HLW.out r hh
    obtain ⟨l, hl0⟩ : ∃ l, r / 32 = l := ⟨_, rfl⟩
    rw [hl0] at hlow
    have hrl : (r : Int) / 32 = (l : Int) := by omega
    have HLOW := Lib.hid hlow
    have hln : l ≤ n := by have := hlow.1; have := HLEN.out; omega
    have hw1 : IntKind.u8.wrap (l : Int) = (l : Int) := wrap_u8 (by omega)
    have hw2 : IntKind.u8.wrap ((n : Int) - (l : Int)) = ((n - l : Nat) : Int) := wrap_u8 (by omega)
    have hw3 : IntKind.u8.wrap (fl : Int) = (fl : Int) := wrap_u8 (by have := HN2.out; omega)
    clear hh hlow hl0
    go_wp2_with fail
  · have hown0 := OwnK.three .u8 w 5 ((b : Int) + 32) (l : Int) ((n - l : Nat) : Int)
    have hb0 : Below w.heap.size w (w.alloc (.cells #[.int .u8 ((b : Int) + 32), .int .u8 (l : Int), .int .u8 ((n - l : Nat) : Int)] 5)) := (Below.refl _ _).alloc (Nat.le_refl _) _
    have HOW0 := Lib.hid hown0
    have HB0 := Lib.hid hb0
    have hsz0 : w.heap.size ≤ (w.alloc (.cells #[.int .u8 ((b : Int) + 32), .int .u8 (l : Int), .int .u8 ((n - l : Nat) : Int)] 5)).heap.size := hb0.size
    generalize (w.alloc (.cells #[.int .u8 ((b : Int) + 32), .int .u8 (l : Int), .int .u8 ((n - l : Nat) : Int)] 5)) = w0 at *
    clear hown0 hb0 c1 c2 c3 hw1 hw2 hw3 o32
    generalize hhd : [((b : Int) + 32), (l : Int), ((n - l : Nat) : Int)] = hd at *
    have HHD := Lib.hid hhd
    clear hhd
    go_loopg [5, 6] (n - l) (fun gg out i wr => ∃ (j : Nat), i = .int .i64 ((n : Int) - 1 - (j : Int)) ∧ j + gg = n - l ∧ OwnK .u8 wr w.heap.size 5 out (3 + 4 * j) (hd ++ tailB xs j) ∧ Below w.heap.size w wr)
    case atStart => exact ⟨0, congrArg (Value.int .i64) (by omega), by omega, by have h := HOW0.out; unfold tailB; rw [List.append_nil]; exact h, HB0.out⟩
    case round =>
      obtain ⟨j, rfl, hj, how, hbl⟩ := hrel
      have HOW := Lib.hid how
      have HBL := Lib.hid hbl
      have hk1 := HK.out.below hbl hg
      have c3 : wr.cell? ⟨g, 3, none⟩ = some (.slice a n c) := hk1.cell 3
      have hbsz : w.heap.size ≤ wr.heap.size := hbl.size
      have hg2 : g < wr.heap.size := by omega
      have hrow := HR.out.below hbl (Nat.le_refl _)
      clear how hk1 hbl
      by_cases hlt : j < n - l
      · obtain ⟨i, hi⟩ : ∃ i : Nat, (n : Int) - 1 - (j : Int) = (i : Int) := ⟨n - 1 - j, by omega⟩
        obtain ⟨-, hcap, -, hcc⟩ := hrow
        rcases hcc with h0 | ⟨ba, oa, rfl, hba, hcell⟩
        · omega
        have hii : i < n := by omega
        have cx := hcell i hii
        have hxr := HD.out.at (by decide) i
        obtain ⟨x, hx⟩ : ∃ x, xs.getD i 0 = x := ⟨_, rfl⟩
        rw [hx] at cx hxr
        obtain ⟨x1, x2⟩ := hxr
        have hx' : xs.getD (xs.length - 1 - j) 0 = x := by rw [← hx, HLEN.out]; congr 1; omega
        have HX := Lib.hid hx'
        have hx3 : x ≤ 4294967295 := by omega
        have q0 : (l : Int) ≤ (i : Int) := by omega
        have q1 : (0 : Int) ≤ (i : Int) := by omega
        have q2 : (i : Int) < (n : Int) := by omega
        have hw1 : IntKind.u8.wrap (x / 16777216) = x / 16777216 := wrap_u8 (by omega)
        have hw2 : IntKind.u8.wrap (x / 65536) = x / 65536 % 256 := wrap_u8 (by omega)
        have hw3 : IntKind.u8.wrap (x / 256) = x / 256 % 256 := wrap_u8 (by omega)
        have hw4 : IntKind.u8.wrap x = x % 256 := wrap_u8 (by omega)
        rw [hi]
        have HII := Lib.hid hi
        have HJ := Lib.hid hj
        have hj8 : j ≤ 70 := by omega
        have hg1 : 1 ≤ gk := by omega
        clear hcell hx hx' hi hj hlt x2
        go_wp2_with (at_builtin; refine append4 .u8 54 5 1 info_u8e (by decide) Try.underlying54 rfl _ _ rfl w.heap.size wr u5 (3 + 4 * j) (hd ++ tailB xs j) (x / 16777216) (x / 65536 % 256) (x / 256 % 256) (x % 256) rfl rfl HOW.out (by omega) hbsz ?_)
        intro g3 cap3 w3 hown3 hgr3 hbl3 hg3
        have HOW3 : Hid (OwnK .u8 w3 w.heap.size 5 (.slice (some ⟨g3, 0, none⟩) (3 + 4 * j + 4) cap3) (3 + 4 * (j + 1)) (hd ++ tailB xs (j + 1))) := Lib.hid (by rw [← tail_more HX.out, List.append_assoc]; exact hown3)
        have HB3 := Lib.hid (hbl3 w HBL.out)
        clear hown3 hgr3 hbl3 hg3
        go_wp2_with fail
        go_roundg (gk - 1)
        case measure => have := HJ.out; omega
        case rel => exact ⟨j + 1, congrArg (Value.int .i64) (by have := HII.out; omega), by have := HJ.out; omega, HOW3.out, HB3.out⟩
      · have hje : j = n - l := by omega
        have HJE := Lib.hid hje
        have hq : decide ((l : Int) ≤ (n : Int) - 1 - (j : Int)) = false := by simp; omega
        obtain ⟨a5, c5, hu5⟩ := HOW.out.form
        subst hu5
        have HEQ : Hid (hd ++ tailB xs j = [((b + (if z < 0 then 32 else 0) : Nat) : Int), (l : Int), ((xs.length - l : Nat) : Int)] ++ tailB xs (xs.length - l)) := Lib.hid (by
          rw [← HHD.out, hje, HLEN.out, HFL.out, HN2.out]; try rfl)
        clear hlt hje hj
        go_wp2_with fail
        go_ret
        exact ⟨a5, _, c5, _, rfl, HOW.out.row, ⟨xs, l, HD.out, HT.out, HV.out, HLOW.out, HEQ.out⟩, HBL.out, HOW.out.fresh⟩
  · have hown0 := OwnK.three .u8 w 5 (b : Int) (l : Int) ((n - l : Nat) : Int)
    have hb0 : Below w.heap.size w (w.alloc (.cells #[.int .u8 (b : Int), .int .u8 (l : Int), .int .u8 ((n - l : Nat) : Int)] 5)) := (Below.refl _ _).alloc (Nat.le_refl _) _
    have HOW0 := Lib.hid hown0
    have HB0 := Lib.hid hb0
    have hsz0 : w.heap.size ≤ (w.alloc (.cells #[.int .u8 (b : Int), .int .u8 (l : Int), .int .u8 ((n - l : Nat) : Int)] 5)).heap.size := hb0.size
    generalize (w.alloc (.cells #[.int .u8 (b : Int), .int .u8 (l : Int), .int .u8 ((n - l : Nat) : Int)] 5)) = w0 at *
    clear hown0 hb0 c1 c2 c3 hw1 hw2 hw3 o32
    generalize hhd : [(b : Int), (l : Int), ((n - l : Nat) : Int)] = hd at *
    have HHD := Lib.hid hhd
    clear hhd
    go_loopg [5, 6] (n - l) (fun gg out i wr => ∃ (j : Nat), i = .int .i64 ((n : Int) - 1 - (j : Int)) ∧ j + gg = n - l ∧ OwnK .u8 wr w.heap.size 5 out (3 + 4 * j) (hd ++ tailB xs j) ∧ Below w.heap.size w wr)
    case atStart => exact ⟨0, congrArg (Value.int .i64) (by omega), by omega, by have h := HOW0.out; unfold tailB; rw [List.append_nil]; exact h, HB0.out⟩
    case round =>
      obtain ⟨j, rfl, hj, how, hbl⟩ := hrel
      have HOW := Lib.hid how
      have HBL := Lib.hid hbl
      have hk1 := HK.out.below hbl hg
      have c3 : wr.cell? ⟨g, 3, none⟩ = some (.slice a n c) := hk1.cell 3
      have hbsz : w.heap.size ≤ wr.heap.size := hbl.size
      have hg2 : g < wr.heap.size := by omega
      have hrow := HR.out.below hbl (Nat.le_refl _)
      clear how hk1 hbl
      by_cases hlt : j < n - l
      · obtain ⟨i, hi⟩ : ∃ i : Nat, (n : Int) - 1 - (j : Int) = (i : Int) := ⟨n - 1 - j, by omega⟩
        obtain ⟨-, hcap, -, hcc⟩ := hrow
        rcases hcc with h0 | ⟨ba, oa, rfl, hba, hcell⟩
        · omega
        have hii : i < n := by omega
        have cx := hcell i hii
        have hxr := HD.out.at (by decide) i
        obtain ⟨x, hx⟩ : ∃ x, xs.getD i 0 = x := ⟨_, rfl⟩
        rw [hx] at cx hxr
        obtain ⟨x1, x2⟩ := hxr
        have hx' : xs.getD (xs.length - 1 - j) 0 = x := by rw [← hx, HLEN.out]; congr 1; omega
        have HX := Lib.hid hx'
        have hx3 : x ≤ 4294967295 := by omega
        have q0 : (l : Int) ≤ (i : Int) := by omega
        have q1 : (0 : Int) ≤ (i : Int) := by omega
        have q2 : (i : Int) < (n : Int) := by omega
        have hw1 : IntKind.u8.wrap (x / 16777216) = x / 16777216 := wrap_u8 (by omega)
        have hw2 : IntKind.u8.wrap (x / 65536) = x / 65536 % 256 := wrap_u8 (by omega)
        have hw3 : IntKind.u8.wrap (x / 256) = x / 256 % 256 := wrap_u8 (by omega)
        have hw4 : IntKind.u8.wrap x = x % 256 := wrap_u8 (by omega)
        rw [hi]
        have HII := Lib.hid hi
        have HJ := Lib.hid hj
        have hj8 : j ≤ 70 := by omega
        have hg1 : 1 ≤ gk := by omega
        clear hcell hx hx' hi hj hlt x2
        go_wp2_with (at_builtin; refine append4 .u8 54 5 1 info_u8e (by decide) Try.underlying54 rfl _ _ rfl w.heap.size wr u5 (3 + 4 * j) (hd ++ tailB xs j) (x / 16777216) (x / 65536 % 256) (x / 256 % 256) (x % 256) rfl rfl HOW.out (by omega) hbsz ?_)
        intro g3 cap3 w3 hown3 hgr3 hbl3 hg3
        have HOW3 : Hid (OwnK .u8 w3 w.heap.size 5 (.slice (some ⟨g3, 0, none⟩) (3 + 4 * j + 4) cap3) (3 + 4 * (j + 1)) (hd ++ tailB xs (j + 1))) := Lib.hid (by rw [← tail_more HX.out, List.append_assoc]; exact hown3)
        have HB3 := Lib.hid (hbl3 w HBL.out)
        clear hown3 hgr3 hbl3 hg3
        go_wp2_with fail
        go_roundg (gk - 1)
        case measure => have := HJ.out; omega
        case rel => exact ⟨j + 1, congrArg (Value.int .i64) (by have := HII.out; omega), by have := HJ.out; omega, HOW3.out, HB3.out⟩
      · have hje : j = n - l := by omega
        have HJE := Lib.hid hje
        have hq : decide ((l : Int) ≤ (n : Int) - 1 - (j : Int)) = false := by simp; omega
        obtain ⟨a5, c5, hu5⟩ := HOW.out.form
        subst hu5
        have HEQ : Hid (hd ++ tailB xs j = [((b + (if z < 0 then 32 else 0) : Nat) : Int), (l : Int), ((xs.length - l : Nat) : Int)] ++ tailB xs (xs.length - l)) := Lib.hid (by
          rw [← HHD.out, hje, HLEN.out, HFL.out, HN2.out]; try rfl)
        clear hlt hje hj
        go_wp2_with fail
        go_ret
        exact ⟨a5, _, c5, _, rfl, HOW.out.row, ⟨xs, l, HD.out, HT.out, HV.out, HLOW.out, HEQ.out⟩, HBL.out, HOW.out.fresh⟩
end Go.Proofs.Ytfanjmgbkmdmfaa
