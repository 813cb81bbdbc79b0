/- The contract of package schema's Find, where the schema is right. Conditions: those stated. -/
import Derived.Test.YtaofjnidniekjaaMSch
namespace Go.Proofs.Ytaofjnidniekjaa
open Go.RowKit

def dimN (s : Sch) : List ByteArray := s.dims.map (·.1)
/-- what has a name -/
def findS (s : Sch) (t : ByteArray) : Int × Int :=
  if 0 ≤ place (dimN s) t then (1, place (dimN s) t) else if 0 ≤ place s.ints t then (2, place s.ints t) else if 0 ≤ place s.nums t then (3, place s.nums t) else (0, 0)
theorem dimN_get {s : Sch} {i : Nat} (h : i < s.dims.length) : (dimN s).getD i ByteArray.empty = (dimAt s.dims i).1 := by
  unfold dimN dimAt
  simp [List.getD_eq_getElem?_getD, h]
def RFind (t : ByteArray) (s : Sch) (w : World) (e : Ending) (w' : World) : Prop := e = .returned (.tuple #[.int .i64 (findS s t).1, .int .i64 (findS s t).2]) ∧ Below w.heap.size w w'
theorem RFind.mk {t : ByteArray} {s : Sch} {w w' : World} {k p : Int} {S N : Nat} {w0 : World} (hc : findS s t = (k, p)) (hS : w.heap.size = S) (hbw : Below S w w0) (hn : S < N) (hb : Below N w0 w') : RFind t s w (.returned (.tuple #[.int .i64 k, .int .i64 p])) w' := by
  subst hS
  exact ⟨by rw [hc], hbw.trans (hb.mono (Nat.le_of_lt hn))⟩

set_option maxRecDepth 100000 in
set_option maxHeartbeats 2000000 in
theorem find_any (w : World) (l : SchL) (s : Sch) (h : SchAt w l s) (hk : chkS s = 0) (t : ByteArray) :
    Calls Try.prog 81 #[l.val, .string t] w (RFind t s w) := by
  obtain ⟨ad, nd, cd, ai, ni, ci, an, nn, cn, av, nv, cv⟩ := l
  obtain ⟨hbx, hbw, hsz⟩ := boxed w 40 #[.slice ad nd cd, .slice ai ni ci, .slice an nn cn, .slice av nv cv]
  have HS := Lib.hid (h.below hbw (Nat.le_refl _))
  have HBW := Lib.hid hbw
  have HK := Lib.hid hk
  obtain ⟨N, hN⟩ : ∃ N, (w.alloc (.cells #[.slice ad nd cd, .slice ai ni ci, .slice an nn cn, .slice av nv cv] 40)).heap.size = N := ⟨_, rfl⟩
  have HN1 : Hid (w.heap.size < N) := Lib.hid (by rw [← hN, hsz]; omega)
  have hnd : nd ≤ 6 := by have h1 := (chk_dims hk).1; have h2 : s.dims.length = nd := h.2.1; omega
  have e0 := hbx 0
  have e1 := hbx 1
  have e2 := hbx 2
  have e3 := hbx 3
  simp only [List.getElem?_toArray, List.getElem?_cons_zero, List.getElem?_cons_succ] at e0 e1 e2 e3
  have HE0 := Lib.hid e0
  have HE1 := Lib.hid e1
  have HE2 := Lib.hid e2
  clear h hbw hbx hsz hk
  unfold SchL.val
  go_enter Try.func81, Try.ntmps81
  go_upto_region 1 with fail
  generalize (w.alloc (.cells #[.slice ad nd cd, .slice ai ni ci, .slice an nn cn, .slice av nv cv] 40)) = w0 at *
  generalize hS : w.heap.size = S at *
  have HSS := Lib.hid hS
  have HN := Lib.hid hN
  clear hS hN
  go_wp2_with fail
  refine (schk_any _ ⟨ad, nd, cd, ai, ni, ci, an, nn, cn, av, nv, cv⟩ s HS.out).mono ?_
  rintro e w1 ⟨rfl, hb1⟩
  rw [HK.out]
  have HB1 : Hid (Below N w0 w1) := Lib.hid (by rw [← HN.out]; exact hb1)
  have e0 : w1.cell? ⟨S, 0, none⟩ = some (.slice ad nd cd) := by rw [HB1.out.cell (p := ⟨S, 0, none⟩) HN1.out]; exact HE0.out
  clear hb1 e1 e2 e3
  go_wp2_with fail
  clear e0
  go_loopg [16] nd (fun q iu wr => ∃ (i : Nat), iu = .int .i64 i ∧ i + q = nd ∧ (∀ j, j < i → (dimAt s.dims j).1 ≠ t) ∧ Below N w0 wr)
  case atStart => exact ⟨0, rfl, by omega, fun _ h => absurd h (Nat.not_lt_zero _), HB1.out⟩
  case round =>
    obtain ⟨i, rfl, hq, hne, hb⟩ := hrel
    have HQ := Lib.hid hq
    have HNE := Lib.hid hne
    have HB := Lib.hid hb
    have hszN : N ≤ wr.heap.size := by have := hb.size; rw [HN.out] at this; exact this
    clear hq hne hb HB1
    by_cases hlt : i < nd
    · obtain ⟨b, off, e, hbl, hc⟩ := (HS.out.1.below HB.out (Nat.le_of_eq HN.out)).at (by show 0 < nd; omega)
      simp only at e
      subst e
      have hlen : s.dims.length = nd := HS.out.2.1
      have c0 := hc (i * 2) (by show i * 2 < nd * 2; omega)
      have c1 := hc (i * 2 + 1) (by show i * 2 + 1 < nd * 2; omega)
      obtain ⟨g0, g1⟩ := dimCells_get (ds := s.dims) (i := i) (by omega)
      rw [g0] at c0
      rw [g1, ← Nat.add_assoc] at c1
      have HGN := Lib.hid (dimN_get (s := s) (i := i) (by omega))
      have HPL : Hid ((dimAt s.dims i).1 = t → place (dimN s) t = i) := Lib.hid (fun e => place_some (by unfold dimN; rw [List.length_map]; omega) (by rw [HGN.out, e]) (fun j hj => by rw [dimN_get (by omega)]; exact HNE.out j hj))
      obtain ⟨nm, hnm⟩ : ∃ x, (dimAt s.dims i).1 = x := ⟨_, rfl⟩
      obtain ⟨sz, hsz⟩ : ∃ x, (dimAt s.dims i).2 = x := ⟨_, rfl⟩
      rw [hnm] at c0 HPL
      rw [hsz] at c1
      have HNM := Lib.hid hnm
      have HB2 := Lib.hid (HB.out.alloc hszN (.cells #[.string nm, .int .i64 sz] 64))
      clear hc g0 g1 hnm hsz hlen
      by_cases he : nm = t
      · have q0 := str_eq he
        have HC : Hid (findS s t = (1, (i : Int))) := Lib.hid (by unfold findS; rw [HPL.out he, if_pos (by omega)])
        subst he
        go_wp2_with fail
        go_ret2
        exact RFind.mk HC.out HSS.out HBW.out HN1.out HB2.out
      · have q0 := str_ne he
        have HEE := Lib.hid he
        clear he
        go_wp2_with fail
        go_roundg (nd - i - 1)
        case measure => have := HQ.out; omega
        case rel => exact ⟨i + 1, by go_num, by have := HQ.out; omega, fun j hj => by
          rcases Nat.lt_succ_iff_lt_or_eq.1 hj with h | h
          · exact HNE.out j h
          · rw [h, HNM.out]; exact HEE.out, HB2.out⟩
    · obtain rfl : i = nd := by have := HQ.out; omega
      have hlen : s.dims.length = i := HS.out.2.1
      have HD : Hid (¬ 0 ≤ place (dimN s) t) := Lib.hid (by
        rw [place_mem]
        intro hm
        obtain ⟨j, hj, e⟩ := mem_getDs hm
        have hj : j < s.dims.length := by unfold dimN at hj; rw [List.length_map] at hj; exact hj
        rw [dimN_get hj] at e
        exact HNE.out j (by omega) e)
      obtain ⟨p2, hp2⟩ : ∃ x, place s.ints t = x := ⟨_, rfl⟩
      obtain ⟨p3, hp3⟩ : ∃ x, place s.nums t = x := ⟨_, rfl⟩
      have HI : Hid (∀ wx, Below N w0 wx → Calls Try.prog 82 #[.slice ai ni ci, .string t] wx fun e w' => e = .returned (.int .i64 p2) ∧ wx = w') := Lib.hid (fun wx hb => by
        rw [← hp2]; exact pplace_any ai ni ci s.ints t wx (HS.out.2.2.1.below hb (Nat.le_of_eq HN.out)))
      have HNU : Hid (∀ wx, Below N w0 wx → Calls Try.prog 82 #[.slice an nn cn, .string t] wx fun e w' => e = .returned (.int .i64 p3) ∧ wx = w') := Lib.hid (fun wx hb => by
        rw [← hp3]; exact pplace_any an nn cn s.nums t wx (HS.out.2.2.2.1.below hb (Nat.le_of_eq HN.out)))
      have HC0 : Hid (findS s t = if 0 ≤ p2 then (2, p2) else if 0 ≤ p3 then (3, p3) else (0, 0)) := Lib.hid (by unfold findS; rw [if_neg HD.out, hp2, hp3])
      have e1 : wr.cell? ⟨S, 1, none⟩ = some (.slice ai ni ci) := by rw [HB.out.cell (p := ⟨S, 1, none⟩) HN1.out]; exact HE1.out
      have e2 : wr.cell? ⟨S, 2, none⟩ = some (.slice an nn cn) := by rw [HB.out.cell (p := ⟨S, 2, none⟩) HN1.out]; exact HE2.out
      clear hlen hp2 hp3 HD HNE HQ hnd hlt
      go_wp2_with fail
      refine (HI.out _ HB.out).mono ?_; rintro e w2 ⟨rfl, rfl⟩
      by_cases h2 : 0 ≤ p2
      · have HC : Hid (findS s t = (2, p2)) := Lib.hid (by rw [HC0.out, if_pos h2])
        go_wp2_with fail
        go_ret2
        exact RFind.mk HC.out HSS.out HBW.out HN1.out HB.out
      · go_wp2_with fail
        refine (HNU.out _ HB.out).mono ?_; rintro e w3 ⟨rfl, rfl⟩
        have HC1 : Hid (findS s t = if 0 ≤ p3 then (3, p3) else (0, 0)) := Lib.hid (by rw [HC0.out, if_neg (by omega)])
        by_cases h3 : 0 ≤ p3
        · have HC : Hid (findS s t = (3, p3)) := Lib.hid (by rw [HC1.out, if_pos h3])
          go_wp2_with fail
          go_ret2
          exact RFind.mk HC.out HSS.out HBW.out HN1.out HB.out
        · have HC : Hid (findS s t = (0, 0)) := Lib.hid (by rw [HC1.out, if_neg (by omega)])
          go_wp2_with fail
          go_ret2
          exact RFind.mk HC.out HSS.out HBW.out HN1.out HB.out
end Go.Proofs.Ytaofjnidniekjaa
