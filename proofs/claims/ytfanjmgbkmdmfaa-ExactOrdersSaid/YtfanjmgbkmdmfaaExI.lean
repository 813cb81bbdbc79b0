/- Contract of package exact's Total; the chapter's examples. No conditions. -/
import Derived.Test.YtfanjmgbkmdmfaaExH
import Derived.Test.YtfanjmgbkmdmfaaRatL
namespace Go.Proofs.Ytfanjmgbkmdmfaa
open Go.RowKit Ieee

/-- a slice of floats that holds the words zs -/
def FRow (w : World) (a : Option Addr) (n c : Nat) (zs : List Nat) : Prop :=
  zs.length = n ∧ n ≤ c ∧ c ≤ maxLen ∧ (c = 0 ∨ ∃ b off, a = some ⟨b, off, none⟩ ∧ b < w.heap.size ∧ ∀ i, i < n → w.cell? ⟨b, off + i, none⟩ = some (.float .f64 (zs.getD i 0)))
theorem FRow.below {w w' : World} {a : Option Addr} {n c B : Nat} {zs : List Nat} (h : FRow w a n c zs) (hb : Below B w w') (hB : w.heap.size ≤ B) : FRow w' a n c zs := by
  obtain ⟨h1, h2, h3, h4⟩ := h
  refine ⟨h1, h2, h3, ?_⟩
  rcases h4 with h4 | ⟨b, off, e, hlt, hc⟩
  · exact .inl h4
  · exact .inr ⟨b, off, e, by have := hb.size; omega, fun i hi => by rw [(bcell hb).1 _ _ (by omega)]; exact hc i hi⟩
theorem FRow.but {w w' : World} {a : Option Addr} {n c g b l q : Nat} {neg : Bool} {A : Option Addr} {zs : List Nat} {t : TypeId} (h : FRow w a n c zs) (hk : Blk w g t (sumCells b neg A l q)) (hb : But g w w') : FRow w' a n c zs := by
  obtain ⟨h1, h2, h3, h4⟩ := h
  refine ⟨h1, h2, h3, ?_⟩
  rcases h4 with h4 | ⟨bb, off, rfl, hlt, hc⟩
  · exact .inl h4
  · refine .inr ⟨bb, off, rfl, Nat.lt_of_lt_of_le hlt hb.size, fun i hi => ?_⟩
    by_cases hg : bb = g
    · subst hg
      have h5 := hc i hi
      rw [hk.cell] at h5
      have h6 : off + i = 0 ∨ off + i = 1 ∨ off + i = 2 ∨ off + i = 3 ∨ 4 ≤ off + i := by omega
      rcases h6 with h6 | h6 | h6 | h6 | h6
      · rw [h6] at h5; cases h5
      · rw [h6] at h5; cases h5
      · rw [h6] at h5; cases h5
      · rw [h6] at h5; cases h5
      · rw [Array.getElem?_eq_none (by simp [sumCells]; omega)] at h5; cases h5
    · rw [hb.cell hlt hg]
      exact hc i hi
theorem FRow.sum {w w' : World} {a : Option Addr} {n c g b : Nat} {z : Int} {zs : List Nat} (h : FRow w a n c zs) (hs : SumAt w g b z) (hb : But g w w') : FRow w' a n c zs := by
  obtain ⟨a', n', c', hk, -⟩ := hs
  exact h.but hk hb
/-- one number more -/
def stepS (s : Nat × Int) (x : Nat) : Nat × Int := (addF s.1 s.2 x, addZ s.2 x)
def foldS (zs : List Nat) : Nat × Int := zs.foldl stepS (0, 0)
def Okay (s : Nat × Int) : Prop := s.1 < 32 ∧ s.2.natAbs < ROOM
theorem room_pos : 0 < ROOM := by rw [room_eq]; exact Nat.two_pow_pos _
theorem okay0 : Okay (0, 0) := ⟨by decide, room_pos⟩
theorem addF_lt {b x : Nat} {z : Int} (h : b < 32) : addF b z x < 32 := by
  have h1 : ∀ k, k < 2 ^ 5 → b ||| k < 2 ^ 5 := fun k hk => Nat.or_lt_two_pow h hk
  unfold addF
  split
  · exact h1 1 (by decide)
  · split
    · split
      · exact h1 4 (by decide)
      · exact h1 2 (by decide)
    · split
      · split
        · exact h1 8 (by decide)
        · exact h1 16 (by decide)
      · split
        · exact h1 16 (by decide)
        · exact h
theorem putZ_lt {z y : Int} (h : z.natAbs < ROOM) : (putZ z y).natAbs < ROOM := by
  unfold putZ
  split
  · assumption
  · exact h
theorem Okay.step {s : Nat × Int} (h : Okay s) (x : Nat) : Okay (stepS s x) := by
  refine ⟨addF_lt h.1, ?_⟩
  show (addZ s.2 x).natAbs < ROOM
  unfold addZ
  split
  · exact putZ_lt h.2
  · exact h.2
theorem Okay.fold : ∀ (zs : List Nat) (s : Nat × Int), Okay s → Okay (zs.foldl stepS s)
  | [], _, h => h
  | x :: zs, _, h => Okay.fold zs _ (h.step x)
theorem foldS_take {zs : List Nat} {k : Nat} (h : k < zs.length) : foldS (zs.take (k + 1)) = stepS (foldS (zs.take k)) (zs.getD k 0) := by
  unfold foldS
  rw [List.take_succ_eq_append_getElem h, List.foldl_append]
  simp [h]

set_option maxRecDepth 100000 in
set_option maxHeartbeats 4000000 in
theorem total_any (w : World) (a : Option Addr) (n c : Nat) (zs : List Nat) (hr : FRow w a n c zs) (hw : ∀ x ∈ zs, x < 18446744073709551616) :
    Calls Try.prog 30 #[.slice a n c] w (RVal (foldS zs).1 (foldS zs).2 w) := by
  have hn : n ≤ 9223372036854775807 := by have := hr.2.1; have := hr.2.2.1; unfold maxLen at this; omega
  have HW := Lib.hid hw
  have HLEN := Lib.hid hr.1
  have HR := Lib.hid hr
  clear hw hr
  go_enter Try.func30, Try.ntmps30
  go_wp2_with fail
  refine (sumnew_any w).mono ?_; rintro e w1 ⟨rfl, hs, hb1⟩
  have HS1 := Lib.hid hs
  have HB1 := Lib.hid hb1
  have HR1 := Lib.hid (HR.out.below hb1 (Nat.le_refl _))
  clear hs hb1
  go_wp2_with fail
  go_loopg [9] n (fun gg i wr => ∃ k : Nat, i = .int .i64 (k : Int) ∧ k + gg = n ∧ SumAt wr w.heap.size (foldS (zs.take k)).1 (foldS (zs.take k)).2 ∧ FRow wr a n c zs ∧ Below w.heap.size w wr)
  case atStart => exact ⟨0, rfl, by omega, HS1.out, HR1.out, HB1.out⟩
  case round =>
    obtain ⟨k, rfl, hk, hs, hr, hb⟩ := hrel
    have HS := Lib.hid hs
    have HB := Lib.hid hb
    have HRR := Lib.hid hr
    have hok : Okay (foldS (zs.take k)) := Okay.fold _ _ okay0
    by_cases hlt : k < n
    · obtain ⟨-, hcap, -, hcell⟩ := hr
      rcases hcell with h0 | ⟨ba, oa, rfl, hba, hcell⟩
      · omega
      have cx := hcell k hlt
      have hlk : k < zs.length := by have := HLEN.out; omega
      obtain ⟨x, hx⟩ : ∃ x, zs.getD k 0 = x := ⟨_, rfl⟩
      have hxw : x < 18446744073709551616 := by
        rw [← hx]
        exact HW.out _ (by simp [hlk])
      rw [hx] at cx
      have hft := foldS_take hlk
      rw [hx] at hft
      have HFT := Lib.hid hft
      have HADD := Lib.hid (sumadd_any wr w.heap.size _ _ x hs hok.2 hok.1 hxw)
      have hki : (k : Int) < (n : Int) := by omega
      have hkd : decide (k < n) = true := by simpa using hlt
      have HK := Lib.hid hk
      have hg1 : 1 ≤ gk := by omega
      clear hs hb hcell hx hft hok hk hlk hxw
      go_wp2_with fail
      refine HADD.out.mono ?_; rintro e w2 ⟨rfl, hs2, hb2⟩
      have HS2 := Lib.hid hs2
      have HBT := Lib.hid hb2
      clear hs2 hb2
      go_wp2_with fail
      go_roundg (gk - 1)
      case measure => omega
      case rel => exact ⟨k + 1, by go_num, by have := HK.out; omega, by rw [HFT.out]; exact HS2.out, HRR.out.sum HS.out HBT.out, HB.out.trans (HBT.out.below (Nat.le_refl _) HB.out.size)⟩
    · have hkn : k = n := by omega
      have hkd : decide (k < n) = false := by simpa using hlt
      have htk : zs.take k = zs := List.take_of_length_le (by have := HLEN.out; omega)
      rw [htk] at hs hok
      have HV := Lib.hid (sumval_any wr w.heap.size _ _ hs hok.2 hok.1)
      clear hs hb hr hok htk hkn hk hlt HS
      go_wp2_with fail
      refine HV.out.mono ?_; rintro e w2 ⟨v, rfl, hv, hb2⟩
      have HB2 := Lib.hid (HB.out.trans (hb2.mono HB.out.size))
      have HVV := Lib.hid hv
      clear hv hb2
      go_wp2_with fail
      go_ret
      exact ⟨v, rfl, HVV.out, HB2.out⟩
end Go.Proofs.Ytfanjmgbkmdmfaa
