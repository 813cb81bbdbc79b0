/- Contract of package exact's Add. Conditions: below 2^2240 units. -/
import Derived.Test.YtfanjmgbkmdmfaaExB
import Derived.Test.YtfanjmgbkmdmfaaFloO
namespace Go.Proofs.Ytfanjmgbkmdmfaa
open Go.RowKit Ieee

theorem bits_or_u8 {a b : Nat} (ha : a < 256) (hb : b < 256) : bits .or .u8 (a : Int) (b : Int) = ((a ||| b : Nat) : Int) := by
  have e : bits .or .u8 (a : Int) (b : Int) = IntKind.u8.wrap (((((a : Int) % 256).toNat ||| ((b : Int) % 256).toNat) : Nat) : Int) := by
    show IntKind.u8.wrap ((BitVec.ofInt 8 a ||| BitVec.ofInt 8 b).toNat : Int) = _
    rw [BitVec.toNat_or, BitVec.toNat_ofInt, BitVec.toNat_ofInt]
    rfl
  rw [e, Int.emod_eq_of_lt (by omega) (by omega), Int.emod_eq_of_lt (by omega) (by omega), Int.toNat_natCast, Int.toNat_natCast]
  have h : a ||| b < 2 ^ 8 := Nat.or_lt_two_pow ha hb
  simp only [IntKind.wrap, IntKind.bits, IntKind.signed]
  simp
  omega

/-- how many units a number is -/
def unitsOf (x : Nat) : Int := signU (decide (S63 ≤ x)) (iv (x % S63))
def addOk (z : Int) (x : Nat) : Bool := decide (kindZ x ≠ 1) || decide ((z + unitsOf x).natAbs < ROOM)
def addZ (z : Int) (x : Nat) : Int := if kindZ x = 1 then putZ z (unitsOf x) else z
def addF (b : Nat) (z : Int) (x : Nat) : Nat :=
  if kindZ x = 3 then b ||| 1 else if kindZ x = 2 then b ||| (if S63 ≤ x then 4 else 2) else if kindZ x = 0 then b ||| (if S63 ≤ x then 8 else 16) else if addOk z x then b ||| 16 else b
def RAdd (g b : Nat) (z : Int) (x : Nat) (w : World) (e : Ending) (w' : World) : Prop := e = .returned (.bool (addOk z x)) ∧ SumAt w' g (addF b z x) (addZ z x) ∧ But g w w'
theorem SumAt.flag {w : World} {g b d : Nat} {z : Int} (h : SumAt w g b z) : SumAt (w.setCell ⟨g, 1, none⟩ (.int .u8 (d : Int))) g d z := by
  obtain ⟨a, n, c, h1, h2⟩ := h
  exact ⟨a, n, c, (h1.set_ 1 _).to rfl, h2.but h1 ((But.refl g w).setCell 1 _)⟩
theorem kind_cases (x : Nat) : (kindZ x = 3) ∨ (kindZ x = 2 ∧ belowB x = decide (S63 ≤ x)) ∨ (kindZ x = 0 ∧ belowB x = decide (S63 ≤ x)) ∨ kindZ x = 1 := by
  unfold kindZ belowB
  by_cases h1 : INF < x % S63
  · left; rw [if_pos h1]
  · right
    rw [if_neg h1, show decide (x % S63 ≤ INF) = true from by simp; omega, Bool.and_true]
    by_cases h2 : x % S63 = INF
    · left; rw [if_pos h2]; exact ⟨rfl, rfl⟩
    · right
      rw [if_neg h2]
      by_cases h3 : x % S63 = 0
      · left; rw [if_pos h3]; exact ⟨rfl, rfl⟩
      · right; rw [if_neg h3]
theorem iv_room {x : Nat} (h : kindZ x = 1) : iv (x % S63) < ROOM ∧ 0 < iv (x % S63) := by
  obtain ⟨h1, h2⟩ := kind1.1 h
  refine ⟨?_, iv_pos h1⟩
  rw [room_eq]
  have h3 := iv_lt h2
  rw [iv_inf] at h3
  refine Nat.lt_trans h3 ?_
  rw [show B52 = 2 ^ 52 from by decide, ← Nat.pow_add]
  exact Nat.pow_lt_pow_right (by decide) (by decide)
theorem odd_le53 {r M k : Nat} (h : OddOf (iv r) M k) : M < 9007199254740992 := by
  obtain ⟨h1, h2⟩ := h
  unfold iv at h1
  have hk : sh r ≤ k := by
    rcases Nat.lt_or_ge k (sh r) with h3 | h3
    · exfalso
      obtain ⟨d, hd⟩ : ∃ d, sh r = k + 1 + d := ⟨sh r - k - 1, by omega⟩
      rw [hd] at h1
      have e : M = mg r * 2 ^ d * 2 := by
        apply Nat.eq_of_mul_eq_mul_right (Nat.two_pow_pos k)
        rw [← h1, Nat.pow_add, Nat.pow_succ]
        ac_rfl
      omega
    · exact h3
  obtain ⟨d, hd⟩ : ∃ d, k = d + sh r := ⟨k - sh r, by omega⟩
  rw [hd, Nat.pow_add, ← Nat.mul_assoc] at h1
  have h3 := Nat.eq_of_mul_eq_mul_right (Nat.two_pow_pos (sh r)) h1
  have h4 := mg_lt r
  have h5 := Nat.le_mul_of_pos_right M (Nat.two_pow_pos d)
  unfold B52 at h4
  omega
theorem odd_place {N M k K : Nat} (h : OddOf N M k) (hN : N < 2 ^ K) : k ≤ K ∧ M ≤ N := by
  obtain ⟨h1, h2⟩ := h
  have hM : 0 < M := by omega
  constructor
  · have h3 : 2 ^ k ≤ N := by rw [h1]; exact Nat.le_mul_of_pos_left _ hM
    exact Nat.le_of_lt (two_pow_lt (Nat.lt_of_le_of_lt h3 hN))
  · rw [h1]; exact Nat.le_mul_of_pos_right _ (Nat.two_pow_pos k)
set_option maxRecDepth 100000 in
set_option maxHeartbeats 4000000 in
theorem sumadd_any (w : World) (g b : Nat) (z : Int) (x : Nat) (hs : SumAt w g b z) (hz : z.natAbs < ROOM) (hb : b < 32) (hx : x < 18446744073709551616) :
    Calls Try.prog 28 #[.pointer (some ⟨g, 0, none⟩), .float .f64 x] w (RAdd g b z x w) := by
  have HI := Lib.hid (sumis_any w g b z hs)
  have HSP := Lib.hid (fsplit_any x w hx)
  have HKI := Lib.hid (fkind_any x w hx)
  have hcell : w.cell? ⟨g, 1, none⟩ = some (.int .u8 (b : Int)) ∧ ∀ o, w.frozen? ⟨g, o, none⟩ = false := by
    obtain ⟨a, n, c, h1, -⟩ := hs
    exact ⟨h1.cell 1, fun o => h1.frozen o⟩
  obtain ⟨c1, cf⟩ := hcell
  have HS := Lib.hid hs
  have o1 : bits .or .u8 (b : Int) 1 = ((b ||| 1 : Nat) : Int) := bits_or_u8 (b := 1) (by omega) (by omega)
  have o2 : bits .or .u8 (b : Int) 2 = ((b ||| 2 : Nat) : Int) := bits_or_u8 (b := 2) (by omega) (by omega)
  have o4 : bits .or .u8 (b : Int) 4 = ((b ||| 4 : Nat) : Int) := bits_or_u8 (b := 4) (by omega) (by omega)
  have o8 : bits .or .u8 (b : Int) 8 = ((b ||| 8 : Nat) : Int) := bits_or_u8 (b := 8) (by omega) (by omega)
  have o16 : bits .or .u8 (b : Int) 16 = ((b ||| 16 : Nat) : Int) := bits_or_u8 (b := 16) (by omega) (by omega)
  have HZ := Lib.hid hz
  have HBT : Hid (∀ i v, But g w (w.setCell ⟨g, i, none⟩ v)) := Lib.hid (fun i v => (But.refl g w).setCell i v)
  have hkc := kind_cases x
  clear hs hz
  rcases hkc with hk | ⟨hk, hbl⟩ | ⟨hk, hbl⟩ | hk
  · rw [hk] at HKI
    have HF : Hid (addF b z x = b ||| 1 ∧ addOk z x = true ∧ addZ z x = z) := Lib.hid (by
      unfold addF addOk addZ; rw [hk]; exact ⟨rfl, rfl, rfl⟩)
    clear hk hx
    go_enter Try.func28, Try.ntmps28
    go_wp2_with fail
    refine HI.out.mono ?_; rintro e w1 ⟨rfl, rfl⟩
    go_wp2_with fail
    refine HSP.out.mono ?_; rintro e w1 ⟨ng, m, ee, rfl, -, rfl⟩
    go_wp2_with fail
    refine HKI.out.mono ?_; rintro e w1 ⟨rfl, rfl⟩
    go_wp2_with fail
    go_ret
    refine ⟨ret_bool HF.out.2.1.symm, ?_, HBT.out _ _⟩
    rw [HF.out.1, HF.out.2.2]
    exact HS.out.flag
  · rw [hk] at HKI
    have hk1 : kindZ x ≠ 1 := by omega
    have HF : Hid (addF b z x = b ||| (if S63 ≤ x then 4 else 2) ∧ addOk z x = true ∧ addZ z x = z) := Lib.hid (by
      unfold addF addOk addZ; rw [hk]; exact ⟨rfl, rfl, rfl⟩)
    have HN : Hid (∀ ng m ee, SplitOut x ng m ee → ng = decide (S63 ≤ x)) := Lib.hid (fun ng m ee h => by
      rcases h with ⟨-, h, -⟩ | ⟨h, -⟩
      · rw [h, hbl]
      · exact absurd h hk1)
    clear hk hx hbl hk1
    by_cases hsn : S63 ≤ x
    all_goals
      have HSN := Lib.hid hsn
      clear hsn
      go_enter Try.func28, Try.ntmps28
      go_wp2_with fail
      refine HI.out.mono ?_; rintro e w1 ⟨rfl, rfl⟩
      go_wp2_with fail
      refine HSP.out.mono ?_; rintro e w1 ⟨ng, m, ee, rfl, hsp, rfl⟩
      have hng := HN.out ng m ee hsp
      clear hsp
    · rw [decide_eq_true HSN.out] at hng
      subst hng
      go_wp2_with fail
      refine HKI.out.mono ?_; rintro e w1 ⟨rfl, rfl⟩
      go_wp2_with fail
      go_ret
      refine ⟨ret_bool HF.out.2.1.symm, ?_, HBT.out _ _⟩
      rw [HF.out.1, HF.out.2.2, if_pos HSN.out]
      exact HS.out.flag
    · rw [decide_eq_false HSN.out] at hng
      subst hng
      go_wp2_with fail
      refine HKI.out.mono ?_; rintro e w1 ⟨rfl, rfl⟩
      go_wp2_with fail
      go_ret
      refine ⟨ret_bool HF.out.2.1.symm, ?_, HBT.out _ _⟩
      rw [HF.out.1, HF.out.2.2, if_neg HSN.out]
      exact HS.out.flag
  · rw [hk] at HKI
    have hk1 : kindZ x ≠ 1 := by omega
    have HF : Hid (addF b z x = b ||| (if S63 ≤ x then 8 else 16) ∧ addOk z x = true ∧ addZ z x = z) := Lib.hid (by
      unfold addF addOk addZ; rw [hk]; exact ⟨rfl, rfl, rfl⟩)
    have HN : Hid (∀ ng m ee, SplitOut x ng m ee → ng = decide (S63 ≤ x)) := Lib.hid (fun ng m ee h => by
      rcases h with ⟨-, h, -⟩ | ⟨h, -⟩
      · rw [h, hbl]
      · exact absurd h hk1)
    clear hk hx hbl hk1
    by_cases hsn : S63 ≤ x
    all_goals
      have HSN := Lib.hid hsn
      clear hsn
      go_enter Try.func28, Try.ntmps28
      go_wp2_with fail
      refine HI.out.mono ?_; rintro e w1 ⟨rfl, rfl⟩
      go_wp2_with fail
      refine HSP.out.mono ?_; rintro e w1 ⟨ng, m, ee, rfl, hsp, rfl⟩
      have hng := HN.out ng m ee hsp
      clear hsp
    · rw [decide_eq_true HSN.out] at hng
      subst hng
      go_wp2_with fail
      refine HKI.out.mono ?_; rintro e w1 ⟨rfl, rfl⟩
      go_wp2_with fail
      go_ret
      refine ⟨ret_bool HF.out.2.1.symm, ?_, HBT.out _ _⟩
      rw [HF.out.1, HF.out.2.2, if_pos HSN.out]
      exact HS.out.flag
    · rw [decide_eq_false HSN.out] at hng
      subst hng
      go_wp2_with fail
      refine HKI.out.mono ?_; rintro e w1 ⟨rfl, rfl⟩
      go_wp2_with fail
      go_ret
      refine ⟨ret_bool HF.out.2.1.symm, ?_, HBT.out _ _⟩
      rw [HF.out.1, HF.out.2.2, if_neg HSN.out]
      exact HS.out.flag
  · rw [hk] at HKI
    have HF : Hid (addF b z x = (if addOk z x then b ||| 16 else b) ∧ addOk z x = decide ((z + unitsOf x).natAbs < ROOM) ∧ addZ z x = putZ z (unitsOf x)) := Lib.hid (by
      unfold addF addOk addZ; rw [hk]; exact ⟨rfl, rfl, rfl⟩)
    obtain ⟨hr1, hr2⟩ := iv_room hk
    have HR1 := Lib.hid hr1
    have HR2 := Lib.hid hr2
    have HN : Hid (∀ ng m ee, SplitOut x ng m ee → ∃ M k : Nat, ng = decide (S63 ≤ x) ∧ m = (M : Int) ∧ ee = (k : Int) - 1074 ∧ M * 2 ^ k = iv (x % S63) ∧ M ≤ 9007199254740992 ∧ k ≤ 2240) := Lib.hid (fun ng m ee h => by
      rcases h with ⟨h, -⟩ | ⟨-, h1, M, k, h2, h3, h4⟩
      · exact absurd hk h
      · have h5 := odd_place h4 (show iv (x % S63) < 2 ^ K2240 by rw [← room_eq]; exact hr1)
        have h6 := odd_le53 h4
        have h7 : k ≤ 2240 := h5.1
        exact ⟨M, k, h1, h2, h3, h4.1.symm, by omega, h7⟩)
    have HUN : Hid (unitsOf x = signU (decide (S63 ≤ x)) (iv (x % S63))) := Lib.hid rfl
    clear hk hx hr1 hr2
    go_enter Try.func28, Try.ntmps28
    go_wp2_with fail
    refine HI.out.mono ?_; rintro e w1 ⟨rfl, rfl⟩
    go_wp2_with fail
    refine HSP.out.mono ?_; rintro e w1 ⟨ng, m, ee, rfl, hsp, rfl⟩
    obtain ⟨M, k, hng, rfl, rfl, hMk, hM, hk⟩ := HN.out ng m ee hsp
    have HNG := Lib.hid hng
    have HMK := Lib.hid hMk
    have hM2 : (M : Int) ≤ 9007199254740992 := by omega
    have hek : (k : Int) - 1074 - -1074 = (k : Int) := by omega
    have hk2 : (k : Int) ≤ 2240 := by omega
    have HOF := Lib.hid (fun w => nof_any (M : Int) w (by omega) (by omega))
    clear hsp hng hMk
    go_wp2_with fail
    refine HKI.out.mono ?_; rintro e w1 ⟨rfl, rfl⟩
    go_wp2_with fail
    refine (HOF.out _).mono ?_; rintro e w1 ⟨a1, n1, c1', rfl, hN1, hb1, -⟩
    have hl1 := hN1.short (pow64 (by omega))
    obtain ⟨us, u1, u2, u3⟩ := hN1.row
    have HSH := Lib.hid (nshl_yes a1 n1 c1' k us w1 u1 u2 (by omega) (by omega))
    rw [cast_shl u3, HMK.out] at HSH
    have HB1 := Lib.hid hb1
    clear hN1 hl1 u1 u2 u3 hb1
    go_wp2_with fail
    refine HSH.out.mono ?_; rintro e w2 ⟨a2, n2, c2, rfl, hN2, hb2, -⟩
    have HB2 := Lib.hid (HB1.out.trans (hb2.mono HB1.out.size))
    have HPT := Lib.hid (put_any w2 g b z ng a2 n2 c2 (iv (x % S63)) (HS.out.below HB2.out (Nat.le_refl _)) hN2 HZ.out HR1.out (fun _ => HR2.out))
    rw [HNG.out, ← HUN.out] at HPT
    rw [← HNG.out] at HPT
    clear hN2 hb2
    go_wp2_with fail
    refine HPT.out.mono ?_; rintro e w3 ⟨rfl, hs3, hb3⟩
    have HB3 := Lib.hid ((But.of (g := g) HB2.out).trans hb3)
    have HS3 := Lib.hid hs3
    have hcell : w3.cell? ⟨g, 1, none⟩ = some (.int .u8 (b : Int)) ∧ ∀ o, w3.frozen? ⟨g, o, none⟩ = false := by
      obtain ⟨a, n, c, h1, -⟩ := hs3
      exact ⟨h1.cell 1, fun o => h1.frozen o⟩
    obtain ⟨d1, df⟩ := hcell
    clear hs3 hb3
    by_cases hok : (z + unitsOf x).natAbs < ROOM
    · rw [decide_eq_true hok]
      have HOK := Lib.hid hok
      clear hok
      go_wp2_with fail
      go_ret
      refine ⟨ret_bool (by rw [HF.out.2.1, decide_eq_true HOK.out]), ?_, HB3.out.setCell _ _⟩
      rw [HF.out.1, HF.out.2.1, decide_eq_true HOK.out, HF.out.2.2, if_pos rfl]
      exact HS3.out.flag
    · rw [decide_eq_false hok]
      have HOK := Lib.hid hok
      clear hok
      go_wp2_with fail
      go_ret
      refine ⟨ret_bool (by rw [HF.out.2.1, decide_eq_false HOK.out]), ?_, HB3.out⟩
      rw [HF.out.1, HF.out.2.1, decide_eq_false HOK.out, HF.out.2.2, if_neg (by decide)]
      exact HS3.out
end Go.Proofs.Ytfanjmgbkmdmfaa
