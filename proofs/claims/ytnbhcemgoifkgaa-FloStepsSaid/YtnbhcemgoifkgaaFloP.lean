/- The walk of the law FloTells. No conditions. -/
import Derived.Test.YtnbhcemgoifkgaaFloO
namespace Go.Proofs.Ytnbhcemgoifkgaa
open Go.RowKit Ieee

theorem odd_le {r M k : Nat} (h : OddOf (iv r) M k) : M < 9007199254740992 := by
  obtain ⟨h1, h2⟩ := h
  unfold iv at h1
  have hk : sh r ≤ k := by
    rcases Nat.lt_or_ge k (sh r) with h3 | h3
    · exfalso
      obtain ⟨d, hd⟩ : ∃ d, sh r = k + 1 + d := ⟨sh r - k - 1, by omega⟩
      rw [hd] at h1
      have e : M = mg r * 2 ^ d * 2 := by
        apply Nat.eq_of_mul_eq_mul_right (Nat.two_pow_pos k)
        rw [← h1, Nat.pow_add, Nat.pow_succ]
        ac_rfl
      omega
    · exact h3
  obtain ⟨d, hd⟩ : ∃ d, k = d + sh r := ⟨k - sh r, by omega⟩
  rw [hd, Nat.pow_add, ← Nat.mul_assoc] at h1
  have h3 := Nat.eq_of_mul_eq_mul_right (Nat.two_pow_pos (sh r)) h1
  have h4 := mg_lt r
  have h5 := Nat.le_mul_of_pos_right M (Nat.two_pow_pos d)
  unfold B52 at h4
  omega
/-- what is split is joined again -/
theorem join_split {b : Nat} {neg : Bool} {m x : Int} (hb : b < 18446744073709551616) (h : SplitOut b neg m x) (hk : kindZ b = 0 ∨ kindZ b = 1) :
    ∃ M : Nat, m = (M : Int) ∧ M < 9007199254740992 ∧ joinN neg M x = b ∧ -2000 ≤ x ∧ x ≤ 9223372036854775807 := by
  rcases h with ⟨h1, rfl, rfl, rfl⟩ | ⟨h1, rfl, M, k, rfl, rfl, ho⟩
  · have hk0 : kindZ b = 0 := by rcases hk with h | h; exact h; exact absurd h h1
    have hz : b % S63 = 0 := by
      unfold kindZ at hk0
      split at hk0
      · omega
      · split at hk0
        · omega
        · split at hk0
          · assumption
          · omega
    refine ⟨0, rfl, by omega, ?_, by omega, by omega⟩
    have hb2 : b = 0 ∨ b = S63 := by unfold S63 at *; omega
    rcases hb2 with rfl | rfl <;> decide
  · have hk1 := kind1.1 h1
    have hM : 0 < M := by have := ho.2; omega
    have hkb : k ≤ 3000 := by
      have h2 : iv (b % S63) < iv INF := iv_lt hk1.2
      rw [ho.1, iv_inf] at h2
      have h3 : 2 ^ k ≤ M * 2 ^ k := Nat.le_mul_of_pos_left _ hM
      have h4 : B52 * 2 ^ K2046 = 2 ^ (52 + K2046) := by rw [Nat.pow_add]
      rw [h4] at h2
      have h5 := two_pow_lt (Nat.lt_of_le_of_lt h3 h2)
      unfold K2046 at h5
      omega
    refine ⟨M, rfl, odd_le ho, ?_, by omega, by omega⟩
    have hn : nearN M ((k : Int) - 1074) = b % S63 := by
      unfold nearN
      rw [nearest_iv (q := b % S63) (a := k) (b := 0) false hM (by omega) (by rw [← ho.1, Nat.pow_zero, Nat.mul_one]), Nat.min_eq_left (by omega)]
      exact word_pos _
    unfold joinN
    rw [hn]
    by_cases hs : S63 ≤ b
    · rw [show decide (S63 ≤ b) = true from by simpa using hs, if_pos rfl]
      unfold S63 at *
      omega
    · rw [show decide (S63 ≤ b) = false from by simpa using hs, if_neg (by decide)]
      unfold S63 at *
      omega
theorem two_words (M : Nat) (h : M < 18446744073709551616) : V 4294967296 [((M % 4294967296 : Nat) : Int), ((M / 4294967296 : Nat) : Int)] = (M : Int) ∧ Dig 4294967296 [((M % 4294967296 : Nat) : Int), ((M / 4294967296 : Nat) : Int)] := by
  constructor
  · rw [V_cons, V_cons, V_nil]
    omega
  · intro d hd
    simp at hd
    rcases hd with rfl | rfl <;> omega

set_option maxHeartbeats 2000000 in
theorem walk_ftells (b : Nat) (w : World) (w0 : (Lit.float .f64 b).wf = true) :
    Calls Try.prog 10 #[.float .f64 b] w fun e w' => e = .returned (.bool true) ∧ Below w.heap.size w w' := by
  have hb := wf_f64 w0
  clear w0
  have HF := Lib.hid (fsplit_any b w hb)
  have HR := Lib.hid (rsplit_any b w hb)
  have HFK := Lib.hid (fun w => fkind_any b w hb)
  have HRK := Lib.hid (fun w => rkind_any b w hb)
  have HS := Lib.hid (fun w => rsame_any b b w hb hb)
  rw [show decide (keyN b = keyN b) = true from by simp] at HS
  have HB0 := Lib.hid hb
  have HJS := Lib.hid (fun (neg : Bool) (m x : Int) (h : SplitOut b neg m x) (hk : kindZ b = 0 ∨ kindZ b = 1) => join_split hb h hk)
  clear hb
  obtain ⟨kb, hkb⟩ : ∃ k, kindZ b = k := ⟨_, rfl⟩
  have hk4 : kb = 0 ∨ kb = 1 ∨ kb = 2 ∨ kb = 3 := by
    rw [← hkb]; unfold kindZ
    split
    · omega
    · split
      · omega
      · split <;> omega
  rw [hkb] at HFK HRK HJS
  clear hkb
  go_enter Try.func10, Try.ntmps10
  go_wp2_with fail
  refine HF.out.mono ?_; rintro z w1 ⟨neg, m, x, rfl, hs1, rfl⟩
  go_wp2_with fail
  refine HR.out.mono ?_; rintro z w1 ⟨neg2, m2, x2, rfl, hs2, hb1⟩
  obtain ⟨rfl, rfl, rfl⟩ := hs1.one hs2
  have HB1 := Lib.hid hb1
  have HSP := Lib.hid hs1
  clear hs2 hb1 hs1
  go_wp2_with fail
  refine (HFK.out w1).mono ?_; rintro z w2 ⟨rfl, rfl⟩
  go_wp2_with fail
  refine (HRK.out w1).mono ?_; rintro z w2 ⟨rfl, hb2⟩
  have HB2 := Lib.hid (HB1.out.trans (hb2.mono HB1.out.size))
  clear hb2
  go_wp2_with fail
  refine (HRK.out w2).mono ?_; rintro z w3 ⟨rfl, hb3⟩
  have HB3 := Lib.hid (HB2.out.trans (hb3.mono HB2.out.size))
  clear hb3
  by_cases hk2 : 2 ≤ kb
  · go_wp2_with fail
    refine (awake_flo w3).mono ?_; rintro z w4 ⟨rfl, hb4⟩
    have HB4 := Lib.hid (HB3.out.trans (hb4.mono HB3.out.size))
    clear hb4
    go_wp2_with fail
    go_ret
    exact ⟨rfl, HB4.out⟩
  · obtain ⟨M, rfl, hM, hj, hx1, hx2⟩ := HJS.out neg m x HSP.out (by omega)
    have hk3 : kb ≤ 1 := by omega
    have hw2 := two_words M (by omega)
    have hlo : (M : Int) % 4294967296 = ((M % 4294967296 : Nat) : Int) := by omega
    have hhi : (M : Int) / 4294967296 = ((M / 4294967296 : Nat) : Int) := by omega
    have hhb : ((M / 4294967296 : Nat) : Int) ≤ 4294967295 := by omega
    have HJ := Lib.hid hj
    have HW2 := Lib.hid hw2
    have hM2 : (M : Int) ≤ 9007199254740991 := by omega
    generalize M % 4294967296 = lo at *
    generalize M / 4294967296 = hi at *
    clear hk2 hk4 hM hj hw2
    go_wp2_with fail
    have a1 : Arr .u32 55 (w3.alloc (.cells #[.int .u32 (lo : Int), .int .u32 (hi : Int)] 55)) w3.heap.size [(lo : Int), (hi : Int)] := Arr.new [(lo : Int), (hi : Int)] rfl rfl
    have hb4 : Below w3.heap.size w3 (w3.alloc (.cells #[.int .u32 (lo : Int), .int .u32 (hi : Int)] 55)) := (Below.refl _ _).alloc (Nat.le_refl _) _
    have hjn := fjoin_any neg _ 2 2 [(lo : Int), (hi : Int)] M x _ (a1.full (by simp)) HW2.out.2 HW2.out.1 (by decide) (by omega) (by omega)
    rw [HJ.out] at hjn
    have HJN := Lib.hid hjn
    have HB4 := Lib.hid (HB3.out.trans (hb4.mono HB3.out.size))
    clear a1 hb4 hjn
    generalize w3.alloc (.cells #[.int .u32 (lo : Int), .int .u32 (hi : Int)] 55) = w4 at *
    refine HJN.out.mono ?_; rintro z w5 ⟨rfl, hb5⟩
    have HB5 := Lib.hid (HB4.out.trans (hb5.mono HB4.out.size))
    clear hb5
    go_wp2_with fail
    refine (HS.out w5).mono ?_; rintro z w6 ⟨rfl, hb6⟩
    have HB6 := Lib.hid (HB5.out.trans (hb6.mono HB5.out.size))
    clear hb6
    go_wp2_with fail
    refine (awake_flo w6).mono ?_; rintro z w7 ⟨rfl, hb7⟩
    have HB7 := Lib.hid (HB6.out.trans (hb7.mono HB6.out.size))
    clear hb7
    go_wp2_with fail
    go_ret
    exact ⟨rfl, HB7.out⟩
end Go.Proofs.Ytnbhcemgoifkgaa
