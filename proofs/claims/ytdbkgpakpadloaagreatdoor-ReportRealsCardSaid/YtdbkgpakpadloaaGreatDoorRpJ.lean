/- The walk of ReportReals. Conditions: the library's variables are as the row lists them. -/
import Derived.Test.YtdbkgpakpadloaaGreatDoorRpI
import Derived.Test.YtdbkgpakpadloaaGreatDoorRatM
namespace Go.Proofs.YtdbkgpakpadloaaGreatDoor
open Go.RowKit Ieee

theorem key_nan44 {a b : Nat} (h : kindZ a = 3) (k : kindZ b = 3) : keyN a = keyN b := by
  have h1 := kind3.1 h
  have k1 := kind3.1 k
  unfold keyN
  rw [if_pos h1, if_pos k1]
theorem real_size {x : Nat} {t : ByteArray} (h : IsReal x t) (hx : x < 18446744073709551616) : t.size ≤ 100000 := by
  by_cases hk : kindZ x = 3
  · rw [nan_text h hk]; decide
  · have hs : ∀ neg, (sgB neg).size ≤ 1 := by intro neg; cases neg <;> decide
    rcases real_cases h hk hx with ⟨neg, rfl, -⟩ | ⟨neg, rfl, -⟩ | ⟨neg, u, v, e, rfl, -, h3, h4, h5, h6, -⟩
    · rw [ByteArray.size_append]; have := hs neg; show (sgB neg).size + 1 ≤ _; omega
    · rw [ByteArray.size_append]; have := hs neg; show (sgB neg).size + 8 ≤ _; omega
    · have := hs neg
      have h7 := num_size h4 (by omega)
      rw [ByteArray.size_append, ByteArray.size_append, ByteArray.size_append]
      show (sgB neg).size + (u.size + 1 + v.size) ≤ _
      omega
theorem parse_back {x y : Nat} {t : ByteArray} {ok : Bool} (h : IsReal x t) (hx : x < 18446744073709551616) (hy : y < 18446744073709551616) (hp : POut PCand t y ok) : ok = true ∧ keyN x = keyN y := by
  by_cases hk : kindZ x = 3
  · have ht := nan_text h hk
    rcases hp with ⟨-, h2, h3⟩ | ⟨h1, -⟩ | ⟨h1, -⟩
    · exact ⟨h2, key_nan44 hk h3⟩
    · exact absurd ht h1
    · exact absurd ht h1
  · have ht : t ≠ txNone := fun e => hk (real_none (e ▸ h) hx)
    rcases hp with ⟨h1, -⟩ | ⟨-, h2, h3⟩ | ⟨-, -, -, h4⟩
    · exact absurd h1 ht
    · have hk2 : kindZ y ≠ 3 := fun e => ht (nan_text h3 e)
      rw [(real_pcand h hk hx).one (real_pcand h3 hk2 hy)]
      exact ⟨h2, rfl⟩
    · exact absurd h (h4 x (real_pcand h hk hx))
theorem parse_two {z v : Nat} {s : ByteArray} {a b : Bool} (h : POut PCand s z a) (k : POut C64 s v b) (hz : z < 18446744073709551616) (hv : v < 18446744073709551616) : a = b ∧ keyN z = keyN v := by
  rcases h with ⟨h1, rfl, h3⟩ | ⟨h1, rfl, h3⟩ | ⟨h1, rfl, rfl, h3⟩ <;> rcases k with ⟨k1, rfl, k3⟩ | ⟨k1, rfl, k3⟩ | ⟨k1, rfl, rfl, k3⟩
  · exact ⟨rfl, key_nan44 h3 k3⟩
  · exact absurd h1 k1
  · exact absurd h1 k1
  · exact absurd k1 h1
  · have e1 : kindZ z ≠ 3 := fun e => h1 (nan_text h3 e)
    have e2 : kindZ v ≠ 3 := fun e => h1 (nan_text k3 e)
    rw [(real_pcand h3 e1 hz).one (real_pcand k3 e2 hv)]
    exact ⟨rfl, rfl⟩
  · exact absurd h3 (k3 z hz)
  · exact absurd k1 h1
  · have e2 : kindZ v ≠ 3 := fun e => h1 (nan_text k3 e)
    exact absurd k3 (h3 v (real_pcand k3 e2 hv))
  · exact ⟨rfl, rfl⟩
set_option maxHeartbeats 2000000 in
theorem walk_reportreals (x : Nat) (s : ByteArray) (w : World) (hx : x < 18446744073709551616) (he : Env w) :
    Calls Tryz.prog 3 #[.float .f64 x, .string s] w fun e w' => e = .returned (.bool true) ∧ Below w.heap.size w w' := by
  have HE := Lib.hid he
  have HX := Lib.hid hx
  by_cases hl : 1000 < s.size
  · have u0 : decide ((1000 : Int) < (s.size : Int)) = true := decide_eq_true (by omega)
    have u0' : decide (1000 < s.size) = true := decide_eq_true hl
    have HA := Lib.hid (awake_rep w he)
    clear hl he hx
    go_enter Tryz.func3, Tryz.ntmps3
    go_wp2_with fail
    refine (HA.out).mono ?_; rintro e w1 ⟨rfl, hb1⟩
    have HB1 := Lib.hid hb1
    clear hb1
    go_wp2_with fail
    go_ret
    exact ⟨rfl, HB1.out⟩
  have u0 : decide ((1000 : Int) < (s.size : Int)) = false := decide_eq_false (by omega)
  have u0' : decide (1000 < s.size) = false := decide_eq_false hl
  have HR := Lib.hid (preal_any x w hx (fun w' hb => (he.below hb).1))
  have HP2 := Lib.hid (fun w (h : Env w) => pparse_any s w (by omega) h)
  have HP3 := Lib.hid (fun w => rparse_any s w (by omega))
  have HR2 := Lib.hid (fun w => rreal_txt x w hx)
  clear hl he hx
  go_enter Tryz.func3, Tryz.ntmps3
  go_wp2_with fail
  refine (HR.out).mono ?_; rintro e w1 ⟨t, rfl, ht, hb1⟩
  have HT := Lib.hid ht
  have HB1 := Lib.hid hb1
  have HP1 := Lib.hid (pparse_any t w1 (real_size ht HX.out) (HE.out.below hb1))
  have t1 : (t.toList == t.toList) = true := by rw [beq_iff_eq]
  clear ht hb1
  go_wp2_with fail
  refine (HP1.out).mono ?_; rintro e w2 ⟨y, one, rfl, hy, hpo, hb2⟩
  obtain ⟨h1, h2⟩ := parse_back HT.out HX.out hy hpo
  subst h1
  have HK1 := Lib.hid (fun w => rsame_key HX.out hy h2 w)
  have HB2 := Lib.hid (HB1.out.trans (hb2.mono HB1.out.size))
  clear hy hpo hb2 h2
  go_wp2_with fail
  refine (HP2.out _ (HE.out.below HB2.out)).mono ?_; rintro e w3 ⟨z, two, rfl, hz, hpz, hb3⟩
  have HB3 := Lib.hid (HB2.out.trans (hb3.mono HB2.out.size))
  have HPZ := Lib.hid (And.intro hz hpz)
  clear hz hpz hb3
  go_wp2_with fail
  refine (HP3.out _).mono ?_; rintro e w4 ⟨v, three, rfl, hv, hpv, hb4⟩
  have HB4 := Lib.hid (HB3.out.trans (hb4.mono HB3.out.size))
  obtain ⟨h1, h2⟩ := parse_two HPZ.out.2 hpv HPZ.out.1 hv
  subst h1
  have HK2 := Lib.hid (fun w => rsame_key HPZ.out.1 hv h2 w)
  have t2 : (two == two) = true := by cases two <;> rfl
  clear hv hpv hb4 h2
  go_wp2_with fail
  refine (HR2.out _).mono ?_; rintro e w5 ⟨t', rfl, ht', hb5⟩
  obtain rfl := ht'.one HT.out
  have HB5 := Lib.hid (HB4.out.trans (hb5.mono HB4.out.size))
  clear ht' hb5
  go_wp2_with fail
  refine (HK1.out _).mono ?_; rintro e w6 ⟨rfl, hb6⟩
  have HB6 := Lib.hid (HB5.out.trans (hb6.mono HB5.out.size))
  clear hb6
  go_wp2_with fail
  refine (HK2.out _).mono ?_; rintro e w7 ⟨rfl, hb7⟩
  have HB7 := Lib.hid (HB6.out.trans (hb7.mono HB6.out.size))
  have HA := Lib.hid (awake_rep w7 (HE.out.below HB7.out))
  clear hb7
  go_wp2_with fail
  refine (HA.out).mono ?_; rintro e w8 ⟨rfl, hb8⟩
  have HB8 := Lib.hid (HB7.out.trans (hb8.mono HB7.out.size))
  clear hb8
  go_wp2_with fail
  go_ret
  exact ⟨rfl, HB8.out⟩
end Go.Proofs.YtdbkgpakpadloaaGreatDoor
