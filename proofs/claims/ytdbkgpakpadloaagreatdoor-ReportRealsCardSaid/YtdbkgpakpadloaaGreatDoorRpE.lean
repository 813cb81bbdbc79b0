/- The contract of package report's Parse. Conditions: the library's variables are as the row lists them; a text of at most 100000 bytes. -/
import Derived.Test.YtdbkgpakpadloaaGreatDoorRpD
import Derived.Test.YtdbkgpakpadloaaGreatDoorMFloB
import Derived.Test.YtdbkgpakpadloaaGreatDoorNatR
namespace Go.Proofs.YtdbkgpakpadloaaGreatDoor
open Go.RowKit Ieee

theorem var_stay44 {P : Program} {w w' : World} {n : String} {cs : Array Value} (h : w.var? P n = some cs) (hb : Below w.heap.size w w') : w'.var? P n = some cs := by
  unfold World.var? at *
  cases hg : P.globalNamed n with
  | none => simp [hg] at h
  | some g =>
    simp only [hg, Option.bind_some] at h ⊢
    have hlt : g < w.heap.size := by
      rcases Nat.lt_or_ge g w.heap.size with h' | h'
      · exact h'
      · rw [Array.getElem?_eq_none h'] at h; cases h
    rw [hb.block g hlt]; exact h
/-- what the row lists of the library's variables -/
def Env (w : World) : Prop := Tab w ∧ (∃ tp p, w.var? Tryz.prog "strconv.ErrSyntax" = some #[.iface tp p]) ∧ (∃ tp p, w.var? Tryz.prog "strconv.ErrRange" = some #[.iface tp p]) ∧ ∃ m : Int, w.cell? ⟨1, 0, none⟩ = some (.int .i64 m)
theorem Env.below {w w' : World} (h : Env w) (hb : Below w.heap.size w w') : Env w' := by
  obtain ⟨h1, ⟨tp, p, h2⟩, ⟨tq, q, h3⟩, m, h4⟩ := h
  exact ⟨var_stay44 h1 hb, ⟨tp, p, var_stay44 h2 hb⟩, ⟨tq, q, var_stay44 h3 hb⟩, m, by rw [hb.cell (p := ⟨1, 0, none⟩) (World.block_lt_of_cell? w _ h4)]; exact h4⟩
/-- what Parse answers -/
def POut (C : ByteArray → Nat → Prop) (s : ByteArray) (z : Nat) (ok : Bool) : Prop :=
  (s = txNone ∧ ok = true ∧ kindZ z = 3) ∨ (s ≠ txNone ∧ ok = true ∧ IsReal z s) ∨ (s ≠ txNone ∧ ok = false ∧ z = 0 ∧ ∀ x, C s x → ¬ IsReal x s)
def RParse (C : ByteArray → Nat → Prop) (s : ByteArray) (w : World) (e : Ending) (w' : World) : Prop := ∃ z ok, e = .returned (.tuple #[.float .f64 z, .bool ok]) ∧ z < 18446744073709551616 ∧ POut C s z ok ∧ Below w.heap.size w w'
/-- Atoi's three ends in two -/
def RAtoi (l : List UInt8) (w : World) (e : Ending) (w' : World) : Prop :=
  Below w.heap.size w w' ∧ ((∃ v, Lib.atoiAll l = .ok v ∧ e = .returned (.tuple #[.int .i64 v, .nilIface])) ∨ ((∀ v, Lib.atoiAll l ≠ .ok v) ∧ ∃ v N, e = .returned (.tuple #[.int .i64 v, .iface 104 (.pointer (some ⟨N, 0, none⟩))])))
theorem atoi_any (s : ByteArray) (w : World) (hs : s.size ≤ 100000) (he : Env w) : Calls Tryz.prog 21 #[.string s] w (RAtoi (lb s) w) := by
  obtain ⟨-, ⟨tp, p, h2⟩, ⟨tq, q, h3⟩, -⟩ := he
  rcases h : Lib.atoiAll (lb s) with v | - | -
  · refine (Tryz.strconv_Atoi_ok s (by omega) v h w).mono ?_
    rintro e w' ⟨rfl, hw⟩
    refine ⟨?_, .inl ⟨v, h, rfl⟩⟩
    rcases hw with rfl | ⟨t, rfl⟩
    · exact Below.refl _ _
    · exact Lib.bytesWorld_below _ _ _
  · refine (Tryz.strconv_Atoi_syntax_var s (by omega) ⟨fun v hv => (by cases h.symm.trans hv), fun hv => (by cases h.symm.trans hv)⟩ tp p w h2).mono ?_
    rintro e w' ⟨N, rfl, -, -, hb⟩
    exact ⟨hb, .inr ⟨(fun v hv => by rw [h] at hv; cases hv), _, N, rfl⟩⟩
  · refine (Tryz.strconv_Atoi_range_var s (by omega) h tq q w h3).mono ?_
    rintro e w' ⟨N, rfl, -, -, hb⟩
    exact ⟨hb, .inr ⟨(fun v hv => by rw [h] at hv; cases hv), _, N, rfl⟩⟩
theorem natc_len3 {w : World} {a : Option Addr} {n c K : Nat} {z : Int} (h : NatC w a n c z) (hz : z < 4294967296 ^ K) : n ≤ K := by
  obtain ⟨xs, h1, h2, h3, rfl⟩ := h
  have hl := h1.1
  rcases Nat.lt_or_ge K n with h4 | h4
  · have hne : xs ≠ [] := fun e => by rw [e] at hl; simp at hl; omega
    have hge := V_ge (B := 4294967296) (by decide) h2 h3 hne
    have h5 : (4294967296 : Int) ^ K ≤ 4294967296 ^ (xs.length - 1) := ipow_le (by decide) (by omega)
    omega
  · exact h4
theorem tv_nn {s : ByteArray} (h : OkText s) : 0 ≤ tv s s.size ∧ ∃ K, K ≤ 1000 ∧ tv s s.size < 4294967296 ^ K := by
  have e := tv_dv s s.size (Nat.le_refl _) h.2.2.2
  refine ⟨by rw [e]; omega, s.size, h.2.1, ?_⟩
  have key : ∀ i, i ≤ s.size → 0 ≤ tv s i ∧ tv s i < 4294967296 ^ i := by
    intro i
    induction i with
    | zero => intro _; exact ⟨Int.le_refl _, by show (0 : Int) < 4294967296 ^ 0; decide⟩
    | succ i ih =>
      intro hi
      obtain ⟨h0, h1⟩ := ih (by omega)
      have h2 := h.2.2.2 i (by omega)
      rw [Int.pow_succ]
      show 0 ≤ tv s i * 10 + (sb s i - 48) ∧ tv s i * 10 + (sb s i - 48) < _
      omega
  exact (key _ (Nat.le_refl _)).2
theorem bits53 {Z : Int} {b : Nat} (h : IsBits Z b) (h0 : 0 ≤ Z) : (53 < b → 9007199254740992 ≤ Z) ∧ (¬ 53 < b → Z < 9007199254740992) := by
  have e : (2 : Int) ^ 53 = 9007199254740992 := by decide
  rcases h with ⟨rfl, rfl⟩ | ⟨h1, h2, h3⟩
  · exact ⟨fun h => by omega, fun _ => by omega⟩
  · refine ⟨fun h => ?_, fun h => ?_⟩
    · have : (2 : Int) ^ 53 ≤ 2 ^ (b - 1) := ipow_le (by decide) (by omega)
      omega
    · have : (2 : Int) ^ b ≤ 2 ^ 53 := ipow_le (by decide) (by omega)
      omega
theorem no_cand {s : ByteArray} (hz : bdy s ≠ lb txZero) (hi : bdy s ≠ lb txInf)
    (h : ¬ ((Lib.cut (bdy s) [112]).2.2 = true ∧ OkText (cutA s) ∧ ∃ e, Lib.atoiAll (lb (cutB s)) = .ok e ∧ -1074 ≤ e ∧ e ≤ 1023 ∧ tv (cutA s) (cutA s).size < 9007199254740992)) : ∀ x, PCand s x → ¬ IsReal x s := by
  intro x hx
  rcases hx with ⟨h1, -⟩ | ⟨-, h1, -⟩ | ⟨-, -, h1, h2, e, h3, h4, h5, h6, -⟩
  · exact absurd h1 hz
  · exact absurd h1 hi
  · exact absurd ⟨h1, h2, e, h3, h4, h5, h6⟩ h
theorem nat_joins (neg : Bool) (a : Option Addr) (n c : Nat) (z e : Int) (w : World) (h : NatC w a n c z) (hz : z < 9007199254740992) (h0 : 0 ≤ z) (he1 : -9223372036854775808 ≤ e) (he2 : e ≤ 9223372036854775807) :
    Calls Tryz.prog 18 #[.bool neg, .slice a n c, .int .i64 e] w (RJoin (joinN neg z.toNat e) w) := by
  have hn := natc_len h (by omega)
  obtain ⟨xs, h1, h2, h3, h4⟩ := h
  exact fjoin_any neg a n c xs z.toNat e w h1 h2 (by omega) (by omega) he1 he2
theorem eq_list {s : ByteArray} {l : List UInt8} (h : lb s ≠ l) : (s.toList == l) = false := by
  rw [Lib.toList_data, beq_eq_false_iff_ne]; exact h
theorem join_lt44 (neg : Bool) (X : Nat) (e : Int) : joinN neg X e < 18446744073709551616 := by
  have h := near_le X e
  unfold joinN
  unfold INF S63 at *
  cases neg
  · rw [if_neg (by decide)]; omega
  · rw [if_pos rfl]; omega
theorem cut_size (s : ByteArray) : (cutA s).size ≤ s.size ∧ (cutB s).size ≤ s.size ∧ (bdy s).length ≤ s.size := by
  have h0 : (bdy s).length ≤ s.size := by
    unfold bdy Lib.trimPrefix
    split
    · rw [List.length_drop, lb_size]; omega
    · rw [lb_size]; exact Nat.le_refl _
  refine ⟨?_, ?_, h0⟩
  · rw [← lb_size]
    show (Lib.cut (bdy s) [112]).1.length ≤ _
    unfold Lib.cut
    split
    · rw [List.length_take]; omega
    · exact h0
  · rw [← lb_size]
    show (Lib.cut (bdy s) [112]).2.1.length ≤ _
    unfold Lib.cut
    split
    · rw [List.length_drop]; omega
    · exact Nat.zero_le _
theorem PO.yes {s : ByteArray} {w w' : World} {C : ByteArray → Nat → Prop} {x : Nat} (hn : s ≠ txNone) (hr : IsReal x s) (hx : x < 18446744073709551616) (hb : Below w.heap.size w w') : RParse C s w (.returned (.tuple #[.float .f64 x, .bool true])) w' :=
  ⟨x, true, rfl, hx, .inr (.inl ⟨hn, rfl, hr⟩), hb⟩
theorem PO.no {s : ByteArray} {w w' : World} {C : ByteArray → Nat → Prop} (hn : s ≠ txNone) (hr : ∀ x, C s x → ¬ IsReal x s) (hb : Below w.heap.size w w') : RParse C s w (.returned (.tuple #[.float .f64 0, .bool false])) w' :=
  ⟨0, false, rfl, by decide, .inr (.inr ⟨hn, rfl, rfl, hr⟩), hb⟩
set_option maxRecDepth 100000 in
set_option maxHeartbeats 8000000 in
theorem pparse_any (s : ByteArray) (w : World) (hs : s.size ≤ 100000) (he : Env w) : Calls Tryz.prog 6 #[.string s] w (RParse PCand s w) := by
  have HE := Lib.hid he
  by_cases hn : s = txNone
  · subst hn
    have t0 : (txNone.toList == [110, 111, 110, 101]) = true := by rw [Lib.toList_data]; rfl
    go_enter Tryz.func6, Tryz.ntmps6
    go_wp2_with fail
    refine (nan_any _).mono ?_; rintro e w1 ⟨rfl, rfl⟩
    go_wp2_with fail
    go_ret2
    exact ⟨_, true, rfl, by decide, .inl ⟨rfl, rfl, by decide⟩, Below.refl _ _⟩
  have t0 : (s.toList == [110, 111, 110, 101]) = false := eq_list fun h => hn (lb_inj h)
  have HN := Lib.hid hn
  obtain ⟨hA, hB, hBD⟩ := cut_size s
  have HCP : Hid (∀ w, Calls Tryz.prog 17 #[.string s, .string ⟨#[45]⟩] w fun e w' => e = .returned (.tuple #[.string ⟨(bdy s).toArray⟩, .bool (ngB s)]) ∧ w = w') := Lib.hid (fun w => (Tryz.strings_CutPrefix s ⟨#[45]⟩ w).mono fun e w' h => ⟨h.1, h.2.symm⟩)
  obtain ⟨BD, hBDe⟩ : ∃ b : ByteArray, b = ⟨(bdy s).toArray⟩ := ⟨_, rfl⟩
  have hlb : lb BD = bdy s := by rw [hBDe, lb_mk]
  rw [← hBDe] at HCP
  have HCUT : Hid (∀ (m : Int) w, w.cell? ⟨1, 0, none⟩ = some (.int .i64 m) → Calls Tryz.prog 19 #[.string BD, .string ⟨#[112]⟩] w fun e w' => e = .returned (.tuple #[.string (cutA s), .string (cutB s), .bool (Lib.cut (bdy s) [112]).2.2]) ∧ ∃ n, w' = w.drewN n) := Lib.hid (fun m w hm => by
    have h := Tryz.strings_Cut BD ⟨#[112]⟩ m w (by rw [← lb_size, hlb]; omega) hm
    have e : BD.data.toList = bdy s := hlb
    rw [e] at h
    exact h)
  obtain ⟨NG, hNG⟩ : ∃ b, ngB s = b := ⟨_, rfl⟩
  rw [hNG] at HCP
  have HNG := Lib.hid hNG
  have HLB := Lib.hid hlb
  have HSA := Lib.hid (And.intro hA hB)
  have HREAL := Lib.hid (fun x (hx : x < 18446744073709551616) w (h : Env w) => preal_any x w hx (fun w' hb => (h.below hb).1))
  clear he hn hA hB hBD hBDe hlb hNG
  go_enter Tryz.func6, Tryz.ntmps6
  go_wp2_with fail
  refine (HCP.out _).mono ?_; rintro e w1 ⟨rfl, rfl⟩
  by_cases hz : lb BD = [48]
  · have t1 : (BD.toList == [48]) = true := by rw [Lib.toList_data, beq_iff_eq]; exact hz
    have HZ := Lib.hid hz
    clear hz
    have HJ := Lib.hid (fun w => fjoin_any NG none 0 0 [] 0 0 w ⟨rfl, Nat.le_refl _, Nat.zero_le _, .inl rfl⟩ (fun d hd => by cases hd) rfl (by decide) (by decide) (by decide))
    have HB0 := Lib.hid (Below.refl w.heap.size w)
    go_wp2_with fail
    refine (HJ.out _).mono ?_; rintro e w7 ⟨rfl, hb7⟩
    have HB7 := Lib.hid (HB0.out.trans (hb7.mono HB0.out.size))
    clear hb7
    have HCX : Hid (PCand s (joinN NG 0 0)) := Lib.hid (.inl ⟨by rw [← HLB.out]; exact HZ.out, by rw [HNG.out]⟩)
    obtain ⟨X, hX⟩ : ∃ x, joinN NG 0 0 = x := ⟨_, rfl⟩
    have hXl : X < 18446744073709551616 := by rw [← hX]; exact join_lt44 _ _ _
    rw [hX] at HCX
    rw [hX]
    have HXL := Lib.hid hXl
    clear hX hXl
    go_wp2_with fail
    refine (HREAL.out X HXL.out _ (HE.out.below HB7.out)).mono ?_; rintro e w8 ⟨r, rfl, hr, hb8⟩
    have HR := Lib.hid hr
    have HB8 := Lib.hid (HB7.out.trans (hb8.mono HB7.out.size))
    clear hr hb8
    by_cases hrs : r = s
    · subst hrs
      go_wp2_with fail
      go_ret2
      exact PO.yes HN.out HR.out HXL.out HB8.out
    · have t9 : (r.toList == s.toList) = false := by rw [Lib.toList_data s]; exact eq_list fun h => hrs (lb_inj h)
      have HRS := Lib.hid hrs
      clear hrs
      go_wp2_with fail
      go_ret2
      exact PO.no HN.out (fun x hx hxr => HRS.out (by rw [hx.one HCX.out] at hxr; exact HR.out.one hxr)) HB8.out
  have t1 : (BD.toList == [48]) = false := eq_list hz
  by_cases hi : lb BD = [105, 110, 102, 105, 110, 105, 116, 121]
  · have t2 : (BD.toList == [105, 110, 102, 105, 110, 105, 116, 121]) = true := by rw [Lib.toList_data, beq_iff_eq]; exact hi
    have HI := Lib.hid hi
    have HZ := Lib.hid hz
    clear hi hz
    have HA1 : Hid (RowK .u32 (w.alloc (.cells #[.int .u32 1] 48)) (some ⟨w.heap.size, 0, none⟩) 1 1 [1]) := Lib.hid ((Arr.new [1] rfl rfl : Arr .u32 48 (w.alloc (.cells #[.int .u32 1] 48)) w.heap.size [1]).full (by decide))
    have HJ := Lib.hid (fjoin_any NG (some ⟨w.heap.size, 0, none⟩) 1 1 [1] 1 2000 (w.alloc (.cells #[.int .u32 1] 48)) HA1.out (fun d hd => by simp only [List.mem_singleton] at hd; subst hd; decide) (by decide) (by decide) (by decide) (by decide))
    have HB0 := Lib.hid ((Below.refl w.heap.size w).alloc (Nat.le_refl _) (.cells #[.int .u32 1] 48))
    go_wp2_with fail
    refine (HJ.out).mono ?_; rintro e w7 ⟨rfl, hb7⟩
    have HB7 := Lib.hid (HB0.out.trans (hb7.mono HB0.out.size))
    clear hb7
    have HCX : Hid (PCand s (joinN NG 1 2000)) := Lib.hid (.inr (.inl ⟨by rw [← HLB.out]; exact HZ.out, by rw [← HLB.out]; exact HI.out, by rw [HNG.out]⟩))
    obtain ⟨X, hX⟩ : ∃ x, joinN NG 1 2000 = x := ⟨_, rfl⟩
    have hXl : X < 18446744073709551616 := by rw [← hX]; exact join_lt44 _ _ _
    rw [hX] at HCX
    rw [hX]
    have HXL := Lib.hid hXl
    clear hX hXl
    go_wp2_with fail
    refine (HREAL.out X HXL.out _ (HE.out.below HB7.out)).mono ?_; rintro e w8 ⟨r, rfl, hr, hb8⟩
    have HR := Lib.hid hr
    have HB8 := Lib.hid (HB7.out.trans (hb8.mono HB7.out.size))
    clear hr hb8
    by_cases hrs : r = s
    · subst hrs
      go_wp2_with fail
      go_ret2
      exact PO.yes HN.out HR.out HXL.out HB8.out
    · have t9 : (r.toList == s.toList) = false := by rw [Lib.toList_data s]; exact eq_list fun h => hrs (lb_inj h)
      have HRS := Lib.hid hrs
      clear hrs
      go_wp2_with fail
      go_ret2
      exact PO.no HN.out (fun x hx hxr => HRS.out (by rw [hx.one HCX.out] at hxr; exact HR.out.one hxr)) HB8.out
  have t2 : (BD.toList == [105, 110, 102, 105, 110, 105, 116, 121]) = false := eq_list hi
  have HZI : Hid (bdy s ≠ lb txZero ∧ bdy s ≠ lb txInf) := Lib.hid ⟨by rw [← HLB.out]; exact hz, by rw [← HLB.out]; exact hi⟩
  clear hz hi
  obtain ⟨A, hA⟩ : ∃ a, cutA s = a := ⟨_, rfl⟩
  obtain ⟨B, hB⟩ : ∃ a, cutB s = a := ⟨_, rfl⟩
  obtain ⟨F, hF⟩ : ∃ a, (Lib.cut (bdy s) [112]).2.2 = a := ⟨_, rfl⟩
  rw [hA, hB, hF] at HCUT
  have HAS : Hid (A.size ≤ 100000 ∧ B.size ≤ 100000) := Lib.hid (by rw [← hA, ← hB]; have := HSA.out; omega)
  have HABF := Lib.hid (And.intro hA (And.intro hB hF))
  obtain ⟨-, -, -, mx, hmx⟩ := HE.out
  have HCT := Lib.hid (HCUT.out mx w hmx)
  clear hA hB hF hmx
  go_wp2_with fail
  refine (HCT.out).mono ?_; rintro e w2 ⟨rfl, nd, rfl⟩
  have HB2 : Hid (Below w.heap.size w (w.drewN nd)) := Lib.hid (blk_dn (Below.refl _ _) nd)
  generalize w.drewN nd = w2 at *
  have HNO : Hid (¬ (F = true ∧ OkText A ∧ ∃ e, Lib.atoiAll (lb B) = .ok e ∧ -1074 ≤ e ∧ e ≤ 1023 ∧ tv A A.size < 9007199254740992) → ∀ x, PCand s x → ¬ IsReal x s) := Lib.hid (fun h => no_cand HZI.out.1 HZI.out.2 (by rw [HABF.out.1, HABF.out.2.1, HABF.out.2.2]; exact h))
  have HRD := Lib.hid (nread_any A w2 (by have := HAS.out.1; omega))
  have HAT := Lib.hid (fun w (h : Env w) => atoi_any B w HAS.out.2 h)
  by_cases hok : OkText A
  · go_wp2_with fail
    refine (HRD.out).mono ?_; rintro e w3 ⟨hr, -⟩
    obtain ⟨a3, n3, c3, rfl, hN3, hb3, -⟩ := hr hok
    have HN3 := Lib.hid hN3
    have HB3 := Lib.hid (HB2.out.trans (hb3.mono HB2.out.size))
    obtain ⟨tv0, KT, hKT, htv⟩ := tv_nn hok
    have HOK := Lib.hid hok
    obtain ⟨Z, hZ⟩ : ∃ z, tv A A.size = z := ⟨_, rfl⟩
    rw [hZ] at HN3 tv0 htv HNO
    have hn3 := natc_len3 HN3.out htv
    have HZZ := Lib.hid hZ
    have HBITS : Hid (∀ w', Below w3.heap.size w3 w' → Calls Tryz.prog 22 #[.slice a3 n3 c3] w' fun e w'' => ∃ b : Nat, e = .returned (.int .i64 b) ∧ w' = w'' ∧ IsBits Z b) := Lib.hid (fun w' hw => by
      obtain ⟨xs, h1, h2, h3, h4⟩ := HN3.out.below hw (Nat.le_refl _)
      have h := bits_any a3 n3 c3 xs w' h1 h2 (by omega)
      rw [h4] at h
      exact h)
    have HT0 := Lib.hid tv0
    clear hr hN3 hb3 hZ htv hok tv0 hn3 hKT
    go_wp2_with fail
    refine (HAT.out _ (HE.out.below HB3.out)).mono ?_; rintro e w4 ⟨hb4, hcs⟩
    have HB4 := Lib.hid (HB3.out.trans (hb4.mono HB3.out.size))
    have HB34 := Lib.hid hb4
    clear hb4
    rcases hcs with ⟨v, hv, rfl⟩ | ⟨hv, v, N, rfl⟩
    · have HV := Lib.hid hv
      clear hv
      rcases F with _ | _
      · go_wp2_with fail
        go_ret2
        exact PO.no HN.out (HNO.out (fun h => by cases h.1)) HB4.out
      · by_cases hv1 : v < -1074
        · have u1 : decide (v < -1074) = true := decide_eq_true hv1
          have HV1 := Lib.hid hv1
          clear hv1
          go_wp2_with fail
          go_ret2
          exact PO.no HN.out (HNO.out (fun h => by
            obtain ⟨-, -, e, h1, h2, -⟩ := h
            rw [HV.out] at h1
            injection h1 with h1
            have := HV1.out; omega)) HB4.out
        have u1 : decide (v < -1074) = false := decide_eq_false hv1
        by_cases hv2 : 1023 < v
        · have u2 : decide (1023 < v) = true := decide_eq_true hv2
          have HV1 := Lib.hid hv2
          clear hv1 hv2
          go_wp2_with fail
          go_ret2
          exact PO.no HN.out (HNO.out (fun h => by
            obtain ⟨-, -, e, h1, h2, h3, -⟩ := h
            rw [HV.out] at h1
            injection h1 with h1
            have := HV1.out; omega)) HB4.out
        have u2 : decide (1023 < v) = false := decide_eq_false hv2
        have HVR := Lib.hid (And.intro (Int.not_lt.1 hv1) (Int.not_lt.1 hv2))
        clear hv1 hv2
        go_wp2_with fail
        refine (HBITS.out _ HB34.out).mono ?_; rintro e w5 ⟨bt, rfl, rfl, hbt⟩
        have HBT := Lib.hid (bits53 hbt HT0.out)
        clear hbt
        by_cases h53 : 53 < bt
        · have u3 : decide ((53 : Int) < (bt : Int)) = true := decide_eq_true (by omega)
          have HBT2 := Lib.hid (HBT.out.1 h53)
          clear h53
          go_wp2_with fail
          go_ret2
          exact PO.no HN.out (HNO.out (fun h => by
            obtain ⟨-, -, e, -, -, -, h4⟩ := h
            have := HBT2.out; omega)) HB4.out
        have u3 : decide ((53 : Int) < (bt : Int)) = false := decide_eq_false (by omega)
        have HBT2 := Lib.hid (HBT.out.2 h53)
        clear h53
        have HJ := Lib.hid (nat_joins NG a3 n3 c3 Z v w4 (HN3.out.below HB34.out (Nat.le_refl _)) HBT2.out HT0.out (by have := HVR.out; omega) (by have := HVR.out; omega))
        go_wp2_with fail
        refine (HJ.out).mono ?_; rintro e w7 ⟨rfl, hb7⟩
        have HB7 := Lib.hid (HB4.out.trans (hb7.mono HB4.out.size))
        clear hb7
        have HCX : Hid (PCand s (joinN NG Z.toNat v)) := Lib.hid (.inr (.inr ⟨HZI.out.1, HZI.out.2, HABF.out.2.2, by rw [HABF.out.1]; exact HOK.out, v, by rw [HABF.out.2.1]; exact HV.out, HVR.out.1, HVR.out.2, by rw [HABF.out.1, HZZ.out]; exact HBT2.out, by rw [HABF.out.1, HZZ.out, HNG.out]⟩))
        obtain ⟨X, hX⟩ : ∃ x, joinN NG Z.toNat v = x := ⟨_, rfl⟩
        have hXl : X < 18446744073709551616 := by rw [← hX]; exact join_lt44 _ _ _
        rw [hX] at HCX
        rw [hX]
        have HXL := Lib.hid hXl
        clear hX hXl
        go_wp2_with fail
        refine (HREAL.out X HXL.out _ (HE.out.below HB7.out)).mono ?_; rintro e w8 ⟨r, rfl, hr, hb8⟩
        have HR := Lib.hid hr
        have HB8 := Lib.hid (HB7.out.trans (hb8.mono HB7.out.size))
        clear hr hb8
        by_cases hrs : r = s
        · subst hrs
          go_wp2_with fail
          go_ret2
          exact PO.yes HN.out HR.out HXL.out HB8.out
        · have t9 : (r.toList == s.toList) = false := by rw [Lib.toList_data s]; exact eq_list fun h => hrs (lb_inj h)
          have HRS := Lib.hid hrs
          clear hrs
          go_wp2_with fail
          go_ret2
          exact PO.no HN.out (fun x hx hxr => HRS.out (by rw [hx.one HCX.out] at hxr; exact HR.out.one hxr)) HB8.out
    · have HV := Lib.hid hv
      clear hv
      rcases F with _ | _
      · go_wp2_with fail
        go_ret2
        exact PO.no HN.out (HNO.out (fun h => by cases h.1)) HB4.out
      · go_wp2_with fail
        go_ret2
        exact PO.no HN.out (HNO.out (fun h => by
          obtain ⟨-, -, e, h1, -⟩ := h
          exact HV.out e h1)) HB4.out
  · go_wp2_with fail
    refine (HRD.out).mono ?_; rintro e w3 ⟨-, hr⟩
    obtain ⟨rfl, hb3⟩ := hr hok
    have HB3 := Lib.hid (HB2.out.trans (hb3.mono HB2.out.size))
    have HOK := Lib.hid hok
    clear hr hb3 hok
    go_wp2_with fail
    refine (HAT.out _ (HE.out.below HB3.out)).mono ?_; rintro e w4 ⟨hb4, hcs⟩
    have HB4 := Lib.hid (HB3.out.trans (hb4.mono HB3.out.size))
    clear hb4
    rcases hcs with ⟨v, hv, rfl⟩ | ⟨hv, v, N, rfl⟩
    all_goals
      clear hv
      rcases F with _ | _
      · go_wp2_with fail
        go_ret2
        exact PO.no HN.out (HNO.out (fun h => by cases h.1)) HB4.out
      · go_wp2_with fail
        go_ret2
        exact PO.no HN.out (HNO.out (fun h => HOK.out h.2.1)) HB4.out
end Go.Proofs.YtdbkgpakpadloaaGreatDoor
