/- Contracts of package bushelref01's functions on lists of digits: digit, made, less. Conditions: the lists hold digits of base 1000 where that is said. -/
import Derived.Test.YtnbhcemgoifkgaaRows64
namespace Go.Proofs.Ytnbhcemgoifkgaa
open Go.RowKit

/-- a number of package bushelref01: its sign, its list, what it stands for -/
def NumC (w : World) (neg : Bool) (a : Option Addr) (n cap : Nat) (z : Int) : Prop :=
  ∃ xs, RowK .i64 w a n cap xs ∧ Dig 1000 xs ∧ Trimmed xs ∧ z = (if neg then -V 1000 xs else V 1000 xs) ∧ (neg = true → 0 < V 1000 xs)

theorem NumC.below {w w' : World} {neg : Bool} {a : Option Addr} {n cap : Nat} {z : Int} {B : Nat} (h : NumC w neg a n cap z) (hb : Below B w w') (hB : w.heap.size ≤ B) : NumC w' neg a n cap z := by
  obtain ⟨xs, h1, h2⟩ := h
  exact ⟨xs, h1.below hb hB, h2⟩

theorem NumC.set {w : World} {neg : Bool} {a : Option Addr} {n cap : Nat} {z : Int} (h : NumC w neg a n cap z) {p : Addr} {u : Value} (hu : w.cell? p = some u) (hn : ∀ m, u ≠ .int .i64 m) (v : Value) : NumC (w.setCell p v) neg a n cap z := by
  obtain ⟨xs, h1, h2⟩ := h
  exact ⟨xs, h1.set hu hn v, h2⟩

/-- the address lies in a block from N on -/
def Fresh (N : Nat) (a : Option Addr) : Prop := ∀ x, a = some x → N ≤ x.block
def Same (a a' : Option Addr) : Prop := a' = a
theorem Fresh.mono {N M : Nat} {a : Option Addr} (h : Fresh N a) (hm : M ≤ N) : Fresh M a := fun x hx => Nat.le_trans hm (h x hx)
theorem Fresh.same {N : Nat} {a a' : Option Addr} (h : Fresh N a) (hs : Same a a') : Fresh N a' := by
  have e : a' = a := hs
  rw [e]; exact h
theorem Fresh.at {N b off : Nat} (h : N ≤ b) : Fresh N (some ⟨b, off, none⟩) := fun x hx => by cases hx; exact h
theorem Fresh.nil {N : Nat} : Fresh N none := fun x hx => by cases hx

/-- a call's answer: the number z; nothing that was there has changed; S of the list's address -/
def RetNumS (S : Option Addr → Prop) (w : World) (z : Int) (e : Ending) (w' : World) : Prop :=
  ∃ neg a n c, e = .returned (.agg #[.bool neg, .slice a n c]) ∧ NumC w' neg a n c z ∧ Below w.heap.size w w' ∧ S a
/-- the same, its list in memory of its own -/
def RetNum (w : World) (z : Int) (e : Ending) (w' : World) : Prop := RetNumS (Fresh w.heap.size) w z e w'

theorem RetNum.mk {w w' : World} {neg : Bool} {a : Option Addr} {n c : Nat} {z : Int} (h : NumC w neg a n c z) (hb : Below w.heap.size w w') :
    RetNumS (Same a) w z (.returned (.agg #[.bool neg, .slice a n c])) w' := ⟨_, _, _, _, rfl, h.below hb (Nat.le_refl _), hb, rfl⟩

/-- the answer is laid into a box of the call's own -/
theorem RetNum.stored {S : Option Addr → Prop} {w w1 : World} {neg : Bool} {a : Option Addr} {n c : Nat} {z : Int} {B : Nat} (h : NumC w1 neg a n c z) (hB : w.heap.size ≤ B) (hb : Below w.heap.size w w1)
    (h0 : w1.cell? ⟨B, 0, none⟩ = some (.bool false)) (h1 : w1.cell? ⟨B, 1, none⟩ = some (.slice none 0 0)) (hS : S a) :
    RetNumS S w z (.returned (.agg #[.bool neg, .slice a n c])) ((w1.setCell ⟨B, 0, none⟩ (.bool neg)).setCell ⟨B, 1, none⟩ (.slice a n c)) := by
  refine ⟨_, _, _, _, rfl, (h.set h0 (fun _ e => by cases e) _).set (u := .slice none 0 0) ?_ (fun _ e => by cases e) _, (hb.setCell hB _).setCell hB _, hS⟩
  rw [World.cell?_setCell_other _ _ _ _ (by simp)]
  exact h1

theorem digit_any (a : Option Addr) (n cap : Nat) (xs : List Int) (i : Int) (w : World) (h : RowK .i64 w a n cap xs) (hi : 0 ≤ i) :
    Calls Try.prog 90 #[.slice a n cap, .int .i64 i] w fun e w' => e = .returned (.int .i64 (xs.getD i.toNat 0)) ∧ w = w' := by
  obtain ⟨h1, h2, h3, h4⟩ := h
  unfold maxLen at h3
  by_cases hlt : i < n
  · rcases h4 with hcap0 | ⟨b, off, rfl, hb, hc⟩
    · omega
    · have hc1 := hc i.toNat (by omega)
      obtain ⟨d, hd⟩ : ∃ d, d = xs.getD i.toNat 0 := ⟨_, rfl⟩
      rw [← hd] at hc1 ⊢
      clear hc hd h1
      go_enter Try.func90, Try.ntmps90
      go_wp2
      go_ret
      exact ⟨rfl, rfl⟩
  · rw [getD_ge (by omega)]
    clear h1 h4
    go_enter Try.func90, Try.ntmps90
    go_wp2
    go_ret
    exact ⟨rfl, rfl⟩

theorem num_made {w : World} {neg : Bool} {a : Option Addr} {n cap m : Nat} {xs : List Int} (h : RowK .i64 w a n cap xs) (hd : Dig 1000 xs) (hm : m ≤ n) (hv : V 1000 (xs.take m) = V 1000 xs)
    (ht : m = 0 ∨ xs.getD (m - 1) 0 ≠ 0) : NumC w (neg && decide (0 < m)) a m cap (if neg then -V 1000 xs else V 1000 xs) := by
  have hl := h.1
  have T := trimmed_take (xs := xs) (m := m) (by omega) ht
  refine ⟨xs.take m, h.take hm, hd.take m, T, ?_, ?_⟩
  · rw [hv]
    by_cases h0 : 0 < m
    · simp [h0]
    · have : m = 0 := by omega
      subst this
      have e : V 1000 xs = 0 := by rw [← hv]; rfl
      rw [e]; simp
  · intro hn
    simp only [Bool.and_eq_true, decide_eq_true_eq] at hn
    refine (V_pos (by decide) (hd.take m) T).2 fun e => ?_
    have e2 := congrArg List.length e
    rw [List.length_take, List.length_nil] at e2
    have := hn.2
    clear hv ht hn
    omega

theorem made_any (neg : Bool) (a : Option Addr) (n cap : Nat) (xs : List Int) (z : Int) (w : World) (hz : (if neg then -V 1000 xs else V 1000 xs) = z) (h : RowK .i64 w a n cap xs) (hd : Dig 1000 xs) :
    Calls Try.prog 70 #[.bool neg, .slice a n cap] w (RetNumS (Same a) w z) := by
  have HZ := Lib.hid hz
  clear hz
  have H := Lib.hid h
  have HD := Lib.hid hd
  obtain ⟨h1, h2, h3, h4⟩ := h
  unfold maxLen at h3
  have H4 := Lib.hid h4
  have H1 := Lib.hid h1
  clear hd h4 h1
  go_enter Try.func70, Try.ntmps70
  go_wp2_with fail
  go_loopg [5] n (fun k x wr => wr = w.alloc (.cells #[.bool false, .slice none 0 0] 27) ∧ x = .int .i64 k ∧ k ≤ n ∧ V 1000 (xs.take k) = V 1000 xs)
  case atStart => exact ⟨rfl, rfl, Nat.le_refl _, by rw [List.take_of_length_le (by rw [H1.out]; exact Nat.le_refl _)]⟩
  case round =>
    obtain ⟨rfl, rfl, hk, hv⟩ := hrel
    have HV := Lib.hid hv
    clear hv
    by_cases h0 : gk = 0
    · subst h0
      have hn0 := num_made (neg := neg) H.out HD.out (Nat.zero_le n) HV.out (.inl rfl)
      rw [HZ.out] at hn0
      have hn := Lib.hid hn0
      clear hn0
      simp only [Nat.lt_irrefl, decide_false, Bool.and_false] at hn
      cases neg
      all_goals
        go_wp2
        exact bodyPost_ret (v := .agg #[.bool false, .slice a 0 cap]) (by simp [results, Try.results70, go_sem]) rfl (RetNum.mk hn.out ((Below.refl _ _).alloc (Nat.le_refl _) _))
    · rcases H4.out with hcap0 | ⟨b, off, rfl, hb, hc⟩
      · omega
      have hc1 := hc (gk - 1) (by omega)
      obtain ⟨d, hd⟩ : ∃ d, d = xs.getD (gk - 1) 0 := ⟨_, rfl⟩
      rw [← hd] at hc1
      have HX := Lib.hid hd
      have hgk : 0 < gk := by omega
      clear hc hd h0
      by_cases hd0 : d = 0
      · subst hd0
        go_wp2
        go_roundg (gk - 1)
        case measure => omega
        case rel => exact ⟨rfl, by go_num, by omega, by
          rw [← HV.out]
          have e : xs.take gk = xs.take (gk - 1) ++ [(0 : Int)] := by
            have := H1.out
            obtain ⟨j, rfl⟩ : ∃ j, gk = j + 1 := ⟨gk - 1, by omega⟩
            rw [List.take_succ_eq_append_getElem (by omega)]
            have hx := HX.out
            rw [Nat.add_sub_cancel, List.getD_eq_getElem?_getD, List.getElem?_eq_getElem (by omega)] at hx
            simp at hx
            rw [← hx]; rfl
          rw [e, V_snoc, Int.zero_mul, Int.add_zero]⟩
      · have hne : (d == 0) = false := by simpa using hd0
        have hn0 := num_made (neg := neg) H.out HD.out hk HV.out (.inr (by rw [← HX.out]; exact hd0))
        rw [HZ.out] at hn0
        have hn := Lib.hid hn0
        clear hn0
        simp only [hgk, decide_true, Bool.and_true] at hn
        clear hd0
        cases neg
        · go_wp2
          exact bodyPost_ret (v := .agg #[.bool false, .slice (some ⟨b, off, none⟩) gk cap]) (by simp [results, Try.results70, go_sem]) rfl (RetNum.mk hn.out ((Below.refl _ _).alloc (Nat.le_refl _) _))
        · go_wp2
          exact bodyPost_ret (v := .agg #[.bool true, .slice (some ⟨b, off, none⟩) gk cap]) (by simp [results, Try.results70, go_sem]) rfl (RetNum.mk hn.out ((Below.refl _ _).alloc (Nat.le_refl _) _))

theorem digit_at (a : Option Addr) (n cap : Nat) (xs : List Int) (i d : Int) (w : World) (h : RowK .i64 w a n cap xs) (hi : 0 ≤ i) (hd : xs.getD i.toNat 0 = d) :
    Calls Try.prog 90 #[.slice a n cap, .int .i64 i] w fun e w' => e = .returned (.int .i64 d) ∧ w = w' := by
  rw [← hd]; exact digit_any a n cap xs i w h hi

/-- -1, 0, 1 -/
def cmpZ (x y : Int) : Int := if x < y then -1 else if x = y then 0 else 1
theorem cmpZ_lt {x y : Int} (h : x < y) : cmpZ x y = -1 := by simp [cmpZ, h]
theorem cmpZ_eq {x y : Int} (h : x = y) : cmpZ x y = 0 := by simp [cmpZ, h]
theorem cmpZ_gt {x y : Int} (h : y < x) : cmpZ x y = 1 := by
  unfold cmpZ; rw [if_neg (by omega), if_neg (by omega)]

theorem less_step {B : Int} (hB : 0 < B) {xs ys : List Int} (hx : Dig B xs) (hy : Dig B ys) {k : Nat} (hab : ∀ i, k + 1 ≤ i → xs.getD i 0 = ys.getD i 0) (hlt : xs.getD k 0 < ys.getD k 0) : V B xs < V B ys := by
  have h1 := vf_cmp hB (f := fun i => xs.getD i 0) (g := fun i => ys.getD i 0) k (fun i _ => hx.at hB i) (fun i _ => hy.at hB i) hlt
  have h2 := vf_same_above (B := B) (f := fun i => xs.getD i 0) (g := fun i => ys.getD i 0) (k + 1) (max xs.length ys.length) (fun i h _ => hab i h)
  rw [vf_ext (by omega), vf_ext (by omega)] at h2
  omega
theorem less_same {B : Int} {xs ys : List Int} (hab : ∀ i : Nat, xs.getD i 0 = ys.getD i 0) : V B xs = V B ys := by
  rw [← vf_ext (xs := xs) (n := max xs.length ys.length) (by omega), ← vf_ext (xs := ys) (n := max xs.length ys.length) (by omega)]
  exact vf_congr _ fun i _ => hab i

theorem less_any (a b : Option Addr) (n cap m cb : Nat) (xs ys : List Int) (w : World) (ha : RowK .i64 w a n cap xs) (hb : RowK .i64 w b m cb ys) (hx : Dig 1000 xs) (hy : Dig 1000 ys) :
    Calls Try.prog 72 #[.slice a n cap, .slice b m cb] w fun e w' => e = .returned (.int .i64 (cmpZ (V 1000 xs) (V 1000 ys))) ∧ w = w' := by
  have HA := Lib.hid ha
  have HB := Lib.hid hb
  have HX := Lib.hid hx
  have HY := Lib.hid hy
  have e1 : n ≤ 9223372036854775807 := by have := ha.2.1; have := ha.2.2.1; unfold maxLen at this; omega
  have e2 : m ≤ 9223372036854775807 := by have := hb.2.1; have := hb.2.2.1; unfold maxLen at this; omega
  have S : Hid (∀ i, max n m ≤ i → xs.getD i 0 = ys.getD i 0) := by
    have h : ∀ i, max n m ≤ i → xs.getD i 0 = ys.getD i 0 := fun i hi => by
      rw [getD_ge (by have := ha.1; omega), getD_ge (by have := hb.1; omega)]
    exact Lib.hid h
  clear ha hb hx hy
  by_cases hnm : n < m
  all_goals
    go_enter Try.func72, Try.ntmps72
    go_wp2_with fail
    go_loopg [5] (max n m) (fun k x wr => w = wr ∧ x = .int .i64 ((k : Int) - 1) ∧ k ≤ max n m ∧ ∀ i, k ≤ i → xs.getD i 0 = ys.getD i 0)
    case atStart => exact ⟨rfl, congrArg (Value.int .i64) (by omega), Nat.le_refl _, S.out⟩
    case round =>
      obtain ⟨rfl, rfl, hk, hab⟩ := hrel
      have HAB := Lib.hid hab
      clear hab
      by_cases h0 : gk = 0
      · subst h0
        have HZ := Lib.hid (less_same (B := 1000) (fun i => HAB.out i (Nat.zero_le i)))
        go_wp2_with fail
        go_ret
        exact ⟨ret_int (cmpZ_eq HZ.out).symm, rfl⟩
      · have hj : ((gk : Int) - 1).toNat = gk - 1 := by omega
        have hd0 : 0 ≤ (gk : Int) - 1 := by omega
        obtain ⟨d, hd⟩ : ∃ d, xs.getD (gk - 1) 0 = d := ⟨_, rfl⟩
        obtain ⟨e, he⟩ : ∃ e, ys.getD (gk - 1) 0 = e := ⟨_, rfl⟩
        have hA := Lib.hid (digit_at a n cap xs ((gk : Int) - 1) d w HA.out hd0 (by rw [hj]; exact hd))
        have hB := Lib.hid (digit_at b m cb ys ((gk : Int) - 1) e w HB.out hd0 (by rw [hj]; exact he))
        have HD := Lib.hid hd
        have HE := Lib.hid he
        clear hd he hj
        rcases Int.lt_trichotomy d e with hlt | heq | hgt
        · have HZ := Lib.hid (less_step (B := 1000) (by decide) HX.out HY.out (k := gk - 1) (fun i hi => HAB.out i (by omega)) (by rw [HD.out, HE.out]; exact hlt))
          have hne : (d == e) = false := by simp; omega
          have hne2 : (d != e) = true := by simp; omega
          go_wp2_with fail
          refine hA.out.mono ?_; rintro e w' ⟨rfl, rfl⟩
          go_wp2_with fail
          refine hB.out.mono ?_; rintro e w' ⟨rfl, rfl⟩
          go_wp2_with fail
          refine hA.out.mono ?_; rintro e w' ⟨rfl, rfl⟩
          go_wp2_with fail
          refine hB.out.mono ?_; rintro e w' ⟨rfl, rfl⟩
          go_wp2_with fail
          go_ret
          exact ⟨ret_int (cmpZ_lt HZ.out).symm, rfl⟩
        · subst heq
          have hne2 : (d != d) = false := by simp
          go_wp2_with fail
          refine hA.out.mono ?_; rintro e w' ⟨rfl, rfl⟩
          go_wp2_with fail
          refine hB.out.mono ?_; rintro e w' ⟨rfl, rfl⟩
          go_wp2_with fail
          go_roundg (gk - 1)
          case measure => omega
          case rel => exact ⟨rfl, congrArg (Value.int .i64) (by omega), by omega, fun i hi => by
            by_cases h : i = gk - 1
            · rw [h, HD.out, HE.out]
            · exact HAB.out i (by omega)⟩
        · have HZ := Lib.hid (less_step (B := 1000) (by decide) HY.out HX.out (k := gk - 1) (fun i hi => (HAB.out i (by omega)).symm) (by rw [HD.out, HE.out]; exact hgt))
          have hne : (d == e) = false := by simp; omega
          have hne2 : (d != e) = true := by simp; omega
          go_wp2_with fail
          refine hA.out.mono ?_; rintro e w' ⟨rfl, rfl⟩
          go_wp2_with fail
          refine hB.out.mono ?_; rintro e w' ⟨rfl, rfl⟩
          go_wp2_with fail
          refine hA.out.mono ?_; rintro e w' ⟨rfl, rfl⟩
          go_wp2_with fail
          refine hB.out.mono ?_; rintro e w' ⟨rfl, rfl⟩
          go_wp2_with fail
          go_ret
          exact ⟨ret_int (cmpZ_gt HZ.out).symm, rfl⟩
end Go.Proofs.Ytnbhcemgoifkgaa
