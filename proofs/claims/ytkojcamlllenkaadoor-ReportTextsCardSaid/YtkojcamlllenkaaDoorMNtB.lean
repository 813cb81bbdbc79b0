/- Contract of package nat's Text. Conditions: the words are below 2^32; at most 40000 of them. -/
import Derived.Test.YtkojcamlllenkaaDoorMNatB
import Derived.Laws.BytesArg
import Derived.BigRegion
import Derived.Lib.Strings
namespace Go.Proofs.YtkojcamlllenkaaDoor
open Go.RowKit

theorem info_u8 : (Tryd.prog.info? 5).map (fun i => (i.zero, i.size, i.bytes)) = some (some (.int .u8 0), 1, 1) := by kernel_rfl

/-- digits as bytes -/
def chars (ds : List Int) : List Int := ds.map (48 + ·)
theorem chars_len (ds : List Int) : (chars ds).length = ds.length := by simp [chars]
theorem chars_snoc (ds : List Int) (d : Int) : chars ds ++ [48 + d] = chars (ds ++ [d]) := by simp [chars]
/-- s is X in decimal digits -/
def IsText (X : Int) (s : ByteArray) : Prop := ∃ ds, Dig 10 ds ∧ Trimmed ds ∧ V 10 ds = X ∧ s = (if ds = [] then ⟨#[48]⟩ else strOfNums (chars ds).reverse)
theorem IsText.one {X : Int} {s t : ByteArray} (h : IsText X s) (k : IsText X t) : s = t := by
 obtain ⟨a, a1, a2, a3, rfl⟩ := h
 obtain ⟨b, b1, b2, b3, rfl⟩ := k
 rw [V_inj (B := 10) (by decide) a1 b1 a2 b2 (a3.trans b3.symm)]

/-- one digit more -/
theorem text_step {ds : List Int} {r Q X : Int} {k : Nat} (hk : k < 9) (hv : V 10 ds + 10 ^ ds.length * (r + 10 ^ (9 - k) * Q) = X) :
  V 10 (ds ++ [r % 10]) + 10 ^ (ds ++ [r % 10]).length * (r / 10 + 10 ^ (9 - (k + 1)) * Q) = X := by
 rw [V_snoc, List.length_append, List.length_singleton, Int.pow_succ]
 have e : (10 : Int) ^ (9 - k) = 10 * 10 ^ (9 - (k + 1)) := by
  rw [show 9 - k = 9 - (k + 1) + 1 from by omega, Int.pow_succ, Int.mul_comm]
 rw [e] at hv
 generalize (10 : Int) ^ (9 - (k + 1)) = P at *
 generalize (10 : Int) ^ ds.length = L at *
 have e2 : r = r % 10 + 10 * (r / 10) := (Int.emod_add_mul_ediv r 10).symm
 have e3 : L * (r + 10 * P * Q) = r % 10 * L + L * 10 * (r / 10 + P * Q) := by
  rw [Int.mul_add (L * 10), Int.mul_assoc L 10 (P * Q), Int.mul_assoc L 10 (r / 10), Int.mul_comm (r % 10), ← Int.mul_assoc 10 P Q]
  rw [← Int.mul_add, ← Int.mul_add]
  congr 1
  omega
 omega
theorem text_len {ds : List Int} {z X : Int} {n : Nat} (hd : Dig 10 ds) (hz : 1 ≤ z) (hv : V 10 ds + 10 ^ ds.length * z = X) (hX : X < 4294967296 ^ n) : ds.length < 32 * n := by
 have h0 := (V_bd (B := 10) (by decide) hd).1
 have hp : (0 : Int) < 10 ^ ds.length := Int.pow_pos (by decide)
 have h1 : (10 : Int) ^ ds.length * 1 ≤ 10 ^ ds.length * z := Int.mul_le_mul_of_nonneg_left hz (by omega)
 have h2 : (2 : Int) ^ ds.length ≤ 10 ^ ds.length := by
  have : ∀ n : Nat, (2 : Int) ^ n ≤ 10 ^ n := fun n => by
   induction n with
   | zero => simp
   | succ n ih =>
    rw [Int.pow_succ, Int.pow_succ]
    have : (0 : Int) < 2 ^ n := Int.pow_pos (by decide)
    omega
  exact this _
 have e : (4294967296 : Int) ^ n = 2 ^ (32 * n) := by rw [Int.pow_mul]; rfl
 rcases Nat.lt_or_ge ds.length (32 * n) with h | h
 ·exact h
 ·have : (2 : Int) ^ (32 * n) ≤ 2 ^ ds.length := ipow_le (by decide) h
  omega
theorem pow_le10 {k : Nat} : (1 : Int) ≤ 10 ^ k := Int.pow_pos (by decide)

theorem text_less {r : Int} {k : Nat} (hk : k < 9) (h : r < 10 ^ (9 - k)) : r / 10 < 10 ^ (9 - (k + 1)) := by
 rw [show 9 - k = 9 - (k + 1) + 1 from by omega, Int.pow_succ] at h
 exact Int.ediv_lt_of_lt_mul (by decide) (by omega)
theorem text_trim {ds : List Int} {Q r : Int} (h : Q = 0 → 0 < r) : Q = 0 → r / 10 = 0 → Trimmed (ds ++ [r % 10]) := fun h1 h2 => .inr (by
 rw [List.length_append, List.length_singleton, Nat.add_sub_cancel, getD_snoc]
 have := h h1
 omega)
theorem text_exit {ds : List Int} {Q r X : Int} {k : Nat} (hk : k ≤ 9) (hr : 0 ≤ r) (hr1 : r < 10 ^ (9 - k)) (hv : V 10 ds + 10 ^ ds.length * (r + 10 ^ (9 - k) * Q) = X) (ht : Q = 0 → r = 0 → Trimmed ds) (h : k < 9 → Q = 0 ∧ r = 0) :
  V 10 ds + 10 ^ ds.length * Q = X ∧ (Q = 0 → Trimmed ds) := by
 by_cases h9 : k < 9
 ·obtain ⟨h1, h2⟩ := h h9
  rw [h1, h2, Int.mul_zero, Int.add_zero, Int.mul_zero] at hv
  rw [h1, Int.mul_zero]
  exact ⟨hv, fun _ => ht h1 h2⟩
 ·have e : 9 - k = 0 := by omega
  rw [e, Int.pow_zero] at hv hr1
  have e2 : r = 0 := by omega
  rw [e2, Int.zero_add, Int.one_mul] at hv
  exact ⟨hv, fun h1 => ht h1 e2⟩
theorem OwnK.blk {k : IntKind} {w : World} {B n : Nat} {e : TypeId} {v : Value} {xs : List Int} (h : OwnK k w B e v n xs) (hn : 0 < n) : ∃ g cap, v = .slice (some ⟨g, 0, none⟩) n cap ∧ ArrP k e w g xs ∧ B ≤ g ∧ n ≤ cap ∧ cap ≤ 9223372036854775807 := by
 rcases h.2 with ⟨h1, h2⟩ | ⟨g, cap, cur, rfl, hg, hh, h3, h4, h5, h6⟩
 ·omega
 ·exact ⟨g, cap, rfl, OwnK.part h, hg, h3, h4⟩
theorem NatC.grown {w w' : World} {a : Option Addr} {n c : Nat} {z : Int} {row : Option Nat} (h : NatC w a n c z) (hg : w.grownBy w' row) (hne : c = 0 ∨ ∀ x, a = some x → some x.block ≠ row) : NatC w' a n c z := by
 obtain ⟨xs, h1, h2⟩ := h
 exact ⟨xs, h1.grown hg hne, h2⟩
/-- the own row v and the slice (a, .., c) lie apart -/
def Apart (v : Value) (a : Option Addr) (c : Nat) : Prop := c = 0 ∨ ∀ x, a = some x → some x.block ≠ v.ownBlock
theorem Apart.fresh {w : World} {B n : Nat} {e : TypeId} {k : IntKind} {v : Value} {xs : List Int} {a : Option Addr} {d2 : Nat} (h : OwnK k w B e v n xs) (hf : Fresh w.heap.size a) : Apart v a d2 :=
 .inr fun x hx he => by
  have h1 := hf x hx
  have h2 := (World.ownsRow.lt h _ he.symm).2
  omega
theorem Apart.grow {w : World} {a : Option Addr} {n c g m d : Nat} {z : Int} {v : Value} (h : Apart v a c) (hN : NatC w a n c z) (hg : v.ownBlock = some g ∨ w.heap.size ≤ g) : Apart (.slice (some ⟨g, 0, none⟩) m d) a c := by
 rcases h with h | h
 ·exact .inl h
 ·obtain ⟨xs, hr, -⟩ := hN
  rcases hr.lt with h1 | h1
  ·exact .inl h1
  ·refine .inr fun x hx he => ?_
   have h2 : x.block = g := by simpa [Value.ownBlock] using he
   rcases hg with h3 | h3
   ·exact h x hx (by rw [h3, h2])
   ·have := h1 x hx
    omega

theorem rev_of {cs bs : List Int} {L : Nat} (hc : cs.length = L) (hb : bs.length = L) (h : ∀ j, j < L → bs.getD j 0 = cs.getD (L - 1 - j) 0) : bs = cs.reverse := by
 apply List.ext_getElem (by rw [List.length_reverse, hc, hb])
 intro j h1 h2
 have h3 := h j (by omega)
 rw [List.getD_eq_getElem?_getD, List.getD_eq_getElem?_getD, List.getElem?_eq_getElem h1, List.getElem?_eq_getElem (by omega)] at h3
 rw [List.getElem_reverse]
 simpa [hc] using h3

/-- one exchange of a list's turning -/
theorem swap_step {cs bs : List Int} {L i k : Nat} {x y : Int} (hl : bs.length = L) (hlt : i + i + 1 < L) (hk : L - 1 - i = k) (hx : bs.getD i 0 = x) (hy : bs.getD k 0 = y) (h : ∀ j, j < L → bs.getD j 0 = if j < i ∨ L < j + i + 1 then cs.getD (L - 1 - j) 0 else cs.getD j 0) :
  ∀ j, j < L → ((bs.set i y).set k x).getD j 0 = if j < i + 1 ∨ L < j + (i + 1) + 1 then cs.getD (L - 1 - j) 0 else cs.getD j 0 := by
 intro j hj
 by_cases h1 : j = k
 ·rw [h1, getD_set_self (by rw [List.length_set]; omega), if_pos (by omega), ← hx, h i (by omega), if_neg (by omega)]
  congr 1
  omega
 ·rw [getD_set_ne (fun e => h1 e.symm)]
  by_cases h2 : j = i
  ·rw [h2, getD_set_self (by omega), if_pos (by omega), ← hy, h k (by omega), if_neg (by omega), hk]
  ·rw [getD_set_ne (fun e => h2 e.symm), h j hj]
   by_cases h3 : j < i ∨ L < j + i + 1
   ·rw [if_pos h3, if_pos (by omega)]
   ·rw [if_neg h3, if_neg (by omega)]

set_option maxRecDepth 100000 in
set_option maxHeartbeats 2000000 in
theorem ntext_any (a : Option Addr) (n0 c : Nat) (xs : List Int) (w : World) (ha : RowK .u32 w a n0 c xs) (hx : Dig 4294967296 xs) (hn0 : n0 ≤ 40000) :
  Calls Tryd.prog 31 #[.slice a n0 c] w fun e w' => ∃ s, e = .returned (.string s) ∧ IsText (V 4294967296 xs) s ∧ Below w.heap.size w w' := by
 have HT := Lib.hid (trim_any a n0 c xs w ha hx (by omega))
 have hVb := (V_bd (B := 4294967296) (by decide) hx).2
 have hV0 := (V_bd (B := 4294967296) (by decide) hx).1
 rw [ha.1] at hVb
 have HVB := Lib.hid hVb
 clear ha hx hVb
 generalize V 4294967296 xs = X at *
 go_enter Tryd.func31, Tryd.ntmps31
 go_wp2_with fail
 refine HT.out.mono ?_; rintro e w1 ⟨a1, m1, d1, rfl, hN1, hb1, -⟩
 have HN1 := Lib.hid hN1
 have HB1 := Lib.hid hb1
 have hm1 := hN1.len HVB.out
 have hXg : X < ((X.toNat + 1 : Nat) : Int) := by omega
 clear hN1 hb1
 go_wp2_with fail
 go_loopg [3, 4] (X.toNat + 1) (fun g bu u wr => ∃ (ds : List Int) (z : Int) (b : Option Addr) (m d : Nat), u = .slice b m d ∧ NatC wr b m d z ∧ m ≤ n0 ∧ 0 ≤ z ∧ z < (g : Int) ∧ OwnK .u8 wr w.heap.size 5 bu ds.length (chars ds) ∧ Dig 10 ds ∧ V 10 ds + 10 ^ ds.length * z = X ∧ (z = 0 → Trimmed ds) ∧ ds.length ≤ 32 * n0 ∧ Below w.heap.size w wr)
 case atStart => exact ⟨[], X, a1, m1, d1, rfl, HN1.out, hm1, hV0, hXg, OwnK.nil _ _ _ _, Dig.nil, by simp [V, vf], fun _ => .inl rfl, by simp, HB1.out⟩
 case round =>
  obtain ⟨ds, z, b, m, d, rfl, hN, hm, hz0, hzg, hown, hdd, hv, htr, hlen, hbl⟩ := hrel
  obtain ⟨ys, hyr, hyd, hyv, hyt⟩ := hN.tl
  have hmz : z = 0 ↔ m = 0 := by rw [← hyv, ← hyt]; exact tl_pos (by decide) hyd
  by_cases h0 : z = 0
  ·have hm0 := hmz.1 h0
   subst hm0
   have htr0 := htr h0
   rw [h0, Int.mul_zero, Int.add_zero] at hv
   have HDD := Lib.hid hdd
   have HV := Lib.hid hv
   have HTR := Lib.hid htr0
   have HBL := Lib.hid hbl
   clear hN hm hyr hyd hyv hyt hmz hdd hv htr htr0 hbl
   by_cases hl0 : ds = []
   ·obtain ⟨p, cp, hu⟩ := hown.form
    subst hu
    have hl : ds.length = 0 := by rw [hl0]; rfl
    have HS : Hid (IsText X ⟨#[48]⟩) := Lib.hid ⟨ds, HDD.out, HTR.out, HV.out, by rw [if_pos hl0]⟩
    rw [hl]
    clear hl hl0 hown
    go_wp2_with fail
    go_ret
    exact ⟨_, rfl, HS.out, HBL.out⟩
   ·obtain ⟨g, cap, rfl, hpart, hgw, hcap, hcapm⟩ := hown.blk (by rcases Nat.eq_zero_or_pos ds.length with h | h; exact absurd (List.length_eq_zero_iff.1 h) hl0; exact h)
    have hL : 0 < ds.length := by rcases Nat.eq_zero_or_pos ds.length with h | h; exact absurd (List.length_eq_zero_iff.1 h) hl0; exact h
    have HCL := Lib.hid (chars_len ds)
    have HPT := Lib.hid hpart
    have HST : Hid (IsText X (strOfNums (chars ds).reverse)) := Lib.hid ⟨ds, HDD.out, HTR.out, HV.out, by rw [if_neg hl0]⟩
    clear hown hl0 hpart
    generalize chars ds = cs at *
    generalize ds.length = L at *
    go_wp2_with fail
    go_loopg [8, 9] L (fun q iu ku wi => ∃ (i : Nat) (bs : List Int), iu = .int .i64 i ∧ ku = .int .i64 ((L : Int) - 1 - i) ∧ i + q = L ∧ 2 * i ≤ L ∧ ArrP .u8 5 wi g bs ∧ bs.length = L ∧ (∀ j, j < L → bs.getD j 0 = if j < i ∨ L < j + i + 1 then cs.getD (L - 1 - j) 0 else cs.getD j 0) ∧ Below w.heap.size w wi)
    case atStart => exact ⟨0, cs, rfl, by go_num, by omega, by omega, HPT.out, HCL.out, fun j hj => by rw [if_neg (by omega)], HBL.out⟩
    case round =>
     obtain ⟨i, bs, rfl, rfl, hq, hi2, hpi, hbl, hbs, hbi⟩ := hrel
     have HQ := Lib.hid hq
     have HP := Lib.hid hpi
     have HBLN := Lib.hid hbl
     have HBS := Lib.hid hbs
     have HBI := Lib.hid hbi
     clear hq hpi hbl hbs hbi
     by_cases hlt : i + i + 1 < L
     ·obtain ⟨k, hk⟩ : ∃ k, L - 1 - i = k := ⟨_, rfl⟩
      have hkL : (L : Int) - 1 - (i : Int) = (k : Int) := by omega
      have HKK := Lib.hid hk
      rw [hkL]
      have hik : i < k := by omega
      have hkl : k < L := by omega
      have c1 := HP.out.cell (i := i) (by rw [HBLN.out]; omega)
      have c2 := HP.out.cell (i := k) (by rw [HBLN.out]; omega)
      have f1 := HP.out.frozen i
      have f2 := HP.out.frozen k
      have g1 : (i : Int) < (L : Int) := by omega
      have g2 : (k : Int) < (L : Int) := by omega
      have hne : ¬ (i = k) := by omega
      have hne2 : ¬ (k = i) := by omega
      obtain ⟨x, hx⟩ : ∃ d, bs.getD i 0 = d := ⟨_, rfl⟩
      obtain ⟨y, hy⟩ : ∃ d, bs.getD k 0 = d := ⟨_, rfl⟩
      rw [hx] at c1
      rw [hy] at c2
      have HNX : Hid (∀ j, j < L → ((bs.set i y).set k x).getD j 0 = if j < i + 1 ∨ L < j + (i + 1) + 1 then cs.getD (L - 1 - j) 0 else cs.getD j 0) := Lib.hid (swap_step HBLN.out hlt hk hx hy HBS.out)
      clear hk hkL hx hy
      go_wp2_with fail
      go_region
      go_wp2_with fail
      go_roundg (gk - 1)
      case measure => have := HQ.out; omega
      case rel => exact ⟨i + 1, (bs.set i y).set k x, by go_num, congrArg (Value.int .i64) (by have := HKK.out; omega), by have := HQ.out; omega, by omega, (HP.out.set (by rw [HBLN.out]; omega) y).set (by rw [List.length_set, HBLN.out]; omega) x, by rw [List.length_set, List.length_set]; exact HBLN.out, HNX.out, ((HBI.out.setCell (p := ⟨g, i, none⟩) hgw _).setCell (p := ⟨g, k, none⟩) hgw _).drew⟩
     ·have hconv := run_convert_bytes_arg (P := Tryd.prog) wr 67 5 Tryd.underlying67 Tryd.underlying5 g 0 L cap bs HBLN.out (fun j hj => by rw [Nat.zero_add]; exact HP.out.cell (by rw [HBLN.out]; exact hj)) 9 Tryd.underlying9
      have hrev : bs = cs.reverse := rev_of HCL.out HBLN.out (fun j hj => by
       rw [HBS.out j hj]
       by_cases h : j < i ∨ L < j + i + 1
       ·rw [if_pos h]
       ·rw [if_neg h, show L - 1 - j = j from by omega])
      rw [hrev] at hconv
      clear hrev
      go_wp2_with fail
      go_ret
      exact ⟨_, rfl, HST.out, HBI.out⟩
  ·have hm0 : m ≠ 0 := fun e => h0 (hmz.2 e)
   have hsm := small_any b m d 1000000000 ys wr hyr hyd (by omega) (by decide) (by decide)
   rw [hyv] at hsm
   have HSM := Lib.hid hsm
   have hmd : m ≤ d := hyr.2.1
   have hdm : d ≤ 9223372036854775807 := by have := hyr.2.2.1; unfold maxLen at this; exact this
   have HOW := Lib.hid hown
   have HDD := Lib.hid hdd
   have HV := Lib.hid hv
   have HBL := Lib.hid hbl
   have r0 := Int.emod_nonneg z (show (1000000000 : Int) ≠ 0 by decide)
   have r1 := Int.emod_lt_of_pos z (show (0 : Int) < 1000000000 by decide)
   have Q0 : 0 ≤ z / 1000000000 := Int.ediv_nonneg hz0 (by decide)
   have HE := Lib.hid (Int.emod_add_mul_ediv z 1000000000)
   have hQz : z / 1000000000 < z := by omega
   have HQN : Hid (z / 1000000000 < 4294967296 ^ n0) := Lib.hid (by
    have h1 : z ≤ X := by
     have := (V_bd (B := 10) (by decide) hdd).1
     have h2 := Int.mul_le_mul_of_nonneg_right (pow_le10 (k := ds.length)) hz0
     omega
    have := HVB.out
    omega)
   clear hN hyr hyd hyv hyt hmz hsm hown hdd hv htr hbl
   generalize hq : z / 1000000000 = Q at *
   generalize hr : z % 1000000000 = r at *
   go_wp2_with fail
   refine HSM.out.mono ?_; rintro e w2 ⟨b2, m2, d2, rfl, hN2, hb2, hf2⟩
   have hm2 := hN2.len HQN.out
   have hmq : Q = 0 ↔ m2 = 0 := by
    obtain ⟨vs, -, hvd, hvv, hvt⟩ := hN2.tl
    rw [← hvv, ← hvt]; exact tl_pos (by decide) hvd
   have HN2 := Lib.hid hN2
   have HOW2 := Lib.hid (HOW.out.below hb2 (Nat.le_refl _))
   have HAP := Lib.hid (Apart.fresh (HOW.out) hf2 (d2 := d2))
   have HBL2 := Lib.hid (HBL.out.trans (hb2.mono HBL.out.size))
   have hmd2 : m2 ≤ d2 := by obtain ⟨vs, hvr, -⟩ := hN2; exact hvr.2.1
   have hdm2 : d2 ≤ 9223372036854775807 := by obtain ⟨vs, hvr, -⟩ := hN2; have := hvr.2.2.1; unfold maxLen at this; exact this
   have HMQ := Lib.hid hmq
   clear hN2 hb2 hf2 hmq
   go_wp2_with fail
   go_loopg [3, 6, 7] 9 (fun g bu ru ku wi => ∃ (k : Nat) (ds2 : List Int) (r2 : Int), ku = .int .i64 k ∧ ru = .int .u32 r2 ∧ k + g = 9 ∧ 0 ≤ r2 ∧ r2 < 10 ^ (9 - k) ∧ OwnK .u8 wi w.heap.size 5 bu ds2.length (chars ds2) ∧ Dig 10 ds2 ∧ V 10 ds2 + 10 ^ ds2.length * (r2 + 10 ^ (9 - k) * Q) = X ∧
    (Q = 0 → r2 = 0 → Trimmed ds2) ∧ ds2.length ≤ 32 * n0 ∧ Below w.heap.size w wi ∧ NatC wi b2 m2 d2 Q ∧ Apart bu b2 d2)
   case atStart => exact ⟨0, ds, r, rfl, rfl, rfl, r0, r1, HOW2.out, HDD.out, by rw [← HV.out, ← HE.out]; rfl, fun e1 e2 => by have := HE.out; rw [e1, e2] at this; omega, hlen, HBL2.out, HN2.out, HAP.out⟩
   case round =>
    obtain ⟨k, ds2, r2, rfl, rfl, hk, hr0, hr1, hown, hdd2, hv2, htr2, hl2, hbi, hNi, hap⟩ := hrel
    have HK := Lib.hid hk
    have HR1 := Lib.hid hr1
    have HOWI := Lib.hid hown
    have HDD2 := Lib.hid hdd2
    have HV2 := Lib.hid hv2
    have HTR2 := Lib.hid htr2
    have HBI := Lib.hid hbi
    have HNI := Lib.hid hNi
    have HAPI := Lib.hid hap
    have hr10 : r2 < 1000000000 := by
     have : (10 : Int) ^ (9 - k) ≤ 10 ^ 9 := ipow_le (by decide) (by omega)
     omega
    have hsz := hbi.size
    clear hk hr1 hown hdd2 hv2 htr2 hbi hNi hap
    by_cases hgo : k < 9 ∧ (m2 ≠ 0 ∨ 0 < r2)
    ·obtain ⟨hk9, hor⟩ := hgo
     have hlt : ds2.length < 32 * n0 := text_len HDD2.out (by
      have hp : (1 : Int) ≤ 10 ^ (9 - k) := pow_le10
      rcases hor with h | h
      ·have : Q ≠ 0 := fun e => h (HMQ.out.1 e)
       have := Int.mul_le_mul hp (show 1 ≤ Q by omega) (by omega) (by omega)
       omega
      ·have := Int.mul_nonneg (show (0 : Int) ≤ 10 ^ (9 - k) by omega) Q0
       omega) HV2.out HVB.out
     have hr2d : 0 ≤ r2 % 10 := Int.emod_nonneg _ (by decide)
     have hr2e : r2 % 10 < 10 := Int.emod_lt_of_pos _ (by decide)
     go_upto_region 6 with fail
     go_cut [30] (fun v wx => v = .bool true ∧ wr = wx)
     case first =>
      rcases hor with h | h
      ·have h9 : 0 < m2 := by omega
       go_wp2_with fail
       go_meet
       exact ⟨rfl, rfl⟩
      ·by_cases h9 : 0 < m2
       ·go_wp2_with fail
        go_meet
        exact ⟨rfl, rfl⟩
       ·go_wp2_with fail
        go_meet
        exact ⟨rfl, rfl⟩
     case rest =>
      obtain ⟨rfl, rfl⟩ := hcut
      go_wp2_with (at_builtin; refine append1 .u8 67 5 1 info_u8 (by decide) Tryd.underlying67 rfl _ _ rfl w.heap.size wr u3 ds2.length (chars ds2) (48 + r2 % 10) rfl rfl HOWI.out (by omega) hsz ?_)
      intro g cap w3 hown3 hgr3 hbl3 hg3
      have HOW3 : Hid (OwnK .u8 w3 w.heap.size 5 (.slice (some ⟨g, 0, none⟩) (ds2.length + 1) cap) (ds2 ++ [r2 % 10]).length (chars (ds2 ++ [r2 % 10]))) := Lib.hid (by rw [← chars_snoc, List.length_append]; exact hown3)
      have HN3 := Lib.hid (HNI.out.grown hgr3 HAPI.out)
      have HAP3 : Hid (Apart (.slice (some ⟨g, 0, none⟩) (ds2.length + 1) cap) b2 d2) := Lib.hid (HAPI.out.grow HNI.out hg3)
      have HB3 := Lib.hid (hbl3 w HBI.out)
      clear hown3 hgr3 hbl3 hg3
      go_wp2_with fail
      go_roundg (9 - k - 1)
      case measure => have := HK.out; omega
      case rel => exact ⟨k + 1, ds2 ++ [r2 % 10], r2 / 10, by go_num, rfl, by have := HK.out; omega, by omega, text_less hk9 HR1.out, HOW3.out, HDD2.out.snoc hr2d hr2e, text_step hk9 HV2.out, text_trim (fun e => by rcases hor with h | h; exact absurd (HMQ.out.1 e) h; exact h), by rw [List.length_append]; exact hlt, HB3.out, HN3.out, HAP3.out⟩
    ·have HX2 : Hid (V 10 ds2 + 10 ^ ds2.length * Q = X ∧ (Q = 0 → Trimmed ds2)) := Lib.hid (text_exit (by have := HK.out; omega) hr0 HR1.out HV2.out HTR2.out (fun h => by
      have h1 : m2 = 0 ∧ ¬ (0 < r2) := by
       constructor
       ·exact Classical.byContradiction fun e => hgo ⟨h, .inl e⟩
       ·exact fun e => hgo ⟨h, .inr e⟩
      exact ⟨HMQ.out.2 h1.1, by omega⟩))
     have HEX : Hid (¬ (k < 9) ∨ (m2 = 0 ∧ r2 = 0)) := Lib.hid (by omega)
     go_upto_region 6 with fail
     go_cut [30] (fun v wx => v = .bool false ∧ wr = wx)
     case first =>
      by_cases hk9 : k < 9
      ·have h8 : ¬ (0 < m2) := by omega
       have h7 : ¬ (0 < r2) := by omega
       go_wp2_with fail
       go_meet
       exact ⟨rfl, rfl⟩
      ·go_wp2_with fail
       go_meet
       exact ⟨rfl, rfl⟩
     case rest =>
      obtain ⟨rfl, rfl⟩ := hcut
      go_wp2_with fail
      go_roundg (Q.toNat + 1)
      case measure => omega
      case rel => exact ⟨ds2, Q, b2, m2, d2, rfl, HNI.out, hm2, Q0, by omega, HOWI.out, HDD2.out, HX2.out.1, HX2.out.2, hl2, HBI.out⟩
end Go.Proofs.YtkojcamlllenkaaDoor
/- Contract of package nat's Read. No conditions. -/
namespace Go.Proofs.YtkojcamlllenkaaDoor
open Go.RowKit

/-- the j-th byte of a text, as a number -/
def sb (s : ByteArray) (j : Nat) : Int := ((s.data.toList.getD j 0).toNat : Int)
theorem sb_at {s : ByteArray} {j : Nat} (h : j < s.size) : sb s j = ((s[j]'h).toNat : Int) := by
 unfold sb
 have h2 : j < s.data.toList.length := by simpa using h
 rw [List.getD_eq_getElem?_getD, List.getElem?_eq_getElem h2]
 rfl
/-- the number of a text's first n digits -/
def tv (s : ByteArray) : Nat → Int
 | 0 => 0
 | n + 1 => tv s n * 10 + (sb s n - 48)
/-- is s a number's text? -/
def OkText (s : ByteArray) : Prop := 0 < s.size ∧ s.size ≤ 1000 ∧ ¬ (sb s 0 = 48 ∧ 1 < s.size) ∧ ∀ j, j < s.size → 48 ≤ sb s j ∧ sb s j ≤ 57
theorem isEmpty_of {s : ByteArray} : s.toList.isEmpty = decide (s.size = 0) := by
 have e : s.size = s.data.toList.length := by rw [Array.length_toList]; rfl
 rw [Lib.toList_data, e]
 cases s.data.toList <;> simp
end Go.Proofs.YtkojcamlllenkaaDoor
