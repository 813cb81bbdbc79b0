/- Contracts of package nat's size, Trim, Cmp. Condition: the words of the lists are below 2^32. -/
import Derived.Test.YtkojcamlllenkaaDoorMNum
import Derived.Test.YtkojcamlllenkaaDoorMDiv
namespace Go.Proofs.YtkojcamlllenkaaDoor
open Go.RowKit

/-- how many of the first n places are left without noughts at their end -/
def tlF (xs : List Int) : Nat → Nat
 | 0 => 0
 | n + 1 => if xs.getD n 0 = 0 then tlF xs n else n + 1
def tl (xs : List Int) : Nat := tlF xs xs.length
theorem tlF_le (xs : List Int) : ∀ n, tlF xs n ≤ n
 | 0 => Nat.le_refl _
 | n + 1 => by
  unfold tlF
  split
  ·have := tlF_le xs n; omega
  ·omega
theorem tl_le (xs : List Int) : tl xs ≤ xs.length := tlF_le xs _
theorem tlF_zero (xs : List Int) : ∀ n i, tlF xs n ≤ i → i < n → xs.getD i 0 = 0
 | 0, i, _, h => by omega
 | n + 1, i, h1, h2 => by
  unfold tlF at h1
  split at h1
  ·rename_i h0
   by_cases e : i = n
   ·rw [e]; exact h0
   ·exact tlF_zero xs n i h1 (by omega)
  ·omega
theorem tl_zero {xs : List Int} {i : Nat} (h : tl xs ≤ i) : xs.getD i 0 = 0 := by
 by_cases hi : i < xs.length
 ·exact tlF_zero xs _ i h hi
 ·exact getD_ge (by omega)
theorem tlF_top (xs : List Int) : ∀ n, tlF xs n = 0 ∨ xs.getD (tlF xs n - 1) 0 ≠ 0
 | 0 => .inl rfl
 | n + 1 => by
  unfold tlF
  split
  ·exact tlF_top xs n
  ·rename_i h; exact .inr h
theorem tl_top (xs : List Int) : tl xs = 0 ∨ xs.getD (tl xs - 1) 0 ≠ 0 := tlF_top xs _
theorem tl_V {B : Int} (xs : List Int) : V B (xs.take (tl xs)) = V B xs := V_take (tl_le xs) fun _ h _ => tl_zero h
theorem tl_trim (xs : List Int) : Trimmed (xs.take (tl xs)) := trimmed_take (tl_le xs) (tl_top xs)
theorem tl_len (xs : List Int) : (xs.take (tl xs)).length = tl xs := by rw [List.length_take]; have := tl_le xs; omega
theorem tl_of_trim {xs : List Int} (h : Trimmed xs) : tl xs = xs.length := by
 unfold tl
 rcases h with rfl | h
 ·rfl
 ·cases e : xs.length with
  | zero => rfl
  | succ n =>
   rw [e] at h
   unfold tlF
   rw [if_neg (by simpa using h)]
theorem tl_ge {B : Int} (hB : 0 < B) {xs : List Int} (h : Dig B xs) (h0 : 0 < tl xs) : B ^ (tl xs - 1) ≤ V B xs := by
 have h1 := V_ge hB (h.take (tl xs)) (tl_trim xs) (fun e => by have := congrArg List.length e; rw [tl_len] at this; simp at this; omega)
 rwa [tl_len, tl_V] at h1
theorem tl_pos {B : Int} (hB : 0 < B) {xs : List Int} (h : Dig B xs) : V B xs = 0 ↔ tl xs = 0 := by
 constructor
 ·intro h0
  rcases Nat.eq_zero_or_pos (tl xs) with e | e
  ·exact e
  ·have h1 := tl_ge hB h e
   have h2 : 0 < B ^ (tl xs - 1) := Int.pow_pos hB
   omega
 ·intro h0
  rw [← tl_V, h0]; rfl

theorem size_any (a : Option Addr) (n cap : Nat) (xs : List Int) (w : World) (h : RowK .u32 w a n cap xs) :
  Calls Tryd.prog 72 #[.slice a n cap] w fun e w' => e = .returned (.int .i64 (tl xs)) ∧ w = w' := by
 have H := Lib.hid h
 have hn : n ≤ 9223372036854775807 := by have := h.2.1; have := h.2.2.1; unfold maxLen at this; omega
 have HL := Lib.hid h.1
 obtain ⟨t, ht⟩ : ∃ t, tl xs = t := ⟨_, rfl⟩
 have HT : Hid (tlF xs n = t) := Lib.hid (by rw [← h.1]; exact ht)
 clear h
 rw [ht]
 clear ht
 go_enter Tryd.func72, Tryd.ntmps72
 go_wp2_with fail
 go_loopg [3] n (fun k u wr => w = wr ∧ u = .int .i64 k ∧ k ≤ n ∧ tlF xs k = t)
 case atStart => exact ⟨rfl, rfl, Nat.le_refl _, HT.out⟩
 case round =>
  obtain ⟨rfl, rfl, hk, htl⟩ := hrel
  have HTL := Lib.hid htl
  clear htl
  by_cases h0 : gk = 0
  ·subst h0
   have HZ : Hid (t = 0) := Lib.hid HTL.out.symm
   go_wp2_with fail
   go_ret
   exact ⟨ret_int (by rw [HZ.out]; try rfl), rfl⟩
  ·obtain ⟨j, hj⟩ : ∃ j, gk = j + 1 := ⟨gk - 1, by omega⟩
   subst hj
   obtain ⟨-, -, -, h4⟩ := H.out
   rcases h4 with hcap0 | ⟨b, off, rfl, hb, hc⟩
   ·have := H.out.2.1; omega
   have hc1 := hc j (by omega)
   obtain ⟨d, hd⟩ : ∃ d, xs.getD j 0 = d := ⟨_, rfl⟩
   rw [hd] at hc1
   have HD := Lib.hid hd
   clear hc hd hb h0
   by_cases hd0 : d = 0
   ·subst hd0
    have HT2 : Hid (tlF xs j = t) := by
     have h := HTL.out
     rw [tlF, if_pos HD.out] at h
     exact Lib.hid h
    go_wp2_with fail
    go_roundg j
    case measure => omega
    case rel => exact ⟨rfl, congrArg (Value.int .i64) (by omega), by omega, HT2.out⟩
   ·have hq : (d == 0) = false := by simpa using hd0
    have HZ : Hid (t = j + 1) := by
     have h := HTL.out
     rw [tlF, if_neg (by rw [HD.out]; exact hd0)] at h
     exact Lib.hid h.symm
    clear hd0
    go_wp2_with fail
    go_ret
    exact ⟨ret_int (by rw [HZ.out]), rfl⟩

/-- a trim number z -/
def NatC (w : World) (a : Option Addr) (n c : Nat) (z : Int) : Prop := ∃ xs, RowK .u32 w a n c xs ∧ Dig 4294967296 xs ∧ Trimmed xs ∧ V 4294967296 xs = z
theorem NatC.below {w w' : World} {a : Option Addr} {n c : Nat} {z : Int} {B : Nat} (h : NatC w a n c z) (hb : Below B w w') (hB : w.heap.size ≤ B) : NatC w' a n c z := by
 obtain ⟨xs, h1, h2⟩ := h
 exact ⟨xs, h1.below hb hB, h2⟩
/-- a call's answer: the trim list of z, in memory of its own; nothing that was there has changed -/
def RetNat (w : World) (z : Int) (e : Ending) (w' : World) : Prop := ∃ a n c, e = .returned (.slice a n c) ∧ NatC w' a n c z ∧ Below w.heap.size w w' ∧ Fresh w.heap.size a
theorem info_u32 : (Tryd.prog.info? 27).map (fun i => (i.zero, i.size, i.bytes)) = some (some (.int .u32 0), 1, 4) := by kernel_rfl

theorem trim_any (a : Option Addr) (n cap : Nat) (xs : List Int) (w : World) (h : RowK .u32 w a n cap xs) (hd : Dig 4294967296 xs) (hn : n ≤ 1000000) :
  Calls Tryd.prog 57 #[.slice a n cap] w (RetNat w (V 4294967296 xs)) := by
 have HS := Lib.hid (size_any a n cap xs w h)
 have hle := tl_le xs
 rw [h.1] at hle
 have hcap : n ≤ cap := h.2.1
 have hcm : cap ≤ 9223372036854775807 := by have := h.2.2.1; unfold maxLen at this; omega
 have HR := Lib.hid (h.take hle)
 have HD := Lib.hid (hd.take (tl xs))
 have HT := Lib.hid (tl_trim xs)
 have HV := Lib.hid (tl_V (B := 4294967296) xs)
 have HTL := Lib.hid (tl_len xs)
 generalize tl xs = t at *
 generalize V 4294967296 xs = z at *
 clear h hd
 go_enter Tryd.func57, Tryd.ntmps57
 go_wp2_with fail
 refine HS.out.mono ?_; rintro e w1 ⟨rfl, rfl⟩
 go_wp2_with (at_builtin; refine wpList_append_row .u32 24 27 4 info_u32 (by decide) Tryd.underlying24 rfl _ _ rfl w w.heap.size (.slice none 0 0) 0 [] a t cap (xs.take t) rfl rfl (OwnK.nil _ _ _ _) HR.out HR.out.none' (by omega) (Nat.le_refl _) ?_)
 intro v2 w2 hown hg hbl
 obtain ⟨p, c, hv⟩ := hown.form
 subst hv
 go_wp2_with fail
 go_ret
 have h := hown.row
 have hf := hown.fresh
 exact ⟨p, t, c, rfl, ⟨xs.take t, h, HD.out, HT.out, HV.out⟩, hbl w (Below.refl _ _), hf⟩
end Go.Proofs.YtkojcamlllenkaaDoor
/- Contract of package nat's Cmp. Condition: the words of the lists are below 2^32. -/
namespace Go.Proofs.YtkojcamlllenkaaDoor
open Go.RowKit

end Go.Proofs.YtkojcamlllenkaaDoor
/- Contract of package nat's Add. Conditions: the words are below 2^32; at most 100000 of them. -/
namespace Go.Proofs.YtkojcamlllenkaaDoor
open Go.RowKit

/-- a call's answer is the trim part of a list of the call's own -/
theorem RetNat.cut {w w' : World} {g : Nat} {os : List Int} {z : Int} (h : Arr .u32 27 w' g os) (hd : Dig 4294967296 os) (hl : os.length ≤ 8796093022208) (hz : V 4294967296 os = z) (hb : Below w.heap.size w w') (hg : w.heap.size ≤ g) :
  RetNat w z (.returned (.slice (some ⟨g, 0, none⟩) (tl os) os.length)) w' :=
 ⟨_, _, _, rfl, ⟨os.take (tl os), h.row (tl_le os) (Nat.le_refl _) hl, hd.take _, tl_trim os, by rw [tl_V]; exact hz⟩, hb, Fresh.at hg⟩

end Go.Proofs.YtkojcamlllenkaaDoor
/- Contract of package nat's Sub. Conditions: the words are below 2^32; at most 100000 of them. -/
namespace Go.Proofs.YtkojcamlllenkaaDoor
open Go.RowKit

end Go.Proofs.YtkojcamlllenkaaDoor
/- Contract of package nat's Mul. Conditions: the words are below 2^32; at most 100000 of them. -/
namespace Go.Proofs.YtkojcamlllenkaaDoor
open Go.RowKit

theorem vf_tl {B : Int} (xs : List Int) : vf B (fun j => xs.getD j 0) (tl xs) = V B xs := by
 have h := tl_V (B := B) xs
 unfold V at h
 rw [tl_len] at h
 rw [← vf_congr (f := fun j => (xs.take (tl xs)).getD j 0) _ fun i hi => getD_take hi]
 exact h

end Go.Proofs.YtkojcamlllenkaaDoor
/- Contracts of package nat's small and move. Conditions: the words are below 2^32; at most 100000 of them. -/
namespace Go.Proofs.YtkojcamlllenkaaDoor
open Go.RowKit

theorem bits_or_u64 {a b : Int} (ha : 0 ≤ a) (ha2 : a < 18446744073709551616) (hb : 0 ≤ b) (hb2 : b < 18446744073709551616) : bits .or .u64 a b = ((a.toNat ||| b.toNat : Nat) : Int) := by
 have e : bits .or .u64 a b = IntKind.u64.wrap ((((a % 18446744073709551616).toNat ||| (b % 18446744073709551616).toNat) : Nat) : Int) := by
  show IntKind.u64.wrap ((BitVec.ofInt 64 a ||| BitVec.ofInt 64 b).toNat : Int) = _
  rw [BitVec.toNat_or, BitVec.toNat_ofInt, BitVec.toNat_ofInt]
  rfl
 rw [e, Int.emod_eq_of_lt ha ha2, Int.emod_eq_of_lt hb hb2]
 have h : a.toNat ||| b.toNat < 2 ^ 64 := Nat.or_lt_two_pow (by omega) (by omega)
 exact IntWalk.u64_in _ (by omega)
theorem or_nat {h l s : Nat} (hl : l < 2 ^ s) : h * 2 ^ s ||| l = h * 2 ^ s + l := by
 rw [Nat.mul_comm, ← Nat.two_pow_add_eq_or_of_lt hl]
/-- a high and a low word -/
theorem hi_lo {h l : Int} (h0 : 0 ≤ h) (h1 : h < 4294967296) (l0 : 0 ≤ l) (l1 : l < 4294967296) : bits .or .u64 (h * 4294967296) l = h * 4294967296 + l := by
 rw [bits_or_u64 (by omega) (by omega) (by omega) (by omega)]
 obtain ⟨a, rfl⟩ := Int.eq_ofNat_of_zero_le h0
 obtain ⟨b, rfl⟩ := Int.eq_ofNat_of_zero_le l0
 have e : ((a : Int) * 4294967296).toNat = a * 2 ^ 32 := by omega
 rw [e, Int.toNat_natCast, or_nat (by omega)]
 omega
/-- one place of a division by a word, from above -/
theorem small_step {B W left X : Int} {os : List Int} {f : Nat → Int} {i : Nat} (hi : i < os.length) (hz : os.getD i 0 = 0) (hv : V B os * W + left * B ^ (i + 1) = X - vf B f (i + 1)) :
  V B (os.set i ((left * B + f i) / W)) * W + (left * B + f i) % W * B ^ i = X - vf B f i := by
 rw [V_set hi, hz, Int.sub_zero, Int.add_mul]
 have e1 : vf B f (i + 1) = vf B f i + f i * B ^ i := rfl
 rw [e1] at hv
 have e2 : (left * B + f i) / W * B ^ i * W + (left * B + f i) % W * B ^ i = (left * B + f i) * B ^ i := by
  rw [Int.mul_assoc, Int.mul_comm (B ^ i) W, ← Int.mul_assoc, ← Int.add_mul]
  congr 1
  rw [Int.mul_comm]
  exact Int.mul_ediv_add_emod _ _
 have e3 : (left * B + f i) * B ^ i = left * B ^ (i + 1) + f i * B ^ i := by rw [Int.add_mul, Int.pow_succ, Int.mul_comm (B ^ i), Int.mul_assoc]
 omega
theorem small_word {left x W : Int} (h0 : 0 ≤ left) (h1 : left < W) (x0 : 0 ≤ x) (x1 : x < 4294967296) : 0 ≤ (left * 4294967296 + x) / W ∧ (left * 4294967296 + x) / W < 4294967296 ∧ 0 ≤ (left * 4294967296 + x) % W ∧ (left * 4294967296 + x) % W < W :=
 ⟨Int.ediv_nonneg (by omega) (by omega), Int.ediv_lt_of_lt_mul (by omega) (by omega), Int.emod_nonneg _ (by omega), Int.emod_lt_of_pos _ (by omega)⟩
theorem small_end {Q W left X : Int} (h0 : 0 ≤ left) (h1 : left < W) (hv : Q * W + left = X) : Q = X / W ∧ left = X % W := by
 have h := (Int.ediv_emod_unique (a := X) (r := left) (q := Q) (b := W) (by omega)).2 ⟨by rw [Int.mul_comm]; omega, h0, h1⟩
 exact ⟨h.1.symm, h.2.symm⟩

/-- a call's answer: the trim list of z, and a word r -/
def RetNatW (w : World) (z r : Int) (e : Ending) (w' : World) : Prop := ∃ a n c, e = .returned (.tuple #[.slice a n c, .int .u32 r]) ∧ NatC w' a n c z ∧ Below w.heap.size w w' ∧ Fresh w.heap.size a
theorem RetNat.word {w w' : World} {z : Int} {a : Option Addr} {n c : Nat} (h : RetNat w z (.returned (.slice a n c)) w') (r : Int) : RetNatW w z r (.returned (.tuple #[.slice a n c, .int .u32 r])) w' := by
 obtain ⟨_, _, _, he, h1⟩ := h
 cases he
 exact ⟨_, _, _, rfl, h1⟩

set_option maxHeartbeats 1000000 in
theorem small_any (a : Option Addr) (n0 c : Nat) (W : Int) (xs : List Int) (w : World) (ha : RowK .u32 w a n0 c xs) (hx : Dig 4294967296 xs) (hn0 : n0 ≤ 100000) (hW0 : 0 < W) (hW1 : W < 4294967296) :
  Calls Tryd.prog 58 #[.slice a n0 c, .int .u32 W] w (RetNatW w (V 4294967296 xs / W) (V 4294967296 xs % W)) := by
 have HA := Lib.hid ha
 have HX := Lib.hid hx
 have SA := Lib.hid (size_any a n0 c xs w ha)
 have hn : tl xs ≤ n0 := by have := tl_le xs; rw [ha.1] at this; exact this
 have FX := Lib.hid (vf_tl (B := 4294967296) xs)
 clear ha hx
 generalize tl xs = n at *
 generalize V 4294967296 xs = X at *
 have hWq : (W == 0) = false := by simp; omega
 go_enter Tryd.func58, Tryd.ntmps58
 go_wp2_with fail
 refine SA.out.mono ?_; rintro e w1 ⟨rfl, rfl⟩
 go_wp2_with (at_make; refine make_arr .u32 24 27 4 info_u32 (by decide) Tryd.underlying24 rfl _ _ rfl .i64 .i64 _ _ n _ rfl rfl (by omega) (by omega) (by omega) ?_)
 intro w0 harr hb0 hs0
 have HB0 := Lib.hid hb0
 have HARR0 := Lib.hid harr
 clear hb0 harr
 go_wp2_with fail
 go_loopg [8, 7] n (fun k u lu wr => ∃ (left : Int) (os : List Int), u = .int .i64 ((k : Int) - 1) ∧ lu = .int .u64 left ∧ k ≤ n ∧ 0 ≤ left ∧ left < W ∧ Arr .u32 27 wr w.heap.size os ∧ os.length = n ∧ Dig 4294967296 os ∧
  V 4294967296 os * W + left * 4294967296 ^ k = X - vf 4294967296 (fun j => xs.getD j 0) k ∧ (∀ j, j < k → os.getD j 0 = 0) ∧ Below w.heap.size w wr)
 case atStart => exact ⟨0, _, rfl, rfl, Nat.le_refl _, by omega, by omega, HARR0.out, by simp, Dig.replicate (by decide) _, by rw [V_replicate, FX.out]; omega, fun j _ => getD_replicate _ _, HB0.out⟩
 case round =>
  obtain ⟨left, os, rfl, rfl, hk, hl0, hl1, harr, hlo, hdo, hv, hzr, hbl⟩ := hrel
  have HARR := Lib.hid harr
  have HLO := Lib.hid hlo
  have HDO := Lib.hid hdo
  have HV := Lib.hid hv
  have HZR := Lib.hid hzr
  have HBL := Lib.hid hbl
  clear harr hlo hdo hv hzr
  by_cases h0 : gk = 0
  ·subst h0
   have hl2 := HLO.out
   obtain ⟨hq, hr⟩ := small_end (Q := V 4294967296 os) (X := X) hl0 hl1 (by have h := HV.out; rw [Int.pow_zero, Int.mul_one] at h; rw [h]; exact Int.sub_zero X)
   have hret := RetNat.cut HARR.out HDO.out (by rw [hl2]; omega) hq HBL.out (Nat.le_refl _)
   have HR := Lib.hid hr
   have hfull := HARR.out.full (by rw [hl2]; omega)
   rw [hl2] at hret hfull
   have HS := Lib.hid (size_any _ _ _ _ _ hfull)
   have htl := tl_le os
   rw [hl2] at htl
   clear hfull hl2 hbl hq hr
   generalize tl os = t at *
   have HRET : Hid (RetNatW w (X / W) (X % W) (.returned (.tuple #[.slice (some ⟨w.heap.size, 0, none⟩) t n, .int .u32 left])) wr) := Lib.hid (HR.out ▸ hret.word left)
   clear hret
   go_wp2_with fail
   refine HS.out.mono ?_; rintro e w1 ⟨rfl, rfl⟩
   go_wp2_with fail
   go_ret2
   exact HRET.out
  ·obtain ⟨j, hj⟩ : ∃ j, gk = j + 1 := ⟨gk - 1, by omega⟩
   subst hj
   rw [show ((j + 1 : Nat) : Int) - 1 = (j : Int) from by omega]
   obtain ⟨-, -, -, h4⟩ := HA.out.below hbl (Nat.le_refl _)
   rcases h4 with hcap0 | ⟨ba, oa, rfl, -, hc⟩
   ·have := HA.out.2.1; omega
   have hc1 := hc j (by omega)
   have hxr := HX.out.at (by decide) j
   obtain ⟨x, hxx⟩ : ∃ d, xs.getD j 0 = d := ⟨_, rfl⟩
   rw [hxx] at hc1 hxr
   have HXX := Lib.hid hxx
   have hco := HARR.out.cell (i := j) (by rw [HLO.out]; omega)
   have hfo := HARR.out.frozen j
   obtain ⟨q0, q1, r0, r1⟩ := small_word hl0 hl1 hxr.1 hxr.2
   have g0 : (0 : Int) ≤ (j : Int) := by omega
   have g1 : (j : Int) < (n0 : Int) := by omega
   have g2 : (j : Int) < (n : Int) := by omega
   have e1 : IntKind.u64.wrap (left * 4294967296) = left * 4294967296 := IntWalk.u64_in _ (by omega)
   have e2 := hi_lo hl0 (by omega) hxr.1 hxr.2
   clear hc hxx h0 hbl
   go_wp2_with fail
   go_roundg j
   case measure => omega
   case rel => exact ⟨_, os.set j ((left * 4294967296 + x) / W), rfl, rfl, by omega, r0, r1, HARR.out.set _ _, by rw [List.length_set]; exact HLO.out, HDO.out.set _ q0 q1,
    (by have h := small_step (B := 4294967296) (f := fun j => xs.getD j 0) (by rw [HLO.out]; omega) (HZR.out j (by omega)) HV.out; rw [← HXX.out]; exact h), fun i hi => by rw [getD_set_ne (by omega)]; exact HZR.out i (by omega), HBL.out.setCell (Nat.le_refl _) _⟩
end Go.Proofs.YtkojcamlllenkaaDoor
