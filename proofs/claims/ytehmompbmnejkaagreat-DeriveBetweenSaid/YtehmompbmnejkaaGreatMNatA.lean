/- Contracts of package nat's size, Trim, Cmp. Condition: the words of the lists are below 2^32. -/
import Derived.Test.YtehmompbmnejkaaGreatMNum
import Derived.Test.YtehmompbmnejkaaGreatMDiv
namespace Go.Proofs.YtehmompbmnejkaaGreat
open Go.RowKit

/-- how many of the first n places are left without noughts at their end -/
def tlF (xs : List Int) : Nat → Nat
 | 0 => 0
 | n + 1 => if xs.getD n 0 = 0 then tlF xs n else n + 1
def tl (xs : List Int) : Nat := tlF xs xs.length
theorem tlF_le (xs : List Int) : ∀ n, tlF xs n ≤ n
 | 0 => Nat.le_refl _
 | n + 1 => by
  unfold tlF
  split
  ·have := tlF_le xs n; omega
  ·omega
theorem tl_le (xs : List Int) : tl xs ≤ xs.length := tlF_le xs _
theorem tlF_zero (xs : List Int) : ∀ n i, tlF xs n ≤ i → i < n → xs.getD i 0 = 0
 | 0, i, _, h => by omega
 | n + 1, i, h1, h2 => by
  unfold tlF at h1
  split at h1
  ·rename_i h0
   by_cases e : i = n
   ·rw [e]; exact h0
   ·exact tlF_zero xs n i h1 (by omega)
  ·omega
theorem tl_zero {xs : List Int} {i : Nat} (h : tl xs ≤ i) : xs.getD i 0 = 0 := by
 by_cases hi : i < xs.length
 ·exact tlF_zero xs _ i h hi
 ·exact getD_ge (by omega)
theorem tlF_top (xs : List Int) : ∀ n, tlF xs n = 0 ∨ xs.getD (tlF xs n - 1) 0 ≠ 0
 | 0 => .inl rfl
 | n + 1 => by
  unfold tlF
  split
  ·exact tlF_top xs n
  ·rename_i h; exact .inr h
theorem tl_top (xs : List Int) : tl xs = 0 ∨ xs.getD (tl xs - 1) 0 ≠ 0 := tlF_top xs _
theorem tl_V {B : Int} (xs : List Int) : V B (xs.take (tl xs)) = V B xs := V_take (tl_le xs) fun _ h _ => tl_zero h
theorem tl_trim (xs : List Int) : Trimmed (xs.take (tl xs)) := trimmed_take (tl_le xs) (tl_top xs)
theorem tl_len (xs : List Int) : (xs.take (tl xs)).length = tl xs := by rw [List.length_take]; have := tl_le xs; omega
theorem tl_of_trim {xs : List Int} (h : Trimmed xs) : tl xs = xs.length := by
 unfold tl
 rcases h with rfl | h
 ·rfl
 ·cases e : xs.length with
  | zero => rfl
  | succ n =>
   rw [e] at h
   unfold tlF
   rw [if_neg (by simpa using h)]
/-- a number's size tells how great it is -/
theorem tl_bd {B : Int} (hB : 0 < B) {xs : List Int} (h : Dig B xs) : V B xs < B ^ tl xs := by
 rw [← tl_V, ← congrArg (B ^ ·) (tl_len xs)]
 exact (V_bd hB (h.take _)).2
theorem tl_ge {B : Int} (hB : 0 < B) {xs : List Int} (h : Dig B xs) (h0 : 0 < tl xs) : B ^ (tl xs - 1) ≤ V B xs := by
 have h1 := V_ge hB (h.take (tl xs)) (tl_trim xs) (fun e => by have := congrArg List.length e; rw [tl_len] at this; simp at this; omega)
 rwa [tl_len, tl_V] at h1
theorem tl_lt {B : Int} (hB : 0 < B) {xs ys : List Int} (hx : Dig B xs) (hy : Dig B ys) (h : tl xs < tl ys) : V B xs < V B ys := by
 have h1 := tl_bd hB hx
 have h2 := tl_ge hB hy (by omega)
 have h3 : B ^ tl xs ≤ B ^ (tl ys - 1) := ipow_le hB (by omega)
 omega
theorem tl_pos {B : Int} (hB : 0 < B) {xs : List Int} (h : Dig B xs) : V B xs = 0 ↔ tl xs = 0 := by
 constructor
 ·intro h0
  rcases Nat.eq_zero_or_pos (tl xs) with e | e
  ·exact e
  ·have h1 := tl_ge hB h e
   have h2 : 0 < B ^ (tl xs - 1) := Int.pow_pos hB
   omega
 ·intro h0
  rw [← tl_V, h0]; rfl

theorem size_any (a : Option Addr) (n cap : Nat) (xs : List Int) (w : World) (h : RowK .u32 w a n cap xs) :
  Calls Tryz.prog 77 #[.slice a n cap] w fun e w' => e = .returned (.int .i64 (tl xs)) ∧ w = w' := by
 have H := Lib.hid h
 have hn : n ≤ 9223372036854775807 := by have := h.2.1; have := h.2.2.1; unfold maxLen at this; omega
 have HL := Lib.hid h.1
 obtain ⟨t, ht⟩ : ∃ t, tl xs = t := ⟨_, rfl⟩
 have HT : Hid (tlF xs n = t) := Lib.hid (by rw [← h.1]; exact ht)
 clear h
 rw [ht]
 clear ht
 go_enter Tryz.func77, Tryz.ntmps77
 go_wp2_with fail
 go_loopg [3] n (fun k u wr => w = wr ∧ u = .int .i64 k ∧ k ≤ n ∧ tlF xs k = t)
 case atStart => exact ⟨rfl, rfl, Nat.le_refl _, HT.out⟩
 case round =>
  obtain ⟨rfl, rfl, hk, htl⟩ := hrel
  have HTL := Lib.hid htl
  clear htl
  by_cases h0 : gk = 0
  ·subst h0
   have HZ : Hid (t = 0) := Lib.hid HTL.out.symm
   go_wp2_with fail
   go_ret
   exact ⟨ret_int (by rw [HZ.out]; try rfl), rfl⟩
  ·obtain ⟨j, hj⟩ : ∃ j, gk = j + 1 := ⟨gk - 1, by omega⟩
   subst hj
   obtain ⟨-, -, -, h4⟩ := H.out
   rcases h4 with hcap0 | ⟨b, off, rfl, hb, hc⟩
   ·have := H.out.2.1; omega
   have hc1 := hc j (by omega)
   obtain ⟨d, hd⟩ : ∃ d, xs.getD j 0 = d := ⟨_, rfl⟩
   rw [hd] at hc1
   have HD := Lib.hid hd
   clear hc hd hb h0
   by_cases hd0 : d = 0
   ·subst hd0
    have HT2 : Hid (tlF xs j = t) := by
     have h := HTL.out
     rw [tlF, if_pos HD.out] at h
     exact Lib.hid h
    go_wp2_with fail
    go_roundg j
    case measure => omega
    case rel => exact ⟨rfl, congrArg (Value.int .i64) (by omega), by omega, HT2.out⟩
   ·have hq : (d == 0) = false := by simpa using hd0
    have HZ : Hid (t = j + 1) := by
     have h := HTL.out
     rw [tlF, if_neg (by rw [HD.out]; exact hd0)] at h
     exact Lib.hid h.symm
    clear hd0
    go_wp2_with fail
    go_ret
    exact ⟨ret_int (by rw [HZ.out]), rfl⟩

/-- a trim number z -/
def NatC (w : World) (a : Option Addr) (n c : Nat) (z : Int) : Prop := ∃ xs, RowK .u32 w a n c xs ∧ Dig 4294967296 xs ∧ Trimmed xs ∧ V 4294967296 xs = z
theorem NatC.below {w w' : World} {a : Option Addr} {n c : Nat} {z : Int} {B : Nat} (h : NatC w a n c z) (hb : Below B w w') (hB : w.heap.size ≤ B) : NatC w' a n c z := by
 obtain ⟨xs, h1, h2⟩ := h
 exact ⟨xs, h1.below hb hB, h2⟩
/-- a call's answer: the trim list of z, in memory of its own; nothing that was there has changed -/
def RetNat (w : World) (z : Int) (e : Ending) (w' : World) : Prop := ∃ a n c, e = .returned (.slice a n c) ∧ NatC w' a n c z ∧ Below w.heap.size w w' ∧ Fresh w.heap.size a
theorem info_u32 : (Tryz.prog.info? 34).map (fun i => (i.zero, i.size, i.bytes)) = some (some (.int .u32 0), 1, 4) := by kernel_rfl

theorem trim_any (a : Option Addr) (n cap : Nat) (xs : List Int) (w : World) (h : RowK .u32 w a n cap xs) (hd : Dig 4294967296 xs) (hn : n ≤ 1000000) :
  Calls Tryz.prog 76 #[.slice a n cap] w (RetNat w (V 4294967296 xs)) := by
 have HS := Lib.hid (size_any a n cap xs w h)
 have hle := tl_le xs
 rw [h.1] at hle
 have hcap : n ≤ cap := h.2.1
 have hcm : cap ≤ 9223372036854775807 := by have := h.2.2.1; unfold maxLen at this; omega
 have HR := Lib.hid (h.take hle)
 have HD := Lib.hid (hd.take (tl xs))
 have HT := Lib.hid (tl_trim xs)
 have HV := Lib.hid (tl_V (B := 4294967296) xs)
 have HTL := Lib.hid (tl_len xs)
 generalize tl xs = t at *
 generalize V 4294967296 xs = z at *
 clear h hd
 go_enter Tryz.func76, Tryz.ntmps76
 go_wp2_with fail
 refine HS.out.mono ?_; rintro e w1 ⟨rfl, rfl⟩
 go_wp2_with (at_builtin; refine wpList_append_row .u32 24 34 4 info_u32 (by decide) Tryz.underlying24 rfl _ _ rfl w w.heap.size (.slice none 0 0) 0 [] a t cap (xs.take t) rfl rfl (OwnK.nil _ _ _ _) HR.out HR.out.none' (by omega) (Nat.le_refl _) ?_)
 intro v2 w2 hown hg hbl
 obtain ⟨p, c, hv⟩ := hown.form
 subst hv
 go_wp2_with fail
 go_ret
 have h := hown.row
 have hf := hown.fresh
 exact ⟨p, t, c, rfl, ⟨xs.take t, h, HD.out, HT.out, HV.out⟩, hbl w (Below.refl _ _), hf⟩
end Go.Proofs.YtehmompbmnejkaaGreat
/- Contract of package nat's Cmp. Condition: the words of the lists are below 2^32. -/
namespace Go.Proofs.YtehmompbmnejkaaGreat
open Go.RowKit

theorem below_dn {B : Nat} {a w : World} (h : Below B a w) (n : Nat) : Below B a (w.drewN n) := ⟨h.os, h.tape, h.output, h.size, h.block⟩

theorem ncmp_any (a b : Option Addr) (n cap m cb : Nat) (xs ys : List Int) (w : World) (ha : RowK .u32 w a n cap xs) (hb : RowK .u32 w b m cb ys) (hx : Dig 4294967296 xs) (hy : Dig 4294967296 ys) :
  Calls Tryz.prog 79 #[.slice a n cap, .slice b m cb] w fun e w' => e = .returned (.int .i64 (cmpZ (V 4294967296 xs) (V 4294967296 ys))) ∧ Below w.heap.size w w' := by
 have HA := Lib.hid ha
 have HB := Lib.hid hb
 have HX := Lib.hid hx
 have HY := Lib.hid hy
 have SA := Lib.hid (size_any a n cap xs w ha)
 have SB := Lib.hid (size_any b m cb ys w hb)
 have hp := tl_le xs
 rw [ha.1] at hp
 have hq := tl_le ys
 rw [hb.1] at hq
 have hn : n ≤ 9223372036854775807 := by have := ha.2.1; have := ha.2.2.1; unfold maxLen at this; omega
 have hm : m ≤ 9223372036854775807 := by have := hb.2.1; have := hb.2.2.1; unfold maxLen at this; omega
 have H1 := Lib.hid (fun h => tl_lt (B := 4294967296) (by decide) hx hy h)
 have H2 := Lib.hid (fun h => tl_lt (B := 4294967296) (by decide) hy hx h)
 have Z1 := Lib.hid (fun i (h : tl xs ≤ i) => tl_zero (xs := xs) h)
 have Z2 := Lib.hid (fun i (h : tl ys ≤ i) => tl_zero (xs := ys) h)
 clear ha hb hx hy
 generalize tl xs = p at *
 generalize tl ys = q at *
 by_cases hpq : p = q
 ·subst hpq
  have hne : ((p : Int) != (p : Int)) = false := by simp
  go_enter Tryz.func79, Tryz.ntmps79
  go_wp2_with fail
  refine SA.out.mono ?_; rintro e w1 ⟨rfl, rfl⟩
  go_wp2_with fail
  refine SB.out.mono ?_; rintro e w1 ⟨rfl, rfl⟩
  go_wp2_with fail
  go_loopg [7] p (fun k u wr => u = .int .i64 ((k : Int) - 1) ∧ k ≤ p ∧ (∀ i, k ≤ i → xs.getD i 0 = ys.getD i 0) ∧ Below w.heap.size w wr)
  case atStart => exact ⟨rfl, Nat.le_refl _, fun i hi => by rw [Z1.out i hi, Z2.out i hi], Below.refl _ _⟩
  case round =>
   obtain ⟨rfl, hk, hab, hbl⟩ := hrel
   have HAB := Lib.hid hab
   have HBL := Lib.hid hbl
   clear hab
   by_cases h0 : gk = 0
   ·subst h0
    have HZ := Lib.hid (less_same (B := 4294967296) (fun i => HAB.out i (Nat.zero_le i)))
    clear hbl
    go_wp2_with fail
    go_ret
    exact ⟨ret_int (cmpZ_eq HZ.out).symm, HBL.out⟩
   ·obtain ⟨j, hj⟩ : ∃ j, gk = j + 1 := ⟨gk - 1, by omega⟩
    subst hj
    rw [show ((j + 1 : Nat) : Int) - 1 = (j : Int) from by omega]
    obtain ⟨-, -, -, h4⟩ := HA.out.below hbl (Nat.le_refl _)
    obtain ⟨-, -, -, k4⟩ := HB.out.below hbl (Nat.le_refl _)
    rcases h4 with hcap0 | ⟨ba, oa, rfl, -, hc⟩
    ·have := HA.out.2.1; omega
    rcases k4 with hcap0 | ⟨bb, ob, rfl, -, hd⟩
    ·have := HB.out.2.1; omega
    have hc1 := hc j (by omega)
    have hd1 := hd j (by omega)
    obtain ⟨d, hdd⟩ : ∃ d, xs.getD j 0 = d := ⟨_, rfl⟩
    obtain ⟨e, hee⟩ : ∃ e, ys.getD j 0 = e := ⟨_, rfl⟩
    rw [hdd] at hc1
    rw [hee] at hd1
    have HD := Lib.hid hdd
    have HE := Lib.hid hee
    have g0 : (0 : Int) ≤ (j : Int) := by omega
    have g1 : (j : Int) < (n : Int) := by omega
    have g2 : (j : Int) < (m : Int) := by omega
    clear hc hd hdd hee h0 hbl
    rcases Int.lt_trichotomy d e with hlt | heq | hgt
    ·have HZ := Lib.hid (less_step (B := 4294967296) (by decide) HX.out HY.out (k := j) (fun i hi => HAB.out i hi) (by rw [HD.out, HE.out]; exact hlt))
     go_wp2_with fail
     go_quiet (fail)
     go_wp2_with fail
     go_ret
     exact ⟨ret_int (cmpZ_lt HZ.out).symm, below_dn HBL.out _⟩
    ·subst heq
     have hl1 : ¬ (d < d) := by omega
     go_wp2_with fail
     go_quiet (fail)
     go_wp2_with fail
     go_quiet (fail)
     go_wp2_with fail
     go_roundg j
     case measure => omega
     case rel => exact ⟨rfl, by omega, fun i hi => (by
      by_cases h : i = j
      ·rw [h, HD.out, HE.out]
      ·exact HAB.out i (by omega)), below_dn HBL.out _⟩
    ·have HZ := Lib.hid (less_step (B := 4294967296) (by decide) HY.out HX.out (k := j) (fun i hi => (HAB.out i hi).symm) (by rw [HD.out, HE.out]; exact hgt))
     have hl1 : ¬ (d < e) := by omega
     go_wp2_with fail
     go_quiet (fail)
     go_wp2_with fail
     go_quiet (fail)
     go_wp2_with fail
     go_ret
     exact ⟨ret_int (cmpZ_gt HZ.out).symm, below_dn (below_dn HBL.out _) _⟩
 ·have hne : ((p : Int) != (q : Int)) = true := by simp; omega
  by_cases hlt : p < q
  ·have HZ := Lib.hid (H1.out hlt)
   go_enter Tryz.func79, Tryz.ntmps79
   go_wp2_with fail
   refine SA.out.mono ?_; rintro e w1 ⟨rfl, rfl⟩
   go_wp2_with fail
   refine SB.out.mono ?_; rintro e w1 ⟨rfl, rfl⟩
   go_wp2_with fail
   go_ret
   exact ⟨ret_int (cmpZ_lt HZ.out).symm, Below.refl _ _⟩
  ·have HZ := Lib.hid (H2.out (by omega))
   go_enter Tryz.func79, Tryz.ntmps79
   go_wp2_with fail
   refine SA.out.mono ?_; rintro e w1 ⟨rfl, rfl⟩
   go_wp2_with fail
   refine SB.out.mono ?_; rintro e w1 ⟨rfl, rfl⟩
   go_wp2_with fail
   go_ret
   exact ⟨ret_int (cmpZ_gt HZ.out).symm, Below.refl _ _⟩
end Go.Proofs.YtehmompbmnejkaaGreat
/- Contract of package nat's Add. Conditions: the words are below 2^32; at most 100000 of them. -/
namespace Go.Proofs.YtehmompbmnejkaaGreat
open Go.RowKit

/-- one word is laid, the rest is carried -/
theorem set_step {B s : Int} {os : List Int} {i : Nat} (hi : i < os.length) : V B (os.set i (s % B)) + s / B * B ^ (i + 1) = V B os + (s - os.getD i 0) * B ^ i := by
 rw [V_set hi, Int.pow_succ, Int.mul_comm (B ^ i) B, ← Int.mul_assoc, Int.sub_mul, Int.sub_mul]
 have h : s * B ^ i = (s % B) * B ^ i + s / B * B * B ^ i := by
  rw [← Int.add_mul]
  congr 1
  have := Int.emod_add_mul_ediv s B
  rw [Int.mul_comm] at this
  omega
 omega
/-- one place of a sum -/
theorem add_step {B s cy : Int} {os : List Int} {f : Nat → Int} {i : Nat} (hi : i < os.length) (hz : os.getD i 0 = 0) (hv : V B os + cy * B ^ i = vf B f i) (hs : s = f i + cy) :
  V B (os.set i (s % B)) + s / B * B ^ (i + 1) = vf B f (i + 1) := by
 rw [set_step hi, hz]
 show _ = vf B f i + f i * B ^ i
 rw [hs, Int.sub_zero, Int.add_mul]; omega
theorem set_above {os : List Int} {i : Nat} {d : Int} (h : ∀ j, i ≤ j → os.getD j 0 = 0) : ∀ j, i + 1 ≤ j → (os.set i d).getD j 0 = 0 := fun j hj => by rw [getD_set_ne (by omega)]; exact h j (by omega)
/-- a call's answer is the trim part of a list of the call's own -/
theorem RetNat.cut {w w' : World} {g : Nat} {os : List Int} {z : Int} (h : Arr .u32 34 w' g os) (hd : Dig 4294967296 os) (hl : os.length ≤ 8796093022208) (hz : V 4294967296 os = z) (hb : Below w.heap.size w w') (hg : w.heap.size ≤ g) :
  RetNat w z (.returned (.slice (some ⟨g, 0, none⟩) (tl os) os.length)) w' :=
 ⟨_, _, _, rfl, ⟨os.take (tl os), h.row (tl_le os) (Nat.le_refl _) hl, hd.take _, tl_trim os, by rw [tl_V]; exact hz⟩, hb, Fresh.at hg⟩

set_option maxHeartbeats 1000000 in
theorem nadd_any (a b : Option Addr) (n c m d : Nat) (xs ys : List Int) (w : World) (ha : RowK .u32 w a n c xs) (hb : RowK .u32 w b m d ys) (hx : Dig 4294967296 xs) (hy : Dig 4294967296 ys) (hn : n ≤ 100000) (hm : m ≤ 100000) :
  Calls Tryz.prog 102 #[.slice a n c, .slice b m d] w (RetNat w (V 4294967296 xs + V 4294967296 ys)) := by
 obtain ⟨z, hz⟩ : ∃ z, V 4294967296 xs + V 4294967296 ys = z := ⟨_, rfl⟩
 have HZ := Lib.hid hz
 rw [hz]
 have HA := Lib.hid ha
 have HB := Lib.hid hb
 have HX := Lib.hid hx
 have HY := Lib.hid hy
 clear ha hb hx hy hz
 by_cases hlt : n < m
 ·have hcap : m ≤ 100001 := by omega
  have HV : Hid (vf 4294967296 (fun i => ys.getD i 0 + xs.getD i 0) m = z) := by
   have h : vf 4294967296 (fun i => ys.getD i 0 + xs.getD i 0) m = z := by
    rw [vf_add, vf_ext (by rw [HB.out.1]; exact Nat.le_refl _), vf_ext (by rw [HA.out.1]; omega)]
    have := HZ.out
    omega
   exact Lib.hid h
  go_enter Tryz.func102, Tryz.ntmps102
  go_wp2_with (at_make; refine make_arr .u32 24 34 4 info_u32 (by decide) Tryz.underlying24 rfl _ _ rfl .i64 .i64 _ _ (m + 1) _ rfl rfl (by omega) (by omega) (by omega) ?_)
  intro w0 harr hb0 hs0
  have HB0 := Lib.hid hb0
  have HARR0 := Lib.hid harr
  clear hb0 harr
  go_wp2_with fail
  go_loopg [6, 22] m (fun k cu u wr => ∃ (i : Nat) (cy : Int) (os : List Int), u = .int .i64 i ∧ cu = .int .u64 cy ∧ i + k = m ∧ 0 ≤ cy ∧ cy ≤ 1 ∧ Arr .u32 34 wr w.heap.size os ∧ os.length = m + 1 ∧ Dig 4294967296 os ∧
   V 4294967296 os + cy * 4294967296 ^ i = vf 4294967296 (fun i => ys.getD i 0 + xs.getD i 0) i ∧ (∀ j, i ≤ j → os.getD j 0 = 0) ∧ Below w.heap.size w wr)
  case atStart => exact ⟨0, 0, _, rfl, rfl, by omega, by omega, by omega, HARR0.out, by simp, Dig.replicate (by decide) _, by rw [V_replicate]; simp [vf], fun j _ => getD_replicate _ _, HB0.out⟩
  case round =>
   obtain ⟨i, cy, os, rfl, rfl, hk, hc0, hc1, harr, hlo, hdo, hv, hzr, hbl⟩ := hrel
   have HK := Lib.hid hk
   have HARR := Lib.hid harr
   have HLO := Lib.hid hlo
   have HDO := Lib.hid hdo
   have HVO := Lib.hid hv
   have HZR := Lib.hid hzr
   have HBL := Lib.hid hbl
   clear hk harr hlo hdo hv hzr
   by_cases hi : i < m
   ·obtain ⟨-, -, -, h4⟩ := HB.out.below hbl (Nat.le_refl _)
    rcases h4 with hcap0 | ⟨ba, oa, rfl, -, hca⟩
    ·have := HB.out.2.1; omega
    have hca1 := hca i hi
    have hxr := HY.out.at (by decide) i
    have hyr := HX.out.at (by decide) i
    obtain ⟨x, hxx⟩ : ∃ d, ys.getD i 0 = d := ⟨_, rfl⟩
    obtain ⟨y, hyy⟩ : ∃ d, xs.getD i 0 = d := ⟨_, rfl⟩
    rw [hxx] at hca1 hxr
    rw [hyy] at hyr
    have HXX := Lib.hid hxx
    have HYY := Lib.hid hyy
    have hco := HARR.out.cell (i := i) (by rw [HLO.out]; omega)
    have hfo := HARR.out.frozen i
    obtain ⟨hx0, hx1⟩ := hxr
    obtain ⟨hy0, hy1⟩ := hyr
    have hlo2 : i < m + 1 := by omega
    have g0 : (0 : Int) ≤ (i : Int) := by omega
    clear hca hxx
    by_cases him : i < n
    ·obtain ⟨-, -, -, k4⟩ := HA.out.below hbl (Nat.le_refl _)
     rcases k4 with hcap0 | ⟨bb, ob, rfl, -, hcb⟩
     ·have := HA.out.2.1; omega
     have hcb1 := hcb i him
     rw [hyy] at hcb1
     clear hcb hyy hbl
     go_wp2_with fail
     go_roundg (gk - 1)
     case measure => have := HK.out; omega
     case rel => exact ⟨i + 1, (x + cy + y) / 4294967296, os.set i ((x + cy + y) % 4294967296), by go_num, rfl, by have := HK.out; omega, by omega, by omega, HARR.out.set i _, by rw [List.length_set]; exact HLO.out, HDO.out.set i (by omega) (by omega), add_step (by rw [HLO.out]; omega) (HZR.out i (Nat.le_refl _)) HVO.out (by rw [HXX.out, HYY.out]; omega), set_above HZR.out, HBL.out.setCell (Nat.le_refl _) _⟩
    ·have hy00 : y = 0 := by rw [← hyy]; exact getD_ge (by rw [HA.out.1]; omega)
     have HY00 := Lib.hid hy00
     clear hyy hy00 hbl
     go_wp2_with fail
     go_roundg (gk - 1)
     case measure => have := HK.out; omega
     case rel => exact ⟨i + 1, (x + cy) / 4294967296, os.set i ((x + cy) % 4294967296), by go_num, rfl, by have := HK.out; omega, by omega, by omega, HARR.out.set i _, by rw [List.length_set]; exact HLO.out, HDO.out.set i (by omega) (by omega), add_step (by rw [HLO.out]; omega) (HZR.out i (Nat.le_refl _)) HVO.out (by rw [HXX.out, HYY.out, HY00.out]; omega), set_above HZR.out, HBL.out.setCell (Nat.le_refl _) _⟩
   ·have hin : i = m := by have := HK.out; omega
    have hco := HARR.out.cell (i := m) (by rw [HLO.out]; omega)
    have hfo := HARR.out.frozen m
    have hcw : cy % 4294967296 = cy := by omega
    have HIN := Lib.hid hin
    have HCW := Lib.hid hcw
    clear hin hcw hbl
    have hl2 : (os.set m cy).length = m + 1 := by rw [List.length_set]; exact HLO.out
    have harr2 := HARR.out.set m cy
    have hval : V 4294967296 (os.set m cy) = z := by
     rw [V_set (by rw [HLO.out]; omega), HZR.out m (by have := HIN.out; omega), Int.sub_zero, ← HV.out]
     have h := HVO.out
     rw [HIN.out] at h
     exact h
    have hret := RetNat.cut harr2 (HDO.out.set m hc0 (by omega)) (by rw [hl2]; omega) hval (HBL.out.setCell (Nat.le_refl _) _) (Nat.le_refl _)
    have hfull := harr2.full (by rw [hl2]; omega)
    rw [hl2] at hret hfull
    have HS := Lib.hid (size_any _ _ _ _ _ hfull)
    have htl := tl_le (os.set m cy)
    rw [hl2] at htl
    clear harr2 hval hfull hl2
    generalize tl (os.set m cy) = t at *
    have HRET := Lib.hid hret
    clear hret
    go_wp2_with fail
    refine HS.out.mono ?_; rintro e w1 ⟨rfl, rfl⟩
    go_wp2_with fail
    go_ret
    exact HRET.out
 ·have hcap : n ≤ 100001 := by omega
  have HV : Hid (vf 4294967296 (fun i => xs.getD i 0 + ys.getD i 0) n = z) := by
   have h : vf 4294967296 (fun i => xs.getD i 0 + ys.getD i 0) n = z := by
    rw [vf_add, vf_ext (by rw [HA.out.1]; exact Nat.le_refl _), vf_ext (by rw [HB.out.1]; omega)]
    have := HZ.out
    omega
   exact Lib.hid h
  go_enter Tryz.func102, Tryz.ntmps102
  go_wp2_with (at_make; refine make_arr .u32 24 34 4 info_u32 (by decide) Tryz.underlying24 rfl _ _ rfl .i64 .i64 _ _ (n + 1) _ rfl rfl (by omega) (by omega) (by omega) ?_)
  intro w0 harr hb0 hs0
  have HB0 := Lib.hid hb0
  have HARR0 := Lib.hid harr
  clear hb0 harr
  go_wp2_with fail
  go_loopg [6, 22] n (fun k cu u wr => ∃ (i : Nat) (cy : Int) (os : List Int), u = .int .i64 i ∧ cu = .int .u64 cy ∧ i + k = n ∧ 0 ≤ cy ∧ cy ≤ 1 ∧ Arr .u32 34 wr w.heap.size os ∧ os.length = n + 1 ∧ Dig 4294967296 os ∧
   V 4294967296 os + cy * 4294967296 ^ i = vf 4294967296 (fun i => xs.getD i 0 + ys.getD i 0) i ∧ (∀ j, i ≤ j → os.getD j 0 = 0) ∧ Below w.heap.size w wr)
  case atStart => exact ⟨0, 0, _, rfl, rfl, by omega, by omega, by omega, HARR0.out, by simp, Dig.replicate (by decide) _, by rw [V_replicate]; simp [vf], fun j _ => getD_replicate _ _, HB0.out⟩
  case round =>
   obtain ⟨i, cy, os, rfl, rfl, hk, hc0, hc1, harr, hlo, hdo, hv, hzr, hbl⟩ := hrel
   have HK := Lib.hid hk
   have HARR := Lib.hid harr
   have HLO := Lib.hid hlo
   have HDO := Lib.hid hdo
   have HVO := Lib.hid hv
   have HZR := Lib.hid hzr
   have HBL := Lib.hid hbl
   clear hk harr hlo hdo hv hzr
   by_cases hi : i < n
   ·obtain ⟨-, -, -, h4⟩ := HA.out.below hbl (Nat.le_refl _)
    rcases h4 with hcap0 | ⟨ba, oa, rfl, -, hca⟩
    ·have := HA.out.2.1; omega
    have hca1 := hca i hi
    have hxr := HX.out.at (by decide) i
    have hyr := HY.out.at (by decide) i
    obtain ⟨x, hxx⟩ : ∃ d, xs.getD i 0 = d := ⟨_, rfl⟩
    obtain ⟨y, hyy⟩ : ∃ d, ys.getD i 0 = d := ⟨_, rfl⟩
    rw [hxx] at hca1 hxr
    rw [hyy] at hyr
    have HXX := Lib.hid hxx
    have HYY := Lib.hid hyy
    have hco := HARR.out.cell (i := i) (by rw [HLO.out]; omega)
    have hfo := HARR.out.frozen i
    obtain ⟨hx0, hx1⟩ := hxr
    obtain ⟨hy0, hy1⟩ := hyr
    have hlo2 : i < n + 1 := by omega
    have g0 : (0 : Int) ≤ (i : Int) := by omega
    clear hca hxx
    by_cases him : i < m
    ·obtain ⟨-, -, -, k4⟩ := HB.out.below hbl (Nat.le_refl _)
     rcases k4 with hcap0 | ⟨bb, ob, rfl, -, hcb⟩
     ·have := HB.out.2.1; omega
     have hcb1 := hcb i him
     rw [hyy] at hcb1
     clear hcb hyy hbl
     go_wp2_with fail
     go_roundg (gk - 1)
     case measure => have := HK.out; omega
     case rel => exact ⟨i + 1, (x + cy + y) / 4294967296, os.set i ((x + cy + y) % 4294967296), by go_num, rfl, by have := HK.out; omega, by omega, by omega, HARR.out.set i _, by rw [List.length_set]; exact HLO.out, HDO.out.set i (by omega) (by omega), add_step (by rw [HLO.out]; omega) (HZR.out i (Nat.le_refl _)) HVO.out (by rw [HXX.out, HYY.out]; omega), set_above HZR.out, HBL.out.setCell (Nat.le_refl _) _⟩
    ·have hy00 : y = 0 := by rw [← hyy]; exact getD_ge (by rw [HB.out.1]; omega)
     have HY00 := Lib.hid hy00
     clear hyy hy00 hbl
     go_wp2_with fail
     go_roundg (gk - 1)
     case measure => have := HK.out; omega
     case rel => exact ⟨i + 1, (x + cy) / 4294967296, os.set i ((x + cy) % 4294967296), by go_num, rfl, by have := HK.out; omega, by omega, by omega, HARR.out.set i _, by rw [List.length_set]; exact HLO.out, HDO.out.set i (by omega) (by omega), add_step (by rw [HLO.out]; omega) (HZR.out i (Nat.le_refl _)) HVO.out (by rw [HXX.out, HYY.out, HY00.out]; omega), set_above HZR.out, HBL.out.setCell (Nat.le_refl _) _⟩
   ·have hin : i = n := by have := HK.out; omega
    have hco := HARR.out.cell (i := n) (by rw [HLO.out]; omega)
    have hfo := HARR.out.frozen n
    have hcw : cy % 4294967296 = cy := by omega
    have HIN := Lib.hid hin
    have HCW := Lib.hid hcw
    clear hin hcw hbl
    have hl2 : (os.set n cy).length = n + 1 := by rw [List.length_set]; exact HLO.out
    have harr2 := HARR.out.set n cy
    have hval : V 4294967296 (os.set n cy) = z := by
     rw [V_set (by rw [HLO.out]; omega), HZR.out n (by have := HIN.out; omega), Int.sub_zero, ← HV.out]
     have h := HVO.out
     rw [HIN.out] at h
     exact h
    have hret := RetNat.cut harr2 (HDO.out.set n hc0 (by omega)) (by rw [hl2]; omega) hval (HBL.out.setCell (Nat.le_refl _) _) (Nat.le_refl _)
    have hfull := harr2.full (by rw [hl2]; omega)
    rw [hl2] at hret hfull
    have HS := Lib.hid (size_any _ _ _ _ _ hfull)
    have htl := tl_le (os.set n cy)
    rw [hl2] at htl
    clear harr2 hval hfull hl2
    generalize tl (os.set n cy) = t at *
    have HRET := Lib.hid hret
    clear hret
    go_wp2_with fail
    refine HS.out.mono ?_; rintro e w1 ⟨rfl, rfl⟩
    go_wp2_with fail
    go_ret
    exact HRET.out
end Go.Proofs.YtehmompbmnejkaaGreat
/- Contract of package nat's Sub. Conditions: the words are below 2^32; at most 100000 of them. -/
namespace Go.Proofs.YtehmompbmnejkaaGreat
open Go.RowKit

theorem tl_vf {B : Int} (xs : List Int) : vf B (fun i => xs.getD i 0) (tl xs) = V B xs := by
 obtain ⟨m, hm⟩ : ∃ m, xs.length = tl xs + m := ⟨xs.length - tl xs, by have := tl_le xs; omega⟩
 show _ = vf B _ xs.length
 rw [hm]
 exact (vf_zero (tl xs) m fun i h _ => tl_zero h).symm
/-- a difference of words as the code reckons it -/
theorem sub_word {x y bo : Int} (hx0 : 0 ≤ x) (hx1 : x < 4294967296) (hy0 : 0 ≤ y) (hy1 : y < 4294967296) (hb0 : 0 ≤ bo) (hb1 : bo ≤ 1) :
  IntKind.u64.wrap (IntKind.u64.wrap (x - bo) - y) % 4294967296 = (x - bo - y) % 4294967296 ∧ IntKind.u64.wrap (IntKind.u64.wrap (x - bo) - y) / 9223372036854775808 = -((x - bo - y) / 4294967296) := by
 simp only [IntKind.wrap, IntKind.bits, IntKind.signed]
 simp
 omega
theorem sub_word0 {x bo : Int} (hx0 : 0 ≤ x) (hx1 : x < 4294967296) (hb0 : 0 ≤ bo) (hb1 : bo ≤ 1) :
  IntKind.u64.wrap (x - bo) % 4294967296 = (x - bo) % 4294967296 ∧ IntKind.u64.wrap (x - bo) / 9223372036854775808 = -((x - bo) / 4294967296) := by
 simp only [IntKind.wrap, IntKind.bits, IntKind.signed]
 simp
 omega
theorem sub_bo {s : Int} (h1 : -4294967296 ≤ s) (h2 : s < 4294967296) : 0 ≤ -(s / 4294967296) ∧ -(s / 4294967296) ≤ 1 := by omega
theorem sub_step {B s bo : Int} {os : List Int} {f g : Nat → Int} {i : Nat} (hi : i < os.length) (hz : os.getD i 0 = 0) (hv : V B os - bo * B ^ i = vf B f i - vf B g i) (hs : s = f i - bo - g i) :
  V B (os.set i (s % B)) - -(s / B) * B ^ (i + 1) = vf B f (i + 1) - vf B g (i + 1) := by
 have h := set_step (B := B) (s := s) hi
 rw [hz, Int.sub_zero] at h
 have e1 : vf B f (i + 1) = vf B f i + f i * B ^ i := rfl
 have e2 : vf B g (i + 1) = vf B g i + g i * B ^ i := rfl
 rw [e1, e2, Int.neg_mul]
 have e3 : s * B ^ i = f i * B ^ i - bo * B ^ i - g i * B ^ i := by rw [hs, Int.sub_mul, Int.sub_mul]
 omega
theorem sub_end {xs ys os : List Int} {bo z : Int} {t : Nat} (hy : Dig 4294967296 ys) (ho : Dig 4294967296 os) (hl : os.length = t) (hbx : V 4294967296 xs < 4294967296 ^ t) (hvx : vf 4294967296 (fun i => xs.getD i 0) t = V 4294967296 xs) (hb0 : 0 ≤ bo) (hb1 : bo ≤ 1)
  (hz : V 4294967296 xs - V 4294967296 ys = z) (hge : V 4294967296 ys ≤ V 4294967296 xs) (hv : V 4294967296 os - bo * 4294967296 ^ t = vf 4294967296 (fun i => xs.getD i 0) t - vf 4294967296 (fun i => ys.getD i 0) t) : V 4294967296 os = z := by
 rw [hvx, V_above (B := 4294967296) (by decide) hy t (by omega)] at hv
 obtain ⟨h1, h2⟩ := V_bd (B := 4294967296) (by decide) ho
 rw [hl] at h2
 rcases (by omega : bo = 0 ∨ bo = 1) with rfl | rfl
 ·rw [Int.zero_mul] at hv; omega
 ·rw [Int.one_mul] at hv; omega

/-- a call's answer: the trim list of z, and true -/
def RetNatB (w : World) (z : Int) (e : Ending) (w' : World) : Prop := ∃ a n c, e = .returned (.tuple #[.slice a n c, .bool true]) ∧ NatC w' a n c z ∧ Below w.heap.size w w' ∧ Fresh w.heap.size a

theorem nsub_no (a b : Option Addr) (n c m d : Nat) (xs ys : List Int) (w : World) (ha : RowK .u32 w a n c xs) (hb : RowK .u32 w b m d ys) (hx : Dig 4294967296 xs) (hy : Dig 4294967296 ys) (hlt : V 4294967296 xs < V 4294967296 ys) :
  Calls Tryz.prog 47 #[.slice a n c, .slice b m d] w fun e w' => e = .returned (.tuple #[.slice none 0 0, .bool false]) ∧ Below w.heap.size w w' := by
 have HC := Lib.hid (ncmp_any a b n c m d xs ys w ha hb hx hy)
 rw [cmpZ_lt hlt] at HC
 clear ha hb hx hy hlt
 go_enter Tryz.func47, Tryz.ntmps47
 go_wp2_with fail
 refine HC.out.mono ?_; rintro e w1 ⟨rfl, hb1⟩
 go_wp2_with fail
 go_ret2
 exact ⟨rfl, hb1⟩

set_option maxHeartbeats 1000000 in
theorem nsub_any (a b : Option Addr) (n c m d : Nat) (xs ys : List Int) (w : World) (ha : RowK .u32 w a n c xs) (hb : RowK .u32 w b m d ys) (hx : Dig 4294967296 xs) (hy : Dig 4294967296 ys) (hn : n ≤ 100000) (hm : m ≤ 100000) (hge : V 4294967296 ys ≤ V 4294967296 xs) :
  Calls Tryz.prog 47 #[.slice a n c, .slice b m d] w (RetNatB w (V 4294967296 xs - V 4294967296 ys)) := by
 have HC := Lib.hid (ncmp_any a b n c m d xs ys w ha hb hx hy)
 have hcz := cmpZ_ge hge
 generalize cmpZ (V 4294967296 xs) (V 4294967296 ys) = cz at *
 obtain ⟨z, hz⟩ : ∃ z, V 4294967296 xs - V 4294967296 ys = z := ⟨_, rfl⟩
 have HZ := Lib.hid hz
 rw [hz]
 have HA := Lib.hid ha
 have HB := Lib.hid hb
 have HX := Lib.hid hx
 have HY := Lib.hid hy
 have ht := tl_le xs
 rw [ha.1] at ht
 have HVX := Lib.hid (tl_V (B := 4294967296) xs)
 have HGE := Lib.hid hge
 clear ha hb hx hy hz hge
 have hcz' : ¬ (cz < 0) := by omega
 have HBX := HB
 go_enter Tryz.func47, Tryz.ntmps47
 go_wp2_with fail
 refine HC.out.mono ?_; rintro e w1 ⟨rfl, hb1⟩
 have HA1 := Lib.hid (HA.out.below hb1 (Nat.le_refl _))
 have HB1 := Lib.hid (HB.out.below hb1 (Nat.le_refl _))
 have HS := Lib.hid (size_any a n c xs w1 HA1.out)
 have hw1 : w.heap.size ≤ w1.heap.size := hb1.size
 have HBL1 := Lib.hid hb1
 have HVF := Lib.hid (tl_vf (B := 4294967296) xs)
 have HBD := Lib.hid (tl_bd (B := 4294967296) (by decide) HX.out)
 clear hb1 hcz
 generalize tl xs = t at *
 go_wp2_with fail
 refine HS.out.mono ?_; rintro e w2 ⟨rfl, rfl⟩
 go_wp2_with (at_make; refine make_arr .u32 24 34 4 info_u32 (by decide) Tryz.underlying24 rfl _ _ rfl .i64 .i64 _ _ t _ rfl rfl rfl rfl (by omega) ?_)
 intro w0 harr hb0 hs0
 have HB0 := Lib.hid (HBL1.out.trans (hb0.mono hw1))
 have HBW := Lib.hid hb0
 have HARR0 := Lib.hid harr
 clear hb0 harr
 go_wp2_with fail
 go_loopg [7, 19] t (fun k cu u wr => ∃ (i : Nat) (bo : Int) (os : List Int), u = .int .i64 i ∧ cu = .int .u64 bo ∧ i + k = t ∧ 0 ≤ bo ∧ bo ≤ 1 ∧ Arr .u32 34 wr w1.heap.size os ∧ os.length = t ∧ Dig 4294967296 os ∧
  V 4294967296 os - bo * 4294967296 ^ i = vf 4294967296 (fun i => xs.getD i 0) i - vf 4294967296 (fun i => ys.getD i 0) i ∧ (∀ j, i ≤ j → os.getD j 0 = 0) ∧ Below w1.heap.size w1 wr)
 case atStart => exact ⟨0, 0, _, rfl, rfl, by omega, by omega, by omega, HARR0.out, by simp, Dig.replicate (by decide) _, by rw [V_replicate]; simp [vf], fun j _ => getD_replicate _ _, HBW.out⟩
 case round =>
  obtain ⟨i, bo, os, rfl, rfl, hk, hc0, hc1, harr, hlo, hdo, hv, hzr, hbl⟩ := hrel
  have HK := Lib.hid hk
  have HARR := Lib.hid harr
  have HLO := Lib.hid hlo
  have HDO := Lib.hid hdo
  have HVO := Lib.hid hv
  have HZR := Lib.hid hzr
  have HBL := Lib.hid hbl
  clear hk harr hlo hdo hv hzr
  by_cases hi : i < t
  ·obtain ⟨-, -, -, h4⟩ := HA1.out.below hbl (Nat.le_refl _)
   rcases h4 with hcap0 | ⟨ba, oa, rfl, -, hca⟩
   ·have := HA.out.2.1; omega
   have hca1 := hca i (by omega)
   have hxr := HX.out.at (by decide) i
   have hyr := HY.out.at (by decide) i
   obtain ⟨x, hxx⟩ : ∃ d, xs.getD i 0 = d := ⟨_, rfl⟩
   obtain ⟨y, hyy⟩ : ∃ d, ys.getD i 0 = d := ⟨_, rfl⟩
   rw [hxx] at hca1 hxr
   rw [hyy] at hyr
   have HXX := Lib.hid hxx
   have HYY := Lib.hid hyy
   have hco := HARR.out.cell (i := i) (by rw [HLO.out]; omega)
   have hfo := HARR.out.frozen i
   obtain ⟨hx0, hx1⟩ := hxr
   obtain ⟨hy0, hy1⟩ := hyr
   have hin : (i : Int) < (n : Int) := by omega
   have g0 : (0 : Int) ≤ (i : Int) := by omega
   clear hca hxx
   by_cases him : i < m
   ·obtain ⟨-, -, -, k4⟩ := HB1.out.below hbl (Nat.le_refl _)
    rcases k4 with hcap0 | ⟨bb, ob, rfl, -, hcb⟩
    ·have := HB.out.2.1; omega
    have hcb1 := hcb i him
    rw [hyy] at hcb1
    clear hcb hyy hbl
    have HSW := Lib.hid (sub_word hx0 hx1 hy0 hy1 hc0 hc1)
    go_wp2_with fail
    go_roundg (gk - 1)
    case measure => have := HK.out; omega
    case rel => exact ⟨i + 1, -((x - bo - y) / 4294967296), os.set i ((x - bo - y) % 4294967296), by go_num, congrArg (Value.int .u64) HSW.out.2, by have := HK.out; omega, (sub_bo (by omega) (by omega)).1, (sub_bo (by omega) (by omega)).2, by rw [← HSW.out.1]; exact HARR.out.set i _, by rw [List.length_set]; exact HLO.out, HDO.out.set i (by omega) (by omega), sub_step (by rw [HLO.out]; omega) (HZR.out i (Nat.le_refl _)) HVO.out (by rw [HXX.out, HYY.out]), set_above HZR.out, HBL.out.setCell (Nat.le_refl _) _⟩
   ·have hy00 : y = 0 := by rw [← hyy]; exact getD_ge (by rw [HB.out.1]; omega)
    have HY00 := Lib.hid hy00
    have HSW := Lib.hid (sub_word0 hx0 hx1 hc0 hc1)
    clear hyy hy00 hbl
    go_wp2_with fail
    go_roundg (gk - 1)
    case measure => have := HK.out; omega
    case rel => exact ⟨i + 1, -((x - bo) / 4294967296), os.set i ((x - bo) % 4294967296), by go_num, congrArg (Value.int .u64) HSW.out.2, by have := HK.out; omega, (sub_bo (by omega) (by omega)).1, (sub_bo (by omega) (by omega)).2, by rw [← HSW.out.1]; exact HARR.out.set i _, by rw [List.length_set]; exact HLO.out, HDO.out.set i (by omega) (by omega), sub_step (by rw [HLO.out]; omega) (HZR.out i (Nat.le_refl _)) HVO.out (by rw [HXX.out, HYY.out, HY00.out, Int.sub_zero]), set_above HZR.out, HBL.out.setCell (Nat.le_refl _) _⟩
  ·have hin : i = t := by have := HK.out; omega
   have hz := sub_end HY.out HDO.out HLO.out HBD.out HVF.out hc0 hc1 HZ.out HGE.out (by have h := HVO.out; rw [hin] at h; exact h)
   have hfull := HARR.out.full (by rw [HLO.out]; omega)
   rw [HLO.out] at hfull
   have HS2 := Lib.hid (size_any _ _ _ _ _ hfull)
   have htl := tl_le os
   rw [HLO.out] at htl
   have hret : RetNatB w z (.returned (.tuple #[.slice (some ⟨w1.heap.size, 0, none⟩) (tl os) t, .bool true])) wr := by
    obtain ⟨_, _, _, he, h1, h2, h3⟩ := RetNat.cut HARR.out HDO.out (by rw [HLO.out]; omega) hz (HBL1.out.trans (hbl.mono hw1)) hw1
    injection he with he
    injection he with e1 e2 e3
    subst e1 e2 e3
    rw [HLO.out] at h1
    exact ⟨_, _, _, rfl, h1, h2, h3⟩
   have HRET := Lib.hid hret
   clear hz hfull hret hbl hin
   generalize tl os = t2 at *
   go_wp2_with fail
   refine HS2.out.mono ?_; rintro e w2 ⟨rfl, rfl⟩
   go_wp2_with fail
   go_ret2
   exact HRET.out
end Go.Proofs.YtehmompbmnejkaaGreat
/- Contract of package nat's Mul. Conditions: the words are below 2^32; at most 100000 of them. -/
namespace Go.Proofs.YtehmompbmnejkaaGreat
open Go.RowKit

theorem vf_tl {B : Int} (xs : List Int) : vf B (fun j => xs.getD j 0) (tl xs) = V B xs := by
 have h := tl_V (B := B) xs
 unfold V at h
 rw [tl_len] at h
 rw [← vf_congr (f := fun j => (xs.take (tl xs)).getD j 0) _ fun i hi => getD_take hi]
 exact h

/-- one place of a product's row -/
theorem prod_step {B s c : Int} {f g : Nat → Int} {os : List Int} {i k : Nat} {W : Int} (hj : i + k < os.length) (hv : V B os + c * B ^ (i + k) = W + f i * vf B g k * B ^ i)
  (hs : s = os.getD (i + k) 0 + f i * g k + c) :
  V B (os.set (i + k) (s % B)) + s / B * B ^ (i + (k + 1)) = W + f i * vf B g (k + 1) * B ^ i := by
 rw [← Nat.add_assoc, set_step hj]
 have e1 : vf B g (k + 1) = vf B g k + g k * B ^ k := rfl
 rw [e1, Int.mul_add, Int.add_mul]
 have e2 : f i * (g k * B ^ k) * B ^ i = f i * g k * B ^ (i + k) := by
  rw [Int.pow_add, ← Int.mul_assoc, Int.mul_assoc, Int.mul_comm (B ^ k) (B ^ i)]
 rw [e2, show s - os.getD (i + k) 0 = f i * g k + c from by omega, Int.add_mul]
 omega
theorem prod_row {B c : Int} {f g : Nat → Int} {os : List Int} {i m : Nat} {Y : Int} (hj : i + m < os.length) (hz : os.getD (i + m) 0 = 0) (hy : vf B g m = Y)
  (hv : V B os + c * B ^ (i + m) = vf B f i * Y + f i * vf B g m * B ^ i) : V B (os.set (i + m) c) = vf B f (i + 1) * Y := by
 rw [V_set hj, hz, Int.sub_zero, hv]
 have e1 : vf B f (i + 1) = vf B f i + f i * B ^ i := rfl
 rw [e1, Int.add_mul, hy, Int.mul_assoc (f i), Int.mul_assoc (f i), Int.mul_comm Y]

set_option maxHeartbeats 1000000 in
theorem nmul_any (a b : Option Addr) (n0 c m0 d : Nat) (xs ys : List Int) (w : World) (ha : RowK .u32 w a n0 c xs) (hb : RowK .u32 w b m0 d ys) (hx : Dig 4294967296 xs) (hy : Dig 4294967296 ys) (hn0 : n0 ≤ 100000) (hm0 : m0 ≤ 100000) :
  Calls Tryz.prog 48 #[.slice a n0 c, .slice b m0 d] w (RetNat w (V 4294967296 xs * V 4294967296 ys)) := by
 have HA := Lib.hid ha
 have HB := Lib.hid hb
 have HX := Lib.hid hx
 have HY := Lib.hid hy
 have SA := Lib.hid (size_any a n0 c xs w ha)
 have SB := Lib.hid (size_any b m0 d ys w hb)
 have hn : tl xs ≤ n0 := by have := tl_le xs; rw [ha.1] at this; exact this
 have hm : tl ys ≤ m0 := by have := tl_le ys; rw [hb.1] at this; exact this
 have FX := Lib.hid (vf_tl (B := 4294967296) xs)
 have FY := Lib.hid (vf_tl (B := 4294967296) ys)
 clear ha hb hx hy
 generalize tl xs = n at *
 generalize tl ys = m at *
 generalize V 4294967296 xs = X at *
 generalize V 4294967296 ys = Y at *
 go_enter Tryz.func48, Tryz.ntmps48
 go_wp2_with fail
 refine SA.out.mono ?_; rintro e w1 ⟨rfl, rfl⟩
 go_wp2_with fail
 refine SB.out.mono ?_; rintro e w1 ⟨rfl, rfl⟩
 go_wp2_with (at_make; refine make_arr .u32 24 34 4 info_u32 (by decide) Tryz.underlying24 rfl _ _ rfl .i64 .i64 _ _ (n + m) _ rfl rfl (by omega) (by omega) (by omega) ?_)
 intro w0 harr hb0 hs0
 have HB0 := Lib.hid hb0
 have HARR0 := Lib.hid harr
 clear hb0 harr
 go_wp2_with fail
 go_loopg [21] n (fun k u wr => ∃ (i : Nat) (os : List Int), u = .int .i64 i ∧ i + k = n ∧ Arr .u32 34 wr w.heap.size os ∧ os.length = n + m ∧ Dig 4294967296 os ∧
  V 4294967296 os = vf 4294967296 (fun j => xs.getD j 0) i * Y ∧ (∀ j, i + m ≤ j → os.getD j 0 = 0) ∧ Below w.heap.size w wr)
 case atStart => exact ⟨0, _, rfl, by omega, HARR0.out, by simp, Dig.replicate (by decide) _, by rw [V_replicate]; simp [vf], fun j _ => getD_replicate _ _, HB0.out⟩
 case round =>
  obtain ⟨i, os, rfl, hk, harr, hlo, hdo, hv, hzr, hbel⟩ := hrel
  have HK := Lib.hid hk
  have HARR := Lib.hid harr
  have HLO := Lib.hid hlo
  have HDO := Lib.hid hdo
  have HV := Lib.hid hv
  have HZR := Lib.hid hzr
  have HBE := Lib.hid hbel
  clear hk harr hlo hdo hv hzr
  by_cases hi : i < n
  ·clear hbel
   go_wp2_with fail
   obtain ⟨wo, hwo⟩ : ∃ wo : World, wo = wr := ⟨_, rfl⟩
   subst hwo
   go_loopg [25, 9] m (fun k2 u cu wi => ∃ (k : Nat) (cy : Int) (os : List Int), u = .int .i64 k ∧ cu = .int .u64 cy ∧ k + k2 = m ∧ 0 ≤ cy ∧ cy ≤ 4294967295 ∧ Arr .u32 34 wi w.heap.size os ∧ os.length = n + m ∧ Dig 4294967296 os ∧
    V 4294967296 os + cy * 4294967296 ^ (i + k) = vf 4294967296 (fun j => xs.getD j 0) i * Y + xs.getD i 0 * vf 4294967296 (fun j => ys.getD j 0) k * 4294967296 ^ i ∧ (∀ j, i + m ≤ j → os.getD j 0 = 0) ∧ Below w.heap.size w wi)
   case atStart => exact ⟨0, 0, os, rfl, rfl, by omega, by omega, by omega, HARR.out, HLO.out, HDO.out, by rw [HV.out]; simp [vf], HZR.out, HBE.out⟩
   case round =>
    obtain ⟨k, cy, os2, rfl, rfl, hk2, hc0, hc1, harr2, hlo2, hdo2, hv2, hzr2, hbel2⟩ := hrel
    have HK2 := Lib.hid hk2
    have HARR2 := Lib.hid harr2
    have HLO2 := Lib.hid hlo2
    have HDO2 := Lib.hid hdo2
    have HV2 := Lib.hid hv2
    have HZR2 := Lib.hid hzr2
    have HBE2 := Lib.hid hbel2
    clear hk2 harr2 hlo2 hdo2 hv2 hzr2
    by_cases hkm : k < m
    ·obtain ⟨-, -, -, ha4⟩ := HA.out.below hbel2 (Nat.le_refl _)
     obtain ⟨-, -, -, hb4⟩ := HB.out.below hbel2 (Nat.le_refl _)
     rcases ha4 with hcap0 | ⟨ba, oa, rfl, -, hca⟩
     ·have := HA.out.2.1; omega
     rcases hb4 with hcap0 | ⟨bb, ob, rfl, -, hcb⟩
     ·have := HB.out.2.1; omega
     have hca2 := hca i (by omega)
     have hcb2 := hcb k (by omega)
     have hco := HARR2.out.cell (i := i + k) (by rw [HLO2.out]; omega)
     have hfo := HARR2.out.frozen (i + k)
     have hxr := HX.out.at (by decide) i
     have hyr := HY.out.at (by decide) k
     have hor := HDO2.out.at (by decide) (i + k)
     obtain ⟨dx, hdx⟩ : ∃ d, xs.getD i 0 = d := ⟨_, rfl⟩
     obtain ⟨e, he⟩ : ∃ d, ys.getD k 0 = d := ⟨_, rfl⟩
     obtain ⟨o, ho⟩ : ∃ d, os2.getD (i + k) 0 = d := ⟨_, rfl⟩
     rw [hdx] at hca2 hxr
     rw [he] at hcb2 hyr
     rw [ho] at hco hor
     have HDX := Lib.hid hdx
     have HE := Lib.hid he
     have HO := Lib.hid ho
     obtain ⟨hp0, hp1⟩ := prod_bd (A := 4294967295) (B := 4294967295) hxr.1 hyr.1 (by omega) (by omega)
     have e1 : IntKind.i64.wrap ((i : Int) + (k : Int)) = (i : Int) + (k : Int) := IntWalk.i64_in _ (by omega)
     have e2 : IntKind.u64.wrap (dx * e) = dx * e := IntWalk.u64_in _ (by omega)
     have e3 : IntKind.u64.wrap (dx * e + o) = dx * e + o := IntWalk.u64_in _ (by omega)
     have e4 : IntKind.u64.wrap (dx * e + o + cy) = dx * e + o + cy := IntWalk.u64_in _ (by omega)
     have e5 : ((i : Int) + (k : Int)).toNat = i + k := by omega
     have l1 : (0 : Int) ≤ (i : Int) + (k : Int) := by omega
     have l2 : (i : Int) + (k : Int) < (n : Int) + (m : Int) := by omega
     have l3 : (i : Int) < (n0 : Int) := by omega
     have l4 : (k : Int) < (m0 : Int) := by omega
     clear hca hcb he ho hdx hbel2
     go_wp2_with fail
     go_quiet (fail)
     clear e1 e2 e3 e4 e5
     have hs : Hid (dx * e + o + cy = os2.getD (i + k) 0 + xs.getD i 0 * ys.getD k 0 + cy) := by rw [HO.out, HDX.out, HE.out]; exact Lib.hid (by omega)
     generalize hS : dx * e + o + cy = S at *
     have hS0 : 0 ≤ S := by omega
     have hS1 : S ≤ 18446744073709551615 := by omega
     clear hS hp0 hp1
     go_wp2_with fail
     go_roundg (gk - 1)
     case measure => have := HK2.out; omega
     case rel => exact ⟨k + 1, S / 4294967296, os2.set (i + k) (S % 4294967296), by go_num, rfl, by have := HK2.out; omega, by omega, by omega, HARR2.out.set _ _, by rw [List.length_set]; exact HLO2.out, HDO2.out.set _ (by omega) (by omega),
      prod_step (f := fun j => xs.getD j 0) (g := fun j => ys.getD j 0) (by rw [HLO2.out]; omega) HV2.out hs.out, fun j hj => by rw [getD_set_ne (by omega)]; exact HZR2.out j hj, (below_drewN HBE2.out nq).setCell (Nat.le_refl _) _⟩
    ·obtain rfl : k = m := by have := HK2.out; omega
     have hco := HARR2.out.cell (i := i + k) (by rw [HLO2.out]; omega)
     have hfo := HARR2.out.frozen (i + k)
     rw [HZR2.out (i + k) (by omega)] at hco
     have hcw : cy % 4294967296 = cy := by omega
     clear hbel2
     go_wp2_with fail
     go_roundg (n - i - 1)
     case measure => have := HK.out; omega
     case rel => exact ⟨i + 1, os2.set (i + k) cy, by go_num, by have := HK.out; omega, HARR2.out.set _ _, by rw [List.length_set]; exact HLO2.out, HDO2.out.set _ (by omega) (by omega),
      prod_row (f := fun j => xs.getD j 0) (by rw [HLO2.out]; omega) (HZR2.out _ (by omega)) FY.out HV2.out, fun j hj => by rw [getD_set_ne (by omega)]; exact HZR2.out j (by omega), HBE2.out.setCell (Nat.le_refl _) _⟩
  ·have HIN : Hid (i = n) := Lib.hid (by have := HK.out; omega)
   have hl2 := HLO.out
   have hret := RetNat.cut HARR.out HDO.out (by rw [hl2]; omega) (show V 4294967296 os = X * Y by rw [HV.out, HIN.out, FX.out]) HBE.out (Nat.le_refl _)
   have hfull := HARR.out.full (by rw [hl2]; omega)
   rw [hl2] at hret hfull
   have HS := Lib.hid (size_any _ _ _ _ _ hfull)
   have htl := tl_le os
   rw [hl2] at htl
   clear hfull hl2 hbel
   generalize tl os = t at *
   have HRET := Lib.hid hret
   clear hret
   go_wp2_with fail
   refine HS.out.mono ?_; rintro e w1 ⟨rfl, rfl⟩
   go_wp2_with fail
   go_ret
   exact HRET.out
end Go.Proofs.YtehmompbmnejkaaGreat
/- Contracts of package nat's small and move. Conditions: the words are below 2^32; at most 100000 of them. -/
namespace Go.Proofs.YtehmompbmnejkaaGreat
open Go.RowKit

theorem bits_or_u64 {a b : Int} (ha : 0 ≤ a) (ha2 : a < 18446744073709551616) (hb : 0 ≤ b) (hb2 : b < 18446744073709551616) : bits .or .u64 a b = ((a.toNat ||| b.toNat : Nat) : Int) := by
 have e : bits .or .u64 a b = IntKind.u64.wrap ((((a % 18446744073709551616).toNat ||| (b % 18446744073709551616).toNat) : Nat) : Int) := by
  show IntKind.u64.wrap ((BitVec.ofInt 64 a ||| BitVec.ofInt 64 b).toNat : Int) = _
  rw [BitVec.toNat_or, BitVec.toNat_ofInt, BitVec.toNat_ofInt]
  rfl
 rw [e, Int.emod_eq_of_lt ha ha2, Int.emod_eq_of_lt hb hb2]
 have h : a.toNat ||| b.toNat < 2 ^ 64 := Nat.or_lt_two_pow (by omega) (by omega)
 exact IntWalk.u64_in _ (by omega)
theorem bits_or_u32 {a b : Int} (ha : 0 ≤ a) (ha2 : a < 4294967296) (hb : 0 ≤ b) (hb2 : b < 4294967296) : bits .or .u32 a b = ((a.toNat ||| b.toNat : Nat) : Int) := by
 have e : bits .or .u32 a b = IntKind.u32.wrap ((((a % 4294967296).toNat ||| (b % 4294967296).toNat) : Nat) : Int) := by
  show IntKind.u32.wrap ((BitVec.ofInt 32 a ||| BitVec.ofInt 32 b).toNat : Int) = _
  rw [BitVec.toNat_or, BitVec.toNat_ofInt, BitVec.toNat_ofInt]
  rfl
 rw [e, Int.emod_eq_of_lt ha ha2, Int.emod_eq_of_lt hb hb2]
 have h : a.toNat ||| b.toNat < 2 ^ 32 := Nat.or_lt_two_pow (by omega) (by omega)
 exact IntWalk.u32_in _ (by omega)
theorem or_nat {h l s : Nat} (hl : l < 2 ^ s) : h * 2 ^ s ||| l = h * 2 ^ s + l := by
 rw [Nat.mul_comm, ← Nat.two_pow_add_eq_or_of_lt hl]
/-- a high and a low word -/
theorem hi_lo {h l : Int} (h0 : 0 ≤ h) (h1 : h < 4294967296) (l0 : 0 ≤ l) (l1 : l < 4294967296) : bits .or .u64 (h * 4294967296) l = h * 4294967296 + l := by
 rw [bits_or_u64 (by omega) (by omega) (by omega) (by omega)]
 obtain ⟨a, rfl⟩ := Int.eq_ofNat_of_zero_le h0
 obtain ⟨b, rfl⟩ := Int.eq_ofNat_of_zero_le l0
 have e : ((a : Int) * 4294967296).toNat = a * 2 ^ 32 := by omega
 rw [e, Int.toNat_natCast, or_nat (by omega)]
 omega
theorem hi_lo' {h l : Int} (h0 : 0 ≤ h) (h1 : h < 4294967296) (l0 : 0 ≤ l) (l1 : l < 4294967296) : bits .or .u64 l (h * 4294967296) = l + h * 4294967296 := by
 rw [bits_or_u64 (by omega) (by omega) (by omega) (by omega), Nat.or_comm, ← bits_or_u64 (by omega) (by omega) (by omega) (by omega), hi_lo h0 h1 l0 l1]
 omega

/-- one place of a division by a word, from above -/
theorem small_step {B W left X : Int} {os : List Int} {f : Nat → Int} {i : Nat} (hi : i < os.length) (hz : os.getD i 0 = 0) (hv : V B os * W + left * B ^ (i + 1) = X - vf B f (i + 1)) :
  V B (os.set i ((left * B + f i) / W)) * W + (left * B + f i) % W * B ^ i = X - vf B f i := by
 rw [V_set hi, hz, Int.sub_zero, Int.add_mul]
 have e1 : vf B f (i + 1) = vf B f i + f i * B ^ i := rfl
 rw [e1] at hv
 have e2 : (left * B + f i) / W * B ^ i * W + (left * B + f i) % W * B ^ i = (left * B + f i) * B ^ i := by
  rw [Int.mul_assoc, Int.mul_comm (B ^ i) W, ← Int.mul_assoc, ← Int.add_mul]
  congr 1
  rw [Int.mul_comm]
  exact Int.mul_ediv_add_emod _ _
 have e3 : (left * B + f i) * B ^ i = left * B ^ (i + 1) + f i * B ^ i := by rw [Int.add_mul, Int.pow_succ, Int.mul_comm (B ^ i), Int.mul_assoc]
 omega
theorem small_word {left x W : Int} (h0 : 0 ≤ left) (h1 : left < W) (x0 : 0 ≤ x) (x1 : x < 4294967296) : 0 ≤ (left * 4294967296 + x) / W ∧ (left * 4294967296 + x) / W < 4294967296 ∧ 0 ≤ (left * 4294967296 + x) % W ∧ (left * 4294967296 + x) % W < W :=
 ⟨Int.ediv_nonneg (by omega) (by omega), Int.ediv_lt_of_lt_mul (by omega) (by omega), Int.emod_nonneg _ (by omega), Int.emod_lt_of_pos _ (by omega)⟩
theorem small_end {Q W left X : Int} (h0 : 0 ≤ left) (h1 : left < W) (hv : Q * W + left = X) : Q = X / W ∧ left = X % W := by
 have h := (Int.ediv_emod_unique (a := X) (r := left) (q := Q) (b := W) (by omega)).2 ⟨by rw [Int.mul_comm]; omega, h0, h1⟩
 exact ⟨h.1.symm, h.2.symm⟩

/-- a call's answer: the trim list of z, and a word r -/
def RetNatW (w : World) (z r : Int) (e : Ending) (w' : World) : Prop := ∃ a n c, e = .returned (.tuple #[.slice a n c, .int .u32 r]) ∧ NatC w' a n c z ∧ Below w.heap.size w w' ∧ Fresh w.heap.size a
theorem RetNat.word {w w' : World} {z : Int} {a : Option Addr} {n c : Nat} (h : RetNat w z (.returned (.slice a n c)) w') (r : Int) : RetNatW w z r (.returned (.tuple #[.slice a n c, .int .u32 r])) w' := by
 obtain ⟨_, _, _, he, h1⟩ := h
 cases he
 exact ⟨_, _, _, rfl, h1⟩

set_option maxHeartbeats 1000000 in
theorem small_any (a : Option Addr) (n0 c : Nat) (W : Int) (xs : List Int) (w : World) (ha : RowK .u32 w a n0 c xs) (hx : Dig 4294967296 xs) (hn0 : n0 ≤ 100000) (hW0 : 0 < W) (hW1 : W < 4294967296) :
  Calls Tryz.prog 111 #[.slice a n0 c, .int .u32 W] w (RetNatW w (V 4294967296 xs / W) (V 4294967296 xs % W)) := by
 have HA := Lib.hid ha
 have HX := Lib.hid hx
 have SA := Lib.hid (size_any a n0 c xs w ha)
 have hn : tl xs ≤ n0 := by have := tl_le xs; rw [ha.1] at this; exact this
 have FX := Lib.hid (vf_tl (B := 4294967296) xs)
 clear ha hx
 generalize tl xs = n at *
 generalize V 4294967296 xs = X at *
 have hWq : (W == 0) = false := by simp; omega
 go_enter Tryz.func111, Tryz.ntmps111
 go_wp2_with fail
 refine SA.out.mono ?_; rintro e w1 ⟨rfl, rfl⟩
 go_wp2_with (at_make; refine make_arr .u32 24 34 4 info_u32 (by decide) Tryz.underlying24 rfl _ _ rfl .i64 .i64 _ _ n _ rfl rfl (by omega) (by omega) (by omega) ?_)
 intro w0 harr hb0 hs0
 have HB0 := Lib.hid hb0
 have HARR0 := Lib.hid harr
 clear hb0 harr
 go_wp2_with fail
 go_loopg [8, 7] n (fun k u lu wr => ∃ (left : Int) (os : List Int), u = .int .i64 ((k : Int) - 1) ∧ lu = .int .u64 left ∧ k ≤ n ∧ 0 ≤ left ∧ left < W ∧ Arr .u32 34 wr w.heap.size os ∧ os.length = n ∧ Dig 4294967296 os ∧
  V 4294967296 os * W + left * 4294967296 ^ k = X - vf 4294967296 (fun j => xs.getD j 0) k ∧ (∀ j, j < k → os.getD j 0 = 0) ∧ Below w.heap.size w wr)
 case atStart => exact ⟨0, _, rfl, rfl, Nat.le_refl _, by omega, by omega, HARR0.out, by simp, Dig.replicate (by decide) _, by rw [V_replicate, FX.out]; omega, fun j _ => getD_replicate _ _, HB0.out⟩
 case round =>
  obtain ⟨left, os, rfl, rfl, hk, hl0, hl1, harr, hlo, hdo, hv, hzr, hbl⟩ := hrel
  have HARR := Lib.hid harr
  have HLO := Lib.hid hlo
  have HDO := Lib.hid hdo
  have HV := Lib.hid hv
  have HZR := Lib.hid hzr
  have HBL := Lib.hid hbl
  clear harr hlo hdo hv hzr
  by_cases h0 : gk = 0
  ·subst h0
   have hl2 := HLO.out
   obtain ⟨hq, hr⟩ := small_end (Q := V 4294967296 os) (X := X) hl0 hl1 (by have h := HV.out; rw [Int.pow_zero, Int.mul_one] at h; rw [h]; exact Int.sub_zero X)
   have hret := RetNat.cut HARR.out HDO.out (by rw [hl2]; omega) hq HBL.out (Nat.le_refl _)
   have HR := Lib.hid hr
   have hfull := HARR.out.full (by rw [hl2]; omega)
   rw [hl2] at hret hfull
   have HS := Lib.hid (size_any _ _ _ _ _ hfull)
   have htl := tl_le os
   rw [hl2] at htl
   clear hfull hl2 hbl hq hr
   generalize tl os = t at *
   have HRET : Hid (RetNatW w (X / W) (X % W) (.returned (.tuple #[.slice (some ⟨w.heap.size, 0, none⟩) t n, .int .u32 left])) wr) := Lib.hid (HR.out ▸ hret.word left)
   clear hret
   go_wp2_with fail
   refine HS.out.mono ?_; rintro e w1 ⟨rfl, rfl⟩
   go_wp2_with fail
   go_ret2
   exact HRET.out
  ·obtain ⟨j, hj⟩ : ∃ j, gk = j + 1 := ⟨gk - 1, by omega⟩
   subst hj
   rw [show ((j + 1 : Nat) : Int) - 1 = (j : Int) from by omega]
   obtain ⟨-, -, -, h4⟩ := HA.out.below hbl (Nat.le_refl _)
   rcases h4 with hcap0 | ⟨ba, oa, rfl, -, hc⟩
   ·have := HA.out.2.1; omega
   have hc1 := hc j (by omega)
   have hxr := HX.out.at (by decide) j
   obtain ⟨x, hxx⟩ : ∃ d, xs.getD j 0 = d := ⟨_, rfl⟩
   rw [hxx] at hc1 hxr
   have HXX := Lib.hid hxx
   have hco := HARR.out.cell (i := j) (by rw [HLO.out]; omega)
   have hfo := HARR.out.frozen j
   obtain ⟨q0, q1, r0, r1⟩ := small_word hl0 hl1 hxr.1 hxr.2
   have g0 : (0 : Int) ≤ (j : Int) := by omega
   have g1 : (j : Int) < (n0 : Int) := by omega
   have g2 : (j : Int) < (n : Int) := by omega
   have e1 : IntKind.u64.wrap (left * 4294967296) = left * 4294967296 := IntWalk.u64_in _ (by omega)
   have e2 := hi_lo hl0 (by omega) hxr.1 hxr.2
   clear hc hxx h0 hbl
   go_wp2_with fail
   go_roundg j
   case measure => omega
   case rel => exact ⟨_, os.set j ((left * 4294967296 + x) / W), rfl, rfl, by omega, r0, r1, HARR.out.set _ _, by rw [List.length_set]; exact HLO.out, HDO.out.set _ q0 q1,
    (by have h := small_step (B := 4294967296) (f := fun j => xs.getD j 0) (by rw [HLO.out]; omega) (HZR.out j (by omega)) HV.out; rw [← HXX.out]; exact h), fun i hi => by rw [getD_set_ne (by omega)]; exact HZR.out i (by omega), HBL.out.setCell (Nat.le_refl _) _⟩
end Go.Proofs.YtehmompbmnejkaaGreat
