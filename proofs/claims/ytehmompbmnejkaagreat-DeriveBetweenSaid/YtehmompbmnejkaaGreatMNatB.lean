/- Contract of package nat's move. Conditions: the words are below 2^32; at most 100000 of them; the shift below 32. -/
import Derived.Test.YtehmompbmnejkaaGreatMNatA
import Derived.Deep.DeepCutAuto
namespace Go.Proofs.YtehmompbmnejkaaGreat
open Go.RowKit

theorem pow_split {s : Nat} (hs : s ≤ 32) : ∃ R : Int, (2 : Int) ^ s * R = 4294967296 := ⟨2 ^ (32 - s), by rw [← Int.pow_add, show s + (32 - s) = 32 from by omega]; rfl⟩

/-- a call's answer: a list of its own of just n words, with the value z -/
def RetRow (w : World) (n : Nat) (z : Int) (e : Ending) (w' : World) : Prop := ∃ os, e = .returned (.slice (some ⟨w.heap.size, 0, none⟩) n n) ∧ Arr .u32 34 w' w.heap.size os ∧ os.length = n ∧ Dig 4294967296 os ∧ V 4294967296 os = z ∧ Below w.heap.size w w'
theorem dvd_mod {o y P R : Int} (hP : 0 < P) (hR : P * R = 4294967296) (hy : y % P = 0) (ho : o < P) : o + y % 4294967296 < 4294967296 := by
 have h1 : y % 4294967296 % P = 0 := by rw [← hR, Int.emod_emod_of_dvd _ (Int.dvd_mul_right P R)]; exact hy
 have h2 := Int.emod_lt_of_pos y (show (0 : Int) < 4294967296 by decide)
 obtain ⟨k, hk⟩ := Int.dvd_of_emod_eq_zero h1
 have h3 : k < R := by
  apply Int.lt_of_mul_lt_mul_left (a := P) _ (by omega)
  omega
 have h4 : P * (k + 1) ≤ P * R := Int.mul_le_mul_of_nonneg_left (by omega) (by omega)
 rw [Int.mul_add, Int.mul_one] at h4
 omega
theorem or_mod {o y : Int} {s : Nat} (hs : s ≤ 31) (ho0 : 0 ≤ o) (ho : o < 2 ^ s) (hy : y % 2 ^ s = 0) : bits .or .u32 o (y % 4294967296) = o + y % 4294967296 := by
 obtain ⟨R, hR⟩ := pow_split (show s ≤ 32 by omega)
 have hb := dvd_mod (Int.pow_pos (by decide)) hR hy ho
 have h2 := Int.emod_lt_of_pos y (show (0 : Int) < 4294967296 by decide)
 have h3 := Int.emod_nonneg y (show (4294967296 : Int) ≠ 0 by decide)
 have h1 : y % 4294967296 % 2 ^ s = 0 := by rw [← hR, Int.emod_emod_of_dvd _ (Int.dvd_mul_right _ _)]; exact hy
 generalize y % 4294967296 = z at *
 rw [bits_or_u32 ho0 (by omega) h3 h2]
 obtain ⟨a, rfl⟩ := Int.eq_ofNat_of_zero_le ho0
 obtain ⟨k, hk⟩ := Int.dvd_of_emod_eq_zero h1
 have hk0 : 0 ≤ k := by
  rcases Int.lt_or_le k 0 with h | h
  ·have h5 : (2 : Int) ^ s * k < 0 := Int.mul_neg_of_pos_of_neg (Int.pow_pos (by decide)) h
   omega
  ·exact h
 obtain ⟨b, rfl⟩ := Int.eq_ofNat_of_zero_le hk0
 have hz : z = ((b * 2 ^ s : Nat) : Int) := by rw [hk, Int.mul_comm]; simp
 have hoa : a < 2 ^ s := by
  have h : ((a : Nat) : Int) < ((2 ^ s : Nat) : Int) := by simpa using ho
  omega
 rw [hz, Int.toNat_natCast, Int.toNat_natCast, Nat.or_comm, or_nat hoa]
 omega
theorem mul_pow_bd {x : Int} {s : Nat} (hx0 : 0 ≤ x) (hx1 : x < 4294967296) (hs : s ≤ 31) : 0 ≤ x * 2 ^ s ∧ x * 2 ^ s < 9223372036854775808 ∧ x * 2 ^ s % 2 ^ s = 0 ∧ x * 2 ^ s / 4294967296 < 2 ^ s := by
 have h2 : (2 : Int) ^ s ≤ 2 ^ 31 := ipow_le (by decide) hs
 have h0 : (0 : Int) < 2 ^ s := Int.pow_pos (by decide)
 have h := prod_bd (A := 4294967295) (B := 2147483648) hx0 (y := 2 ^ s) (by omega) (by omega) (by omega)
 refine ⟨h.1, by omega, Int.mul_emod_left _ _, Int.ediv_lt_of_lt_mul (by decide) ?_⟩
 rw [Int.mul_comm x]
 exact Int.mul_lt_mul_of_pos_left hx1 h0
/-- one place of a shift -/
theorem move_step {B o y P : Int} {os : List Int} {f : Nat → Int} {i : Nat} (hi : i + 1 < os.length) (ho : os.getD i 0 = o) (hz : os.getD (i + 1) 0 = 0) (hv : V B os = vf B f i * P) (hy : f i * P = y) :
  V B ((os.set i (o + y % B)).set (i + 1) (y / B)) = vf B f (i + 1) * P := by
 rw [V_set (by rw [List.length_set]; exact hi), getD_set_ne (by omega), hz, V_set (by omega), ho, Int.sub_zero, hv]
 have e1 : vf B f (i + 1) = vf B f i + f i * B ^ i := rfl
 have e2 : f i * B ^ i * P = y * B ^ i := by rw [← hy, Int.mul_assoc, Int.mul_comm (B ^ i), ← Int.mul_assoc]
 have e3 : y % B * B ^ i + y / B * B ^ (i + 1) = y * B ^ i := by
  rw [Int.pow_succ, Int.mul_comm (B ^ i) B, ← Int.mul_assoc, ← Int.add_mul]
  congr 1
  rw [Int.mul_comm]
  exact Int.emod_add_mul_ediv _ _
 rw [e1, Int.add_mul, e2, show o + y % B - o = y % B from by omega]
 omega

set_option maxHeartbeats 1000000 in
theorem move_any (a : Option Addr) (n0 c s : Nat) (xs : List Int) (w : World) (ha : RowK .u32 w a n0 c xs) (hx : Dig 4294967296 xs) (hn0 : n0 ≤ 100000) (hs : s ≤ 31) :
  Calls Tryz.prog 94 #[.slice a n0 c, .int .i64 s] w (RetRow w (tl xs + 1) (V 4294967296 xs * 2 ^ s)) := by
 have HA := Lib.hid ha
 have HX := Lib.hid hx
 have SA := Lib.hid (size_any a n0 c xs w ha)
 have hn : tl xs ≤ n0 := by have := tl_le xs; rw [ha.1] at this; exact this
 have FX := Lib.hid (vf_tl (B := 4294967296) xs)
 clear ha hx
 generalize tl xs = n at *
 generalize V 4294967296 xs = X at *
 go_enter Tryz.func94, Tryz.ntmps94
 go_wp2_with fail
 refine SA.out.mono ?_; rintro e w1 ⟨rfl, rfl⟩
 go_wp2_with (at_make; refine make_arr .u32 24 34 4 info_u32 (by decide) Tryz.underlying24 rfl _ _ rfl .i64 .i64 _ _ (n + 1) _ rfl rfl (by omega) (by omega) (by omega) ?_)
 intro w0 harr hb0 hs0
 have HB0 := Lib.hid hb0
 have HARR0 := Lib.hid harr
 clear hb0 harr
 go_wp2_with fail
 go_loopg [15] n (fun k u wr => ∃ (i : Nat) (os : List Int), u = .int .i64 i ∧ i + k = n ∧ Arr .u32 34 wr w.heap.size os ∧ os.length = n + 1 ∧ Dig 4294967296 os ∧
  V 4294967296 os = vf 4294967296 (fun j => xs.getD j 0) i * 2 ^ s ∧ os.getD i 0 < 2 ^ s ∧ (∀ j, i < j → os.getD j 0 = 0) ∧ Below w.heap.size w wr)
 case atStart => exact ⟨0, _, rfl, by omega, HARR0.out, by simp, Dig.replicate (by decide) _, by rw [V_replicate]; simp [vf], by rw [getD_replicate]; exact Int.pow_pos (by decide), fun j _ => getD_replicate _ _, HB0.out⟩
 case round =>
  obtain ⟨i, os, rfl, hk, harr, hlo, hdo, hv, hlt, hzr, hbl⟩ := hrel
  have HK := Lib.hid hk
  have HARR := Lib.hid harr
  have HLO := Lib.hid hlo
  have HDO := Lib.hid hdo
  have HV := Lib.hid hv
  have HLT := Lib.hid hlt
  have HZR := Lib.hid hzr
  have HBL := Lib.hid hbl
  clear hk harr hlo hdo hv hlt hzr
  by_cases hi : i < n
  ·obtain ⟨-, -, -, h4⟩ := HA.out.below hbl (Nat.le_refl _)
   rcases h4 with hcap0 | ⟨ba, oa, rfl, -, hc⟩
   ·have := HA.out.2.1; omega
   have hc1 := hc i (by omega)
   have hxr := HX.out.at (by decide) i
   obtain ⟨x, hxx⟩ : ∃ d, xs.getD i 0 = d := ⟨_, rfl⟩
   rw [hxx] at hc1 hxr
   have HXX := Lib.hid hxx
   have hco := HARR.out.cell (i := i) (by rw [HLO.out]; omega)
   have hfo := HARR.out.frozen i
   obtain ⟨o, ho⟩ : ∃ d, os.getD i 0 = d := ⟨_, rfl⟩
   have hor := (HDO.out.at (by decide) i).1
   have hlt := HLT.out
   rw [ho] at hco hor hlt
   have hco1 := HARR.out.cell (i := i + 1) (by rw [HLO.out]; omega)
   have hfo1 := HARR.out.frozen (i + 1)
   obtain ⟨y0, y1, y2, y3⟩ := mul_pow_bd hxr.1 hxr.2 hs
   have hle : (2 : Int) ^ s ≤ 2 ^ 31 := ipow_le (by decide) hs
   obtain ⟨y, hy⟩ : ∃ y, x * 2 ^ s = y := ⟨_, rfl⟩
   have e1 : IntKind.u64.wrap (x * 2 ^ s) = y := by rw [hy]; exact IntWalk.u64_in _ (by omega)
   rw [hy] at y0 y1 y2 y3
   have e2 := or_mod hs hor hlt y2
   obtain ⟨R, hR⟩ := pow_split (show s ≤ 32 by omega)
   have H3 := Lib.hid (dvd_mod (Int.pow_pos (by decide)) hR y2 hlt)
   have HY := Lib.hid hy
   have HOO := Lib.hid ho
   have HY3 := Lib.hid y3
   have HLE := Lib.hid hle
   have g0 : (0 : Int) ≤ (i : Int) := by omega
   have g1 : (i : Int) < (n0 : Int) := by omega
   have g2 : (i : Int) < (n : Int) + 1 := by omega
   clear hc hxx ho hbl hR hy y2 y3 hle hlt
   go_wp2_with fail
   go_roundg (gk - 1)
   case measure => have := HK.out; omega
   case rel => exact ⟨i + 1, (os.set i (o + y % 4294967296)).set (i + 1) (y / 4294967296), by go_num, by have := HK.out; omega, (HARR.out.set _ _).set _ _, by rw [List.length_set, List.length_set]; exact HLO.out, (HDO.out.set _ (by omega) H3.out).set _ (by omega) (by omega),
    move_step (B := 4294967296) (f := fun j => xs.getD j 0) (by rw [HLO.out]; omega) HOO.out (HZR.out _ (by omega)) HV.out (by rw [← HY.out, ← HXX.out]), by rw [getD_set_self (by rw [List.length_set, HLO.out]; omega)]; exact HY3.out,
    fun j hj => by rw [getD_set_ne (by omega), getD_set_ne (by omega)]; exact HZR.out j (by omega), (HBL.out.setCell (Nat.le_refl _) _).setCell (Nat.le_refl _) _⟩
  ·have HIN : Hid (i = n) := Lib.hid (by have := HK.out; omega)
   clear hbl
   go_wp2_with fail
   go_ret
   exact ⟨os, rfl, HARR.out, HLO.out, HDO.out, by rw [HV.out, HIN.out, FX.out], HBL.out⟩
end Go.Proofs.YtehmompbmnejkaaGreat
/- Contracts of package nat's take and give: both change one block in place. Conditions: the words are below 2^32. -/
namespace Go.Proofs.YtehmompbmnejkaaGreat
open Go.RowKit

/-- nothing but block g has changed -/
structure Only (g : Nat) (w w' : World) : Prop where
 os : w'.os = w.os
 tape : w'.tape = w.tape
 output : w'.output = w.output
 size : w'.heap.size = w.heap.size
 block : ∀ k, k ≠ g → w'.heap[k]? = w.heap[k]?
theorem Only.refl (g : Nat) (w : World) : Only g w w := ⟨rfl, rfl, rfl, rfl, fun _ _ => rfl⟩
theorem Only.trans {g : Nat} {a b c : World} (h : Only g a b) (k : Only g b c) : Only g a c :=
 ⟨k.os.trans h.os, k.tape.trans h.tape, k.output.trans h.output, k.size.trans h.size, fun i hi => (k.block i hi).trans (h.block i hi)⟩
theorem Only.below {g B : Nat} {w w' : World} (h : Only g w w') (hB : B ≤ g) : Below B w w' := ⟨h.os, h.tape, h.output, Nat.le_of_eq h.size.symm, fun k hk => h.block k (by omega)⟩
theorem Only.dn {g : Nat} {a w : World} (h : Only g a w) (n : Nat) : Only g a (w.drewN n) := ⟨h.os, h.tape, h.output, h.size, h.block⟩
theorem Only.setCell {g : Nat} {a w : World} (h : Only g a w) (i : Nat) (v : Value) : Only g a (w.setCell ⟨g, i, none⟩ v) := by
 have hb := (Below.refl w.heap.size w).setCell (p := ⟨w.heap.size, i, none⟩) (Nat.le_refl _) v
 refine ⟨h.os, h.tape, h.output, ?_, fun k hk => ?_⟩
 ·rw [← h.size]; simp [World.setCell]
 ·rw [Below.heap_setCell _ _ _ _ hk]; exact h.block k hk
theorem Only.cell {g : Nat} {w w' : World} (h : Only g w w') {p : Addr} (hp : p.block ≠ g) : w'.cell? p = w.cell? p := by
 simp only [World.cell?, h.block _ hp]
theorem Only.arr {g gd : Nat} {w w' : World} {k : IntKind} {e : TypeId} {xs : List Int} (h : Only g w w') (ha : Arr k e w gd xs) (hg : gd ≠ g) : Arr k e w' gd xs := by
 show w'.heap[gd]? = _
 rw [h.block _ hg]; exact ha

/-- block g begins with the numbers xs of kind k; what follows is anything -/
def ArrP (k : IntKind) (e : TypeId) (w : World) (g : Nat) (xs : List Int) : Prop := ∃ r : List Value, w.heap[g]? = some (.cells (xs.map (Value.int k) ++ r).toArray e (0, 0))
theorem ArrP.lt {k : IntKind} {e : TypeId} {w : World} {g : Nat} {xs : List Int} (h : ArrP k e w g xs) : g < w.heap.size := (Array.getElem?_eq_some_iff.1 h.choose_spec).1
theorem ArrP.cell {k : IntKind} {e : TypeId} {w : World} {g : Nat} {xs : List Int} (h : ArrP k e w g xs) {i : Nat} (hi : i < xs.length) : w.cell? ⟨g, i, none⟩ = some (.int k (xs.getD i 0)) := by
 obtain ⟨r, h⟩ := h
 rw [cell_of_row w g i _ e (0, 0) h]
 rw [List.getElem?_toArray, List.getElem?_append_left (by simpa using hi)]
 simp [hi]
theorem ArrP.frozen {k : IntKind} {e : TypeId} {w : World} {g : Nat} {xs : List Int} (h : ArrP k e w g xs) (i : Nat) : w.frozen? ⟨g, i, none⟩ = false := by
 obtain ⟨r, h⟩ := h
 simp [World.frozen?, h]
theorem ArrP.set {k : IntKind} {e : TypeId} {w : World} {g : Nat} {xs : List Int} (h : ArrP k e w g xs) {i : Nat} (hi : i < xs.length) (d : Int) : ArrP k e (w.setCell ⟨g, i, none⟩ (.int k d)) g (xs.set i d) := by
 obtain ⟨r, h⟩ := h
 refine ⟨r, ?_⟩
 show (w.setCell ⟨g, i, none⟩ (.int k d)).heap[g]? = _
 simp [World.setCell, Array.getElem?_modify, h, List.map_set]
 rw [List.set_append_left _ _ (by simpa using hi)]
theorem ArrP.below {k : IntKind} {e : TypeId} {w w' : World} {g B : Nat} {xs : List Int} (h : ArrP k e w g xs) (hb : Below B w w') (hB : g < B) : ArrP k e w' g xs := by
 obtain ⟨r, h⟩ := h
 exact ⟨r, by rw [hb.block g hB]; exact h⟩
theorem ArrP.row {k : IntKind} {e : TypeId} {w : World} {g : Nat} {xs : List Int} (h : ArrP k e w g xs) {n cap : Nat} (hl : xs.length = n) (hn : n ≤ cap) (hc : cap ≤ maxLen) : RowK k w (some ⟨g, 0, none⟩) n cap xs :=
 ⟨hl, hn, hc, .inr ⟨g, 0, rfl, h.lt, fun i hi => by rw [Nat.zero_add, h.cell (by omega)]⟩⟩
theorem OwnK.part {k : IntKind} {w : World} {B g n cap : Nat} {e : TypeId} {xs : List Int} (h : OwnK k w B e (.slice (some ⟨g, 0, none⟩) n cap) n xs) : ArrP k e w g xs := by
 rcases h.2 with ⟨h1, _⟩ | ⟨g', cap', cur, h1, hg, hh, h3, h4, h5, h6⟩
 ·cases h1
 ·cases h1
  refine ⟨cur.toList.drop (n * 1), ?_⟩
  rw [hh, ← h6, List.take_append_drop]

/-- the value of n places from off on -/
def win (B : Int) (os : List Int) (off n : Nat) : Int := vf B (fun j => os.getD (off + j) 0) n

theorem take_word {x p bo : Int} (hx0 : 0 ≤ x) (hx1 : x < 4294967296) (hb0 : 0 ≤ bo) (hb1 : bo ≤ 1) :
  IntKind.u64.wrap (IntKind.u64.wrap (x - p % 4294967296) - bo) % 4294967296 = (x - p % 4294967296 - bo) % 4294967296 ∧
  IntKind.u64.wrap (IntKind.u64.wrap (x - p % 4294967296) - bo) / 9223372036854775808 = -((x - p % 4294967296 - bo) / 4294967296) := by
 have h2 := Int.emod_lt_of_pos p (show (0 : Int) < 4294967296 by decide)
 have h3 := Int.emod_nonneg p (show (4294967296 : Int) ≠ 0 by decide)
 generalize p % 4294967296 = y at *
 simp only [IntKind.wrap, IntKind.bits, IntKind.signed]
 simp
 omega

/-- one place of 'q times d taken away' -/
theorem take_step {B x d q cy bo p s : Int} {W : Int} {f g : Nat → Int} {i : Nat} (hv : W = vf B f i - (q * vf B g i - cy * B ^ i) + bo * B ^ i) (hx : f i = x) (hd : g i = d) (hp : p = cy + q * d) (hs : s = x - p % B - bo) :
  W + s % B * B ^ i = vf B f (i + 1) - (q * vf B g (i + 1) - p / B * B ^ (i + 1)) + -(s / B) * B ^ (i + 1) := by
 have e1 : vf B f (i + 1) = vf B f i + x * B ^ i := by rw [← hx]; rfl
 have e2 : q * vf B g (i + 1) = q * vf B g i + q * d * B ^ i := by rw [← hd, Int.mul_assoc, ← Int.mul_add]; rfl
 have e3 : p / B * B ^ (i + 1) + p % B * B ^ i = cy * B ^ i + q * d * B ^ i := by
  rw [Int.pow_succ, Int.mul_comm (B ^ i) B, ← Int.mul_assoc, ← Int.add_mul, ← Int.add_mul]
  congr 1
  rw [Int.mul_comm, ← hp]
  exact Int.mul_ediv_add_emod _ _
 have e4 : -(s / B) * B ^ (i + 1) = s % B * B ^ i - s * B ^ i := by
  have h : s / B * B ^ (i + 1) + s % B * B ^ i = s * B ^ i := by
   rw [Int.pow_succ, Int.mul_comm (B ^ i) B, ← Int.mul_assoc, ← Int.add_mul]
   congr 1
   rw [Int.mul_comm]
   exact Int.mul_ediv_add_emod _ _
  rw [Int.neg_mul]; omega
 have e5 : s * B ^ i = x * B ^ i - p % B * B ^ i - bo * B ^ i := by rw [hs, Int.sub_mul, Int.sub_mul]
 omega

theorem win_set {B : Int} {os : List Int} {off i : Nat} {d : Int} (h : off + i < os.length) : win B (os.set (off + i) d) off (i + 1) = win B os off i + d * B ^ i := by
 show vf B _ i + (os.set (off + i) d).getD (off + i) 0 * B ^ i = _
 rw [getD_set_self h]
 congr 1
 exact vf_congr i fun j hj => getD_set_ne (by omega)
theorem mask32 {p : Int} (h0 : 0 ≤ p) (h1 : p < 18446744073709551616) : bits .and .u64 p 4294967295 = p % 4294967296 := by
 have e : bits .and .u64 p 4294967295 = IntKind.u64.wrap ((((p % 18446744073709551616).toNat &&& ((4294967295 : Int) % 18446744073709551616).toNat) : Nat) : Int) := by
  show IntKind.u64.wrap ((BitVec.ofInt 64 p &&& BitVec.ofInt 64 4294967295).toNat : Int) = _
  rw [BitVec.toNat_and, BitVec.toNat_ofInt, BitVec.toNat_ofInt]
  rfl
 rw [e, Int.emod_eq_of_lt h0 h1, show ((4294967295 : Int) % 18446744073709551616).toNat = 2 ^ 32 - 1 from by decide, Nat.and_two_pow_sub_one_eq_mod]
 rw [IntWalk.u64_in _ (by omega)]
 omega

set_option maxHeartbeats 1000000 in
theorem take_any (g gd off n c m cd : Nat) (os ds : List Int) (q : Int) (w : World) (hx : ArrP .u32 34 w g os) (hd : ∀ j, j < m → w.cell? ⟨gd, j, none⟩ = some (.int .u32 (ds.getD j 0))) (hm : ds.length = m) (hg : gd ≠ g)
  (hon : off + n ≤ os.length) (ho : Dig 4294967296 os) (hds : Dig 4294967296 ds) (hn : n ≤ 200000) (hmn : m ≤ n) (hq0 : 0 ≤ q) (hq1 : q < 4294967296) :
  Calls Tryz.prog 116 #[.slice (some ⟨g, off, none⟩) n c, .slice (some ⟨gd, 0, none⟩) m cd, .int .u64 q] w fun e w' => ∃ (os' : List Int) (bo cy : Int), e = .returned (.bool (decide (bo = 0))) ∧ 0 ≤ bo ∧ bo ≤ 1 ∧ 0 ≤ cy ∧
   ArrP .u32 34 w' g os' ∧ os'.length = os.length ∧ Dig 4294967296 os' ∧ (∀ j, j < off ∨ off + n ≤ j → os'.getD j 0 = os.getD j 0) ∧ Only g w w' ∧
   (m < n → cy = 0) ∧ win 4294967296 os' off n = win 4294967296 os off n - (q * V 4294967296 ds - cy * 4294967296 ^ n) + bo * 4294967296 ^ n := by
 have HX := Lib.hid hx
 have HD := Lib.hid hd
 have HM := Lib.hid hm
 have HON := Lib.hid hon
 have HO := Lib.hid ho
 have HDS := Lib.hid hds
 have FD : Hid (vf 4294967296 (fun i => ds.getD i 0) n = V 4294967296 ds) := Lib.hid (vf_ext (by omega))
 clear hx hd hm hon ho hds
 go_enter Tryz.func116, Tryz.ntmps116
 go_wp2_with fail
 go_loopg [14, 7, 8] n (fun k u cu bu wr => ∃ (i : Nat) (cy bo : Int) (os' : List Int), u = .int .i64 i ∧ cu = .int .u64 cy ∧ bu = .int .u64 bo ∧ i + k = n ∧ 0 ≤ cy ∧ cy < 4294967296 ∧ 0 ≤ bo ∧ bo ≤ 1 ∧ ArrP .u32 34 wr g os' ∧ os'.length = os.length ∧ Dig 4294967296 os' ∧
  (∀ j, j < off ∨ off + i ≤ j → os'.getD j 0 = os.getD j 0) ∧ Only g w wr ∧ (m < i → cy = 0) ∧ win 4294967296 os' off i = win 4294967296 os off i - (q * vf 4294967296 (fun i => ds.getD i 0) i - cy * 4294967296 ^ i) + bo * 4294967296 ^ i)
 case atStart => exact ⟨0, 0, 0, os, rfl, rfl, rfl, by omega, by omega, by omega, by omega, by omega, HX.out, rfl, HO.out, fun _ _ => rfl, Only.refl _ _, fun _ => rfl, by simp [win, vf]⟩
 case round =>
  obtain ⟨i, cy, bo, os2, rfl, rfl, rfl, hk, hc0, hc1, hb0, hb1, harr, hlo, hdo, hsame, hon, hcz, hv⟩ := hrel
  have HK := Lib.hid hk
  have HARR := Lib.hid harr
  have HLO := Lib.hid hlo
  have HDO := Lib.hid hdo
  have HSAME := Lib.hid hsame
  have HONLY := Lib.hid hon
  have HCZ := Lib.hid hcz
  have HV := Lib.hid hv
  clear hk harr hlo hdo hsame hon hcz hv
  by_cases hi : i < n
  ·have hxr := HDO.out.at (by decide) (off + i)
   have hco := HARR.out.cell (i := off + i) (by rw [HLO.out]; have := HON.out; omega)
   have hfo := HARR.out.frozen (off + i)
   obtain ⟨x, hxx⟩ : ∃ d, os2.getD (off + i) 0 = d := ⟨_, rfl⟩
   rw [hxx] at hco hxr
   have HXX : Hid (os.getD (off + i) 0 = x) := Lib.hid (by rw [← hxx]; exact (HSAME.out _ (.inr (Nat.le_refl _))).symm)
   obtain ⟨hx0, hx1⟩ := hxr
   by_cases him : i < m
   ·have hcd : wr.cell? ⟨gd, i, none⟩ = some (.int .u32 (ds.getD i 0)) := by rw [HONLY.out.cell hg]; exact HD.out i him
    have hdr := HDS.out.at (by decide) i
    obtain ⟨d, hdd⟩ : ∃ d, ds.getD i 0 = d := ⟨_, rfl⟩
    rw [hdd] at hcd hdr
    have HDD := Lib.hid hdd
    obtain ⟨hp0, hp1⟩ := prod_bd (A := 4294967295) (B := 4294967295) hq0 hdr.1 (by omega) (by omega)
    have e1 : IntKind.u64.wrap (q * d) = q * d := IntWalk.u64_in _ (by omega)
    have e2 : IntKind.u64.wrap (cy + q * d) = cy + q * d := IntWalk.u64_in _ (by omega)
    have e3 := mask32 (p := cy + q * d) (by omega) (by omega)
    obtain ⟨tw1, tw2⟩ := take_word (p := cy + q * d) hx0 hx1 hb0 hb1
    have hb1' : -4294967296 ≤ x - (cy + q * d) % 4294967296 - bo := by omega
    clear hxx hdd
    go_wp2_with fail
    go_roundg (gk - 1)
    case measure => have := HK.out; omega
    case rel => exact ⟨i + 1, (cy + q * d) / 4294967296, -((x - (cy + q * d) % 4294967296 - bo) / 4294967296), os2.set (off + i) ((x - (cy + q * d) % 4294967296 - bo) % 4294967296), by go_num, rfl, rfl, by have := HK.out; omega, by omega, by omega, by omega, by omega, HARR.out.set (by rw [HLO.out]; have := HON.out; omega) _, by rw [List.length_set]; exact HLO.out, HDO.out.set _ (by omega) (by omega),
     fun j hj => by rw [getD_set_ne (by omega)]; exact HSAME.out j (by omega), HONLY.out.setCell _ _, fun h => by omega, by
      rw [win_set (by rw [HLO.out]; have := HON.out; omega)]
      exact take_step (d := d) HV.out HXX.out HDD.out rfl rfl⟩
   ·have hdz : ds.getD i 0 = 0 := getD_ge (by rw [HM.out]; omega)
    have HDZ := Lib.hid hdz
    have e3 := mask32 (p := cy) (by omega) (by omega)
    have hcy : cy % 4294967296 = cy := by omega
    obtain ⟨tw1, tw2⟩ := take_word (p := cy) hx0 hx1 hb0 hb1
    rw [hcy] at tw1 tw2 e3
    clear hxx hdz
    go_wp2_with fail
    go_roundg (gk - 1)
    case measure => have := HK.out; omega
    case rel => exact ⟨i + 1, cy / 4294967296, -((x - cy - bo) / 4294967296), os2.set (off + i) ((x - cy - bo) % 4294967296), by go_num, rfl, rfl, by have := HK.out; omega, by omega, by omega, by omega, by omega, HARR.out.set (by rw [HLO.out]; have := HON.out; omega) _, by rw [List.length_set]; exact HLO.out, HDO.out.set _ (by omega) (by omega),
     fun j hj => by rw [getD_set_ne (by omega)]; exact HSAME.out j (by omega), HONLY.out.setCell _ _, fun h => by omega, by
      rw [win_set (by rw [HLO.out]; have := HON.out; omega)]
      exact take_step (d := 0) HV.out HXX.out HDZ.out (by rw [Int.mul_zero, Int.add_zero]) (by omega)⟩
  ·have HIN : Hid (i = n) := Lib.hid (by have := HK.out; omega)
   go_wp2_with fail
   go_ret
   have e := HIN.out
   subst e
   exact ⟨os2, bo, cy, rfl, hb0, hb1, hc0, HARR.out, HLO.out, HDO.out, HSAME.out, HONLY.out, HCZ.out, by rw [HV.out, FD.out]⟩
/-- one place of a sum laid over the first number -/
theorem give_step {B x d cy s : Int} {W : Int} {f g : Nat → Int} {i : Nat} (hv : W = vf B f i + vf B g i - cy * B ^ i) (hx : f i = x) (hd : g i = d) (hs : s = x + cy + d) :
  W + s % B * B ^ i = vf B f (i + 1) + vf B g (i + 1) - s / B * B ^ (i + 1) := by
 have e1 : vf B f (i + 1) = vf B f i + x * B ^ i := by rw [← hx]; rfl
 have e2 : vf B g (i + 1) = vf B g i + d * B ^ i := by rw [← hd]; rfl
 have e3 : s / B * B ^ (i + 1) + s % B * B ^ i = x * B ^ i + cy * B ^ i + d * B ^ i := by
  rw [Int.pow_succ, Int.mul_comm (B ^ i) B, ← Int.mul_assoc, ← Int.add_mul, ← Int.add_mul, ← Int.add_mul]
  congr 1
  rw [Int.mul_comm, ← hs]
  exact Int.mul_ediv_add_emod _ _
 omega

set_option maxHeartbeats 1000000 in
theorem give_any (g gd off n c m cd : Nat) (os ds : List Int) (w : World) (hx : ArrP .u32 34 w g os) (hd : ∀ j, j < m → w.cell? ⟨gd, j, none⟩ = some (.int .u32 (ds.getD j 0))) (hm : ds.length = m) (hg : gd ≠ g)
  (hon : off + n ≤ os.length) (ho : Dig 4294967296 os) (hds : Dig 4294967296 ds) (hn : n ≤ 200000) (hmn : m ≤ n) :
  Calls Tryz.prog 117 #[.slice (some ⟨g, off, none⟩) n c, .slice (some ⟨gd, 0, none⟩) m cd] w fun e w' => ∃ (os' : List Int) (cy : Int), e = .returned (.tuple #[]) ∧ 0 ≤ cy ∧ cy ≤ 1 ∧
   ArrP .u32 34 w' g os' ∧ os'.length = os.length ∧ Dig 4294967296 os' ∧ (∀ j, j < off ∨ off + n ≤ j → os'.getD j 0 = os.getD j 0) ∧ Only g w w' ∧
   win 4294967296 os' off n = win 4294967296 os off n + V 4294967296 ds - cy * 4294967296 ^ n := by
 have HX := Lib.hid hx
 have HD := Lib.hid hd
 have HM := Lib.hid hm
 have HON := Lib.hid hon
 have HO := Lib.hid ho
 have HDS := Lib.hid hds
 have FD : Hid (vf 4294967296 (fun i => ds.getD i 0) n = V 4294967296 ds) := Lib.hid (vf_ext (by omega))
 clear hx hd hm hon ho hds
 go_enter Tryz.func117, Tryz.ntmps117
 go_wp2_with fail
 go_loopg [9, 4] n (fun k u cu wr => ∃ (i : Nat) (cy : Int) (os' : List Int), u = .int .i64 i ∧ cu = .int .u64 cy ∧ i + k = n ∧ 0 ≤ cy ∧ cy ≤ 1 ∧ ArrP .u32 34 wr g os' ∧ os'.length = os.length ∧ Dig 4294967296 os' ∧
  (∀ j, j < off ∨ off + i ≤ j → os'.getD j 0 = os.getD j 0) ∧ Only g w wr ∧ win 4294967296 os' off i = win 4294967296 os off i + vf 4294967296 (fun i => ds.getD i 0) i - cy * 4294967296 ^ i)
 case atStart => exact ⟨0, 0, os, rfl, rfl, by omega, by omega, by omega, HX.out, rfl, HO.out, fun _ _ => rfl, Only.refl _ _, by simp [win, vf]⟩
 case round =>
  obtain ⟨i, cy, os2, rfl, rfl, hk, hc0, hc1, harr, hlo, hdo, hsame, hon, hv⟩ := hrel
  have HK := Lib.hid hk
  have HARR := Lib.hid harr
  have HLO := Lib.hid hlo
  have HDO := Lib.hid hdo
  have HSAME := Lib.hid hsame
  have HONLY := Lib.hid hon
  have HV := Lib.hid hv
  clear hk harr hlo hdo hsame hon hv
  by_cases hi : i < n
  ·have hxr := HDO.out.at (by decide) (off + i)
   have hco := HARR.out.cell (i := off + i) (by rw [HLO.out]; have := HON.out; omega)
   have hfo := HARR.out.frozen (off + i)
   obtain ⟨x, hxx⟩ : ∃ d, os2.getD (off + i) 0 = d := ⟨_, rfl⟩
   rw [hxx] at hco hxr
   have HXX : Hid (os.getD (off + i) 0 = x) := Lib.hid (by rw [← hxx]; exact (HSAME.out _ (.inr (Nat.le_refl _))).symm)
   obtain ⟨hx0, hx1⟩ := hxr
   by_cases him : i < m
   ·have hcd : wr.cell? ⟨gd, i, none⟩ = some (.int .u32 (ds.getD i 0)) := by rw [HONLY.out.cell hg]; exact HD.out i him
    have hdr := HDS.out.at (by decide) i
    obtain ⟨d, hdd⟩ : ∃ d, ds.getD i 0 = d := ⟨_, rfl⟩
    rw [hdd] at hcd hdr
    have HDD := Lib.hid hdd
    obtain ⟨hd0, hd1⟩ := hdr
    clear hxx hdd
    go_wp2_with fail
    go_roundg (gk - 1)
    case measure => have := HK.out; omega
    case rel => exact ⟨i + 1, (x + cy + d) / 4294967296, os2.set (off + i) ((x + cy + d) % 4294967296), by go_num, rfl, by have := HK.out; omega, by omega, by omega, HARR.out.set (by rw [HLO.out]; have := HON.out; omega) _, by rw [List.length_set]; exact HLO.out, HDO.out.set _ (by omega) (by omega),
     fun j hj => by rw [getD_set_ne (by omega)]; exact HSAME.out j (by omega), HONLY.out.setCell _ _, by
      rw [win_set (by rw [HLO.out]; have := HON.out; omega)]
      exact give_step (d := d) HV.out HXX.out HDD.out rfl⟩
   ·have hdz : ds.getD i 0 = 0 := getD_ge (by rw [HM.out]; omega)
    have HDZ := Lib.hid hdz
    clear hxx hdz
    go_wp2_with fail
    go_roundg (gk - 1)
    case measure => have := HK.out; omega
    case rel => exact ⟨i + 1, (x + cy) / 4294967296, os2.set (off + i) ((x + cy) % 4294967296), by go_num, rfl, by have := HK.out; omega, by omega, by omega, HARR.out.set (by rw [HLO.out]; have := HON.out; omega) _, by rw [List.length_set]; exact HLO.out, HDO.out.set _ (by omega) (by omega),
     fun j hj => by rw [getD_set_ne (by omega)]; exact HSAME.out j (by omega), HONLY.out.setCell _ _, by
      rw [win_set (by rw [HLO.out]; have := HON.out; omega)]
      exact give_step (d := 0) HV.out HXX.out HDZ.out (by omega)⟩
  ·have HIN : Hid (i = n) := Lib.hid (by have := HK.out; omega)
   go_wp2_with fail
   go_end0
   have e := HIN.out
   subst e
   exact ⟨os2, cy, rfl, hc0, hc1, HARR.out, HLO.out, HDO.out, HSAME.out, HONLY.out, by rw [HV.out, FD.out]⟩
end Go.Proofs.YtehmompbmnejkaaGreat
/- Contract of package nat's word: one word of a quotient. Conditions: the words are below 2^32; the divisor has two words or more, and its highest is not 0. -/
namespace Go.Proofs.YtehmompbmnejkaaGreat
open Go.RowKit

theorem q_top {Q D W k y R : Int} (hQ : 0 ≤ Q) (hQD : Q * D ≤ W) (hD : k * R ≤ D) (hW : W < (y + 1) * R) (hR : 0 < R) : Q * k ≤ y := by
 have h1 : Q * (k * R) ≤ Q * D := Int.mul_le_mul_of_nonneg_left hD hQ
 rw [← Int.mul_assoc] at h1
 have h2 : Q * k < y + 1 := Int.lt_of_mul_lt_mul_right (a := R) (by omega) (by omega)
 omega
/-- the facts of one word's division: W by D, held against their highest words -/
structure Est (W D top x2 d1 d2 P : Int) : Prop where
 W0 : 0 ≤ W
 x0 : 0 ≤ x2
 x1 : x2 < 4294967296
 e0 : 0 ≤ d2
 e1 : d2 < 4294967296
 d0 : 1 ≤ d1
 P0 : 0 < P
 Wl : (top * 4294967296 + x2) * P ≤ W
 Wu : W < (top * 4294967296 + x2 + 1) * P
 Dl : (d1 * 4294967296 + d2) * P ≤ D
 Du : D < (d1 * 4294967296 + d2 + 1) * P
 lt : W < D * 4294967296
theorem Est.D0 {W D top x2 d1 d2 P : Int} (h : Est W D top x2 d1 d2 P) : 4294967296 * P ≤ D := by
 have h1 := h.Dl
 have h2 : 4294967296 * P ≤ (d1 * 4294967296 + d2) * P := Int.mul_le_mul_of_nonneg_right (by have := h.d0; have := h.e0; omega) (by have := h.P0; omega)
 omega
theorem Est.Dpos {W D top x2 d1 d2 P : Int} (h : Est W D top x2 d1 d2 P) : 0 < D := by
 have h1 := h.D0
 have h2 := h.P0
 omega
theorem Est.QD {W D top x2 d1 d2 P : Int} (h : Est W D top x2 d1 d2 P) : 0 ≤ W / D ∧ W / D * D ≤ W ∧ W < (W / D + 1) * D := by
 have hD := h.Dpos
 refine ⟨Int.ediv_nonneg h.W0 (by omega), Int.ediv_mul_le _ (by omega), ?_⟩
 exact Int.lt_ediv_add_one_mul_self _ hD
theorem Est.start {W D top x2 d1 d2 P : Int} (h : Est W D top x2 d1 d2 P) : W / D ≤ top / d1 := by
 obtain ⟨h1, h2, -⟩ := h.QD
 refine (Int.le_ediv_iff_mul_le (by have := h.d0; omega)).2 (q_top (R := 4294967296 * P) h1 h2 ?_ ?_ (by have := h.P0; omega))
 ·have h3 := h.Dl
  have h4 : d1 * 4294967296 * P ≤ (d1 * 4294967296 + d2) * P := Int.mul_le_mul_of_nonneg_right (by have := h.e0; omega) (by have := h.P0; omega)
  rw [← Int.mul_assoc]; omega
 ·have h3 := h.Wu
  have h4 : (top * 4294967296 + x2 + 1) * P ≤ (top + 1) * 4294967296 * P := Int.mul_le_mul_of_nonneg_right (by have := h.x1; omega) (by have := h.P0; omega)
  rw [← Int.mul_assoc]; omega
theorem Est.below {W D top x2 d1 d2 P : Int} (h : Est W D top x2 d1 d2 P) : W / D < 4294967296 := Int.ediv_lt_of_lt_mul h.Dpos (by rw [Int.mul_comm]; exact h.lt)
/-- a guess too great by the three highest words is too great -/
theorem Est.dec {W D top x2 d1 d2 P q left : Int} (h : Est W D top x2 d1 d2 P) (hq : W / D ≤ q) (ht : q * d1 + left = top) (hgt : left * 4294967296 + x2 < q * d2) : W / D ≤ q - 1 := by
 obtain ⟨h1, h2, -⟩ := h.QD
 have h3 := q_top (k := d1 * 4294967296 + d2) (y := top * 4294967296 + x2) h1 h2 h.Dl h.Wu h.P0
 rcases Int.lt_or_le (W / D) q with h4 | h4
 ·omega
 ·have e : W / D = q := by omega
  rw [e, Int.mul_add, ← Int.mul_assoc] at h3
  omega
/-- a guess that is not too great by the three highest words is too great by one at most -/
theorem Est.near {W D top x2 d1 d2 P q left : Int} (h : Est W D top x2 d1 d2 P) (hq0 : 0 ≤ q) (hq : q < 4294967296) (ht : q * d1 + left = top) (hle : q * d2 ≤ left * 4294967296 + x2) : q ≤ W / D + 1 := by
 have hD := h.Dpos
 have hD0 := h.D0
 have h0 : q * (d1 * 4294967296 + d2) ≤ top * 4294967296 + x2 := by rw [Int.mul_add, ← Int.mul_assoc]; omega
 have h1 : q * D ≤ q * ((d1 * 4294967296 + d2 + 1) * P) := Int.mul_le_mul_of_nonneg_left (by have := h.Du; omega) hq0
 have h2 : q * ((d1 * 4294967296 + d2 + 1) * P) = q * (d1 * 4294967296 + d2) * P + q * P := by rw [← Int.mul_assoc, Int.mul_add q, Int.mul_one, Int.add_mul]
 have h3 : q * (d1 * 4294967296 + d2) * P ≤ (top * 4294967296 + x2) * P := Int.mul_le_mul_of_nonneg_right h0 (by have := h.P0; omega)
 have h4 : q * P ≤ 4294967296 * P := Int.mul_le_mul_of_nonneg_right (by omega) (by have := h.P0; omega)
 have h5 := h.Wl
 have h6 : (q - 1) * D ≤ W := by rw [Int.sub_mul, Int.one_mul]; omega
 have h7 := (Int.le_ediv_iff_mul_le hD).2 h6
 omega
theorem Est.brk {d2 q left x2 : Int} (h0 : 0 ≤ q) (h1 : q < 4294967296) (e0 : 0 ≤ d2) (e1 : d2 < 4294967296) (hl : 4294967296 ≤ left) (hx : 0 ≤ x2) : q * d2 ≤ left * 4294967296 + x2 := by
 have := prod_bd (A := 4294967295) (B := 4294967295) h0 e0 (by omega) (by omega)
 omega
theorem Est.top {W D top x2 d1 d2 P : Int} (h : Est W D top x2 d1 d2 P) : top < (d1 + 1) * 4294967296 := by
 have h1 := h.Wl
 have h2 := h.lt
 have h3 := h.Du
 have h4 : (top * 4294967296 + x2) * P < (d1 * 4294967296 + d2 + 1) * 4294967296 * P := by rw [Int.mul_assoc _ 4294967296 P, Int.mul_comm 4294967296 P, ← Int.mul_assoc]; omega
 have h5 := Int.lt_of_mul_lt_mul_right h4 (by have := h.P0; omega)
 have := h.e1
 have := h.x0
 omega

theorem win_bd {os : List Int} (ho : Dig 4294967296 os) (off n : Nat) : 0 ≤ win 4294967296 os off n ∧ win 4294967296 os off n < 4294967296 ^ n := vf_bd (by decide) n fun i _ => ho.at (by decide) (off + i)

/-- the window's three highest words -/
theorem win3 {os : List Int} (ho : Dig 4294967296 os) (off k : Nat) : ∃ r, 0 ≤ r ∧ r < 4294967296 ^ k ∧
  win 4294967296 os off (k + 3) = ((os.getD (off + (k + 2)) 0 * 4294967296 + os.getD (off + (k + 1)) 0) * 4294967296 + os.getD (off + k) 0) * 4294967296 ^ k + r := by
 refine ⟨win 4294967296 os off k, (win_bd ho off k).1, (win_bd ho off k).2, ?_⟩
 show win 4294967296 os off k + os.getD (off + k) 0 * 4294967296 ^ k + os.getD (off + (k + 1)) 0 * 4294967296 ^ (k + 1) + os.getD (off + (k + 2)) 0 * 4294967296 ^ (k + 2) = _
 rw [Int.pow_succ 4294967296 (k + 1), Int.pow_succ 4294967296 k]
 generalize (4294967296 : Int) ^ k = P
 generalize win 4294967296 os off k = A
 simp only [Int.add_mul, Int.mul_assoc, Int.mul_comm P]
 simp only [← Int.mul_assoc]
 omega
theorem V2 {ds : List Int} {k : Nat} (hd : Dig 4294967296 ds) (hl : ds.length = k + 2) : ∃ r, 0 ≤ r ∧ r < 4294967296 ^ k ∧
  V 4294967296 ds = (ds.getD (k + 1) 0 * 4294967296 + ds.getD k 0) * 4294967296 ^ k + r := by
 have hb := vf_bd (B := 4294967296) (by decide) (f := fun j => ds.getD j 0) k fun i _ => hd.at (by decide) i
 refine ⟨_, hb.1, hb.2, ?_⟩
 unfold V
 rw [hl]
 show vf 4294967296 _ k + ds.getD k 0 * 4294967296 ^ k + ds.getD (k + 1) 0 * 4294967296 ^ (k + 1) = _
 rw [Int.pow_succ 4294967296 k]
 simp only [Int.add_mul, Int.mul_assoc]
 rw [Int.mul_comm (4294967296 ^ k) 4294967296]
 omega
theorem est_of {os ds : List Int} {off k : Nat} (ho : Dig 4294967296 os) (hd : Dig 4294967296 ds) (hl : ds.length = k + 2) (h1 : 1 ≤ ds.getD (k + 1) 0) (hlt : win 4294967296 os off (k + 3) < V 4294967296 ds * 4294967296) :
  Est (win 4294967296 os off (k + 3)) (V 4294967296 ds) (os.getD (off + (k + 2)) 0 * 4294967296 + os.getD (off + (k + 1)) 0) (os.getD (off + k) 0) (ds.getD (k + 1) 0) (ds.getD k 0) (4294967296 ^ k) := by
 obtain ⟨r, r0, r1, hW⟩ := win3 ho off k
 obtain ⟨s, s0, s1, hD⟩ := V2 hd hl
 have hx := ho.at (by decide) (off + k)
 have he := hd.at (by decide) k
 refine ⟨(win_bd ho off _).1, hx.1, hx.2, he.1, he.2, h1, Int.pow_pos (by decide), by omega, ?_, by omega, ?_, hlt⟩
 ·rw [hW, Int.add_mul _ 1, Int.one_mul]; omega
 ·rw [hD, Int.add_mul _ 1, Int.one_mul]; omega
end Go.Proofs.YtehmompbmnejkaaGreat
/- Contract of package nat's word. Conditions: the words are below 2^32; the divisor has two words or more, and its highest is not 0. -/
namespace Go.Proofs.YtehmompbmnejkaaGreat
open Go.RowKit

theorem word_take (g gd off k c cd : Nat) (os ds : List Int) (q : Int) (w : World) (W D : Int) {top x2 d1 d2 P : Int} (hx : ArrP .u32 34 w g os) (hd : ∀ j, j < k + 2 → w.cell? ⟨gd, j, none⟩ = some (.int .u32 (ds.getD j 0))) (hm : ds.length = k + 2) (hg : gd ≠ g)
  (hon : off + (k + 3) ≤ os.length) (ho : Dig 4294967296 os) (hds : Dig 4294967296 ds) (hn : k ≤ 100000) (hW : win 4294967296 os off (k + 3) = W) (hD : V 4294967296 ds = D) (he : Est W D top x2 d1 d2 P) (hq0 : 0 ≤ q) (hq1 : q < 4294967296) (hQ : W / D ≤ q) (hN : q ≤ W / D + 1) :
  Calls Tryz.prog 116 #[.slice (some ⟨g, off, none⟩) (k + 3) c, .slice (some ⟨gd, 0, none⟩) (k + 2) cd, .int .u64 q] w fun e w' => ∃ (os' : List Int) (ok : Bool), e = .returned (.bool ok) ∧
   ArrP .u32 34 w' g os' ∧ os'.length = os.length ∧ Dig 4294967296 os' ∧ (∀ j, j < off ∨ off + (k + 3) ≤ j → os'.getD j 0 = os.getD j 0) ∧ Only g w w' ∧
   (ok = true → q = W / D ∧ win 4294967296 os' off (k + 3) = W % D) ∧ (ok = false → q = W / D + 1 ∧ win 4294967296 os' off (k + 3) = W - q * D + 4294967296 ^ (k + 3)) := by
 refine (take_any g gd off (k + 3) c (k + 2) cd os ds q w hx hd hm hg hon ho hds (by omega) (by omega) hq0 hq1).mono ?_
 rintro e w' ⟨os', bo, cy, rfl, hb0, hb1, -, harr, hlo, hdo, hsame, honly, hcz, hv⟩
 refine ⟨os', _, rfl, harr, hlo, hdo, hsame, honly, ?_, ?_⟩
 all_goals
  rw [hcz (by omega), hW, hD, Int.zero_mul, Int.sub_zero] at hv
  obtain ⟨h0, h1⟩ := win_bd hdo off (k + 3)
  obtain ⟨hQ0, hQ1, hQ2⟩ := he.QD
  have hDp := he.Dpos
  have hem := Int.mul_ediv_add_emod W D
  rw [Int.mul_comm] at hem
 ·intro hok
  have hbo : bo = 0 := by simpa using hok
  rw [hbo, Int.zero_mul, Int.add_zero] at hv
  have h2 : q ≤ W / D := (Int.le_ediv_iff_mul_le hDp).2 (by omega)
  have h3 : q = W / D := by omega
  refine ⟨h3, ?_⟩
  rw [hv, h3]
  omega
 ·intro hok
  have hbo : bo = 1 := by
   have : ¬ (bo = 0) := by simpa using hok
   omega
  rw [hbo, Int.one_mul] at hv
  refine ⟨?_, hv⟩
  rcases Int.lt_or_le (W / D) q with h2 | h2
  ·omega
  ·have h3 : q = W / D := by omega
   rw [h3] at hv
   omega

theorem word_give (g gd off k c cd : Nat) (os ds : List Int) (w : World) (W D q : Int) {top x2 d1 d2 P : Int} (hx : ArrP .u32 34 w g os) (hd : ∀ j, j < k + 2 → w.cell? ⟨gd, j, none⟩ = some (.int .u32 (ds.getD j 0))) (hm : ds.length = k + 2) (hg : gd ≠ g)
  (hon : off + (k + 3) ≤ os.length) (ho : Dig 4294967296 os) (hds : Dig 4294967296 ds) (hn : k ≤ 100000) (hD : V 4294967296 ds = D) (he : Est W D top x2 d1 d2 P) (hq : q = W / D + 1) (hW : win 4294967296 os off (k + 3) = W - q * D + 4294967296 ^ (k + 3)) :
  Calls Tryz.prog 117 #[.slice (some ⟨g, off, none⟩) (k + 3) c, .slice (some ⟨gd, 0, none⟩) (k + 2) cd] w fun e w' => ∃ (os' : List Int), e = .returned (.tuple #[]) ∧
   ArrP .u32 34 w' g os' ∧ os'.length = os.length ∧ Dig 4294967296 os' ∧ (∀ j, j < off ∨ off + (k + 3) ≤ j → os'.getD j 0 = os.getD j 0) ∧ Only g w w' ∧ win 4294967296 os' off (k + 3) = W % D := by
 refine (give_any g gd off (k + 3) c (k + 2) cd os ds w hx hd hm hg hon ho hds (by omega) (by omega)).mono ?_
 rintro e w' ⟨os', cy, rfl, hc0, hc1, harr, hlo, hdo, hsame, honly, hv⟩
 refine ⟨os', rfl, harr, hlo, hdo, hsame, honly, ?_⟩
 rw [hW, hD, hq, Int.add_mul, Int.one_mul] at hv
 obtain ⟨h0, h1⟩ := win_bd hdo off (k + 3)
 obtain ⟨hQ0, hQ1, hQ2⟩ := he.QD
 have hem := Int.mul_ediv_add_emod W D
 rw [Int.mul_comm] at hem
 rcases (by omega : cy = 0 ∨ cy = 1) with rfl | rfl
 ·rw [Int.zero_mul] at hv; omega
 ·rw [Int.one_mul] at hv; omega

set_option maxRecDepth 100000 in
set_option maxHeartbeats 4000000 in
theorem word_any (g gd off k c cd : Nat) (os ds : List Int) (w : World) (hx : ArrP .u32 34 w g os) (hd : ∀ j, j < k + 2 → w.cell? ⟨gd, j, none⟩ = some (.int .u32 (ds.getD j 0))) (hm : ds.length = k + 2) (hg : gd ≠ g)
  (hon : off + (k + 3) ≤ os.length) (ho : Dig 4294967296 os) (hds : Dig 4294967296 ds) (hn : k ≤ 100000) (h1 : 1 ≤ ds.getD (k + 1) 0) (hlt : win 4294967296 os off (k + 3) < V 4294967296 ds * 4294967296) :
  Calls Tryz.prog 112 #[.slice (some ⟨g, off, none⟩) (k + 3) c, .slice (some ⟨gd, 0, none⟩) (k + 2) cd] w fun e w' => ∃ (os' : List Int), e = .returned (.int .u32 (win 4294967296 os off (k + 3) / V 4294967296 ds)) ∧
   ArrP .u32 34 w' g os' ∧ os'.length = os.length ∧ Dig 4294967296 os' ∧ (∀ j, j < off ∨ off + (k + 3) ≤ j → os'.getD j 0 = os.getD j 0) ∧ Only g w w' ∧
   win 4294967296 os' off (k + 3) = win 4294967296 os off (k + 3) % V 4294967296 ds := by
 have HEST := Lib.hid (est_of ho hds hm h1 hlt)
 have c1 := hx.cell (i := off + (k + 2)) (by omega)
 have c2 := hx.cell (i := off + (k + 1)) (by omega)
 have c4 := hd (k + 1) (by omega)
 have r1 := ho.at (by decide) (off + (k + 2))
 have r2 := ho.at (by decide) (off + (k + 1))
 have r3 := ho.at (by decide) (off + k)
 have r4 := hds.at (by decide) (k + 1)
 have r5 := hds.at (by decide) k
 have HX := Lib.hid hx
 have HD := Lib.hid hd
 have HM := Lib.hid hm
 have HON := Lib.hid hon
 have HO := Lib.hid ho
 have HDS := Lib.hid hds
 have hd5 := hd k (by omega)
 have hx3 := hx.cell (i := off + k) (by omega)
 obtain ⟨xa, hxa⟩ : ∃ d, os.getD (off + (k + 2)) 0 = d := ⟨_, rfl⟩
 obtain ⟨xb, hxb⟩ : ∃ d, os.getD (off + (k + 1)) 0 = d := ⟨_, rfl⟩
 obtain ⟨x2, hx2⟩ : ∃ d, os.getD (off + k) 0 = d := ⟨_, rfl⟩
 obtain ⟨d1, hd1⟩ : ∃ d, ds.getD (k + 1) 0 = d := ⟨_, rfl⟩
 obtain ⟨d2, hd2⟩ : ∃ d, ds.getD k 0 = d := ⟨_, rfl⟩
 rw [hxa, hxb, hx2, hd1, hd2] at HEST
 rw [hxa] at c1 r1
 rw [hxb] at c2 r2
 rw [hx2] at hx3 r3
 rw [hd1] at c4 r4 h1
 rw [hd2] at hd5 r5
 have HX3 := Lib.hid hx3
 have HD5 := Lib.hid hd5
 have HD4 := Lib.hid c4
 obtain ⟨W, hW⟩ : ∃ W, win 4294967296 os off (k + 3) = W := ⟨_, rfl⟩
 obtain ⟨D, hDD⟩ : ∃ D, V 4294967296 ds = D := ⟨_, rfl⟩
 rw [hW, hDD] at HEST ⊢
 have HW := Lib.hid hW
 have HDD := Lib.hid hDD
 clear hx hd hm hon ho hds hlt hxa hxb hx2 hd1 hd2 hW hDD hx3 hd5
 obtain ⟨a0, a1⟩ := r1
 obtain ⟨b0, b1⟩ := r2
 obtain ⟨x0, x1⟩ := r3
 obtain ⟨p0, p1⟩ := r4
 obtain ⟨s0, s1⟩ := r5
 have e1 : IntKind.u64.wrap (xa * 4294967296) = xa * 4294967296 := IntWalk.u64_in _ (by omega)
 have e2 := hi_lo a0 a1 b0 b1
 have hdq : (d1 == 0) = false := by simp; omega
 go_enter Tryz.func112, Tryz.ntmps112
 go_wp2_with fail
 go_quiet (fail)
 go_wp2_with fail
 clear e1 e2
 obtain ⟨T, hT⟩ : ∃ T, xa * 4294967296 + xb = T := ⟨_, rfl⟩
 have t0 : 0 ≤ T := by omega
 have t1 : T ≤ 18446744073709551615 := by omega
 rw [hT] at HEST ⊢
 have HTOP := Lib.hid HEST.out.top
 have HQ0 := Lib.hid HEST.out.QD.1
 have HQB := Lib.hid HEST.out.below
 have q0 : 0 ≤ T / d1 := Int.ediv_nonneg t0 (by omega)
 have q1 : T / d1 ≤ T := Int.ediv_le_self _ t0
 have HTQ : Hid (T / d1 * d1 + T % d1 = T) := Lib.hid (by rw [Int.mul_comm]; exact Int.mul_ediv_add_emod _ _)
 have l0 : 0 ≤ T % d1 := Int.emod_nonneg _ (by omega)
 have l1 : T % d1 < d1 := Int.emod_lt_of_pos _ (by omega)
 go_loopg [7, 8] (T / d1).toNat (fun k2 qu lu wr => ∃ (q left : Int), qu = .int .u64 q ∧ lu = .int .u64 left ∧ q ≤ k2 ∧ 0 ≤ q ∧ q ≤ 18446744073709551615 ∧ 0 ≤ left ∧ left < 4294967296 ∧ q * d1 + left = T ∧ W / D ≤ q ∧ ArrP .u32 34 wr g os ∧ Only g w wr)
 case atStart => exact ⟨_, _, rfl, rfl, by omega, q0, by omega, l0, by omega, HTQ.out, HEST.out.start, HX.out, (Only.refl _ _).dn _⟩
 case round =>
  obtain ⟨q, left, rfl, rfl, hk, hq0, hq1, hl0, hl1, hv, hQ, harr, honly⟩ := hrel
  clear c1 c2 hT q0 q1 l0 l1
  have c4 : wr.cell? ⟨gd, k + 1, none⟩ = some (.int .u32 d1) := by rw [honly.cell hg]; exact HD4.out
  have c5 : wr.cell? ⟨gd, k, none⟩ = some (.int .u32 d2) := by rw [honly.cell hg]; exact HD5.out
  have c3 : wr.cell? ⟨g, off + k, none⟩ = some (.int .u32 x2) := by
   have h := harr.cell (i := off + k) (by have := HON.out; omega)
   rw [h, ← (HX.out.cell (i := off + k) (by have := HON.out; omega)).symm.trans HX3.out |> Option.some.inj]
  have HQ := Lib.hid hQ
  have HV := Lib.hid hv
  have HARR := Lib.hid harr
  have HONLY := Lib.hid honly
  clear hQ hv harr honly
  by_cases hqB : 4294967296 ≤ q
  ·have hb1 : decide (q ≥ 4294967296) = true := by simp; omega
   have hdec : Hid (W / D ≤ q - 1) := Lib.hid (by have := HQB.out; omega)
   have hqp : 1 ≤ q := by have := hdec.out; have := HQ0.out; omega
   have e3 : IntKind.u64.wrap (q - 1) = q - 1 := IntWalk.u64_in _ (by omega)
   have hv2 : Hid ((q - 1) * d1 + (left + d1) = T) := Lib.hid (by rw [Int.sub_mul, Int.one_mul]; have := HV.out; omega)
   by_cases hbr : 4294967296 ≤ left + d1
   ·have hqs : q - 1 < 4294967296 := by
     have h2 := hv2.out
     have h3 := HTOP.out
     rw [Int.add_mul, Int.one_mul] at h3
     have h4 : (q - 1) * d1 < 4294967296 * d1 := by omega
     exact Int.lt_of_mul_lt_mul_right h4 (by omega)
    have HN := Lib.hid (HEST.out.near (q := q - 1) (by omega) hqs hv2.out (Est.brk (by omega) hqs s0 s1 hbr x0))
    go_wp2_with fail
    go_quiet (fail)
    go_wp2_with fail
    have hqp0 : 0 ≤ q - 1 := by omega
    generalize hqe : q - 1 = q' at *
    clear hqe
    have HTK := Lib.hid (word_take g gd off k c cd os ds (q') (wr.drewN nq) W D (HARR.out) (fun j hj => by rw [(HONLY.out.dn nq).cell hg]; exact HD.out j hj) HM.out hg HON.out HO.out HDS.out hn HW.out HDD.out HEST.out (by omega) (by omega) hdec.out HN.out)
    go_wp2_with fail
    refine HTK.out.mono ?_; rintro e w1 ⟨os1, ok, rfl, harr1, hlo1, hdo1, hsame1, honly1, hok1, hok2⟩
    have HS1 := Lib.hid hsame1
    have HO1 := Lib.hid ((HONLY.out.dn nq).trans honly1)
    have HL1 := Lib.hid hlo1
    have HD1 := Lib.hid hdo1
    have HA1 := Lib.hid harr1
    cases ok with
    | true =>
     obtain ⟨hqq, hww⟩ := hok1 rfl
     have HQQ := Lib.hid hqq
     have HWW := Lib.hid hww
     have hqm : (q') % 4294967296 = q' := by omega
     clear hsame1 hlo1 hdo1 harr1 hok1 hok2 hqq hww honly1
     go_wp2_with fail
     go_ret
     exact ⟨os1, ret_int (by rw [← HQQ.out]), HA1.out, HL1.out, HD1.out, HS1.out, HO1.out, HWW.out⟩
    | false =>
     obtain ⟨hqq, hww⟩ := hok2 rfl
     have HQQ := Lib.hid hqq
     have hq1 : 1 ≤ q' := by have := HQ0.out; omega
     have HGV := Lib.hid (word_give g gd off k c cd os1 ds w1 W D (q') harr1 (fun j hj => by rw [HO1.out.cell hg]; exact HD.out j hj) HM.out hg (by rw [hlo1]; exact HON.out) hdo1 HDS.out hn HDD.out HEST.out hqq hww)
     have e9 : IntKind.u64.wrap (q' - 1) = q' - 1 := IntWalk.u64_in _ (by omega)
     have hqm : (q' - 1) % 4294967296 = q' - 1 := by omega
     clear hsame1 hlo1 hdo1 harr1 hok1 hok2 hqq hww honly1
     go_wp2_with fail
     refine HGV.out.mono ?_; rintro e w2 ⟨os2, rfl, harr2, hlo2, hdo2, hsame2, honly2, hww2⟩
     have HS2 := Lib.hid hsame2
     have HO2 := Lib.hid (HO1.out.trans honly2)
     have HL2 := Lib.hid hlo2
     have HD2 := Lib.hid hdo2
     have HA2 := Lib.hid harr2
     have HW2 := Lib.hid hww2
     clear hsame2 hlo2 hdo2 harr2 honly2 hww2
     go_wp2_with fail
     go_ret
     exact ⟨os2, ret_int (by have := HQQ.out; omega), HA2.out, HL2.out.trans HL1.out, HD2.out, fun j hj => (HS2.out j hj).trans (HS1.out j hj), HO2.out, HW2.out⟩
   ·go_wp2_with fail
    go_quiet (fail)
    go_wp2_with fail
    go_roundg (gk - 1)
    case measure => omega
    case rel => exact ⟨q - 1, left + d1, rfl, rfl, by omega, by omega, by omega, by omega, by omega, hv2.out, hdec.out, HARR.out, HONLY.out.dn _⟩
  ·have hb1 : decide (q ≥ 4294967296) = false := by simp; omega
   obtain ⟨z0, z1⟩ := prod_bd (A := 4294967295) (B := 4294967295) hq0 s0 (by omega) (by omega)
   have e4 : IntKind.u64.wrap (q * d2) = q * d2 := IntWalk.u64_in _ (by omega)
   have e5 : IntKind.u64.wrap (left * 4294967296) = left * 4294967296 := IntWalk.u64_in _ (by omega)
   have e6 := hi_lo hl0 hl1 x0 x1
   by_cases hgt : left * 4294967296 + x2 < q * d2
   ·have hb2 : decide (q * d2 > left * 4294967296 + x2) = true := by simp; omega
    have hdec : Hid (W / D ≤ q - 1) := Lib.hid (HEST.out.dec HQ.out HV.out hgt)
    have hqp : 1 ≤ q := by have := hdec.out; have := HQ0.out; omega
    have e3 : IntKind.u64.wrap (q - 1) = q - 1 := IntWalk.u64_in _ (by omega)
    have hv2 : Hid ((q - 1) * d1 + (left + d1) = T) := Lib.hid (by rw [Int.sub_mul, Int.one_mul]; have := HV.out; omega)
    by_cases hbr : 4294967296 ≤ left + d1
    ·have hqs : q - 1 < 4294967296 := by
      have h2 := hv2.out
      have h3 := HTOP.out
      rw [Int.add_mul, Int.one_mul] at h3
      have h4 : (q - 1) * d1 < 4294967296 * d1 := by omega
      exact Int.lt_of_mul_lt_mul_right h4 (by omega)
     have HN := Lib.hid (HEST.out.near (q := q - 1) (by omega) hqs hv2.out (Est.brk (by omega) hqs s0 s1 hbr x0))
     go_wp2_with fail
     go_quiet (fail)
     go_wp2_with fail
     have hqp0 : 0 ≤ q - 1 := by omega
     generalize hqe : q - 1 = q' at *
     clear hqe
     have HTK := Lib.hid (word_take g gd off k c cd os ds (q') (wr.drewN nq) W D (HARR.out) (fun j hj => by rw [(HONLY.out.dn nq).cell hg]; exact HD.out j hj) HM.out hg HON.out HO.out HDS.out hn HW.out HDD.out HEST.out (by omega) (by omega) hdec.out HN.out)
     go_wp2_with fail
     refine HTK.out.mono ?_; rintro e w1 ⟨os1, ok, rfl, harr1, hlo1, hdo1, hsame1, honly1, hok1, hok2⟩
     have HS1 := Lib.hid hsame1
     have HO1 := Lib.hid ((HONLY.out.dn nq).trans honly1)
     have HL1 := Lib.hid hlo1
     have HD1 := Lib.hid hdo1
     have HA1 := Lib.hid harr1
     cases ok with
     | true =>
      obtain ⟨hqq, hww⟩ := hok1 rfl
      have HQQ := Lib.hid hqq
      have HWW := Lib.hid hww
      have hqm : (q') % 4294967296 = q' := by omega
      clear hsame1 hlo1 hdo1 harr1 hok1 hok2 hqq hww honly1
      go_wp2_with fail
      go_ret
      exact ⟨os1, ret_int (by rw [← HQQ.out]), HA1.out, HL1.out, HD1.out, HS1.out, HO1.out, HWW.out⟩
     | false =>
      obtain ⟨hqq, hww⟩ := hok2 rfl
      have HQQ := Lib.hid hqq
      have hq1 : 1 ≤ q' := by have := HQ0.out; omega
      have HGV := Lib.hid (word_give g gd off k c cd os1 ds w1 W D (q') harr1 (fun j hj => by rw [HO1.out.cell hg]; exact HD.out j hj) HM.out hg (by rw [hlo1]; exact HON.out) hdo1 HDS.out hn HDD.out HEST.out hqq hww)
      have e9 : IntKind.u64.wrap (q' - 1) = q' - 1 := IntWalk.u64_in _ (by omega)
      have hqm : (q' - 1) % 4294967296 = q' - 1 := by omega
      clear hsame1 hlo1 hdo1 harr1 hok1 hok2 hqq hww honly1
      go_wp2_with fail
      refine HGV.out.mono ?_; rintro e w2 ⟨os2, rfl, harr2, hlo2, hdo2, hsame2, honly2, hww2⟩
      have HS2 := Lib.hid hsame2
      have HO2 := Lib.hid (HO1.out.trans honly2)
      have HL2 := Lib.hid hlo2
      have HD2 := Lib.hid hdo2
      have HA2 := Lib.hid harr2
      have HW2 := Lib.hid hww2
      clear hsame2 hlo2 hdo2 harr2 honly2 hww2
      go_wp2_with fail
      go_ret
      exact ⟨os2, ret_int (by have := HQQ.out; omega), HA2.out, HL2.out.trans HL1.out, HD2.out, fun j hj => (HS2.out j hj).trans (HS1.out j hj), HO2.out, HW2.out⟩
    ·go_wp2_with fail
     go_quiet (fail)
     go_wp2_with fail
     go_roundg (gk - 1)
     case measure => omega
     case rel => exact ⟨q - 1, left + d1, rfl, rfl, by omega, by omega, by omega, by omega, by omega, hv2.out, hdec.out, HARR.out, HONLY.out.dn _⟩
   ·have hb2 : decide (q * d2 > left * 4294967296 + x2) = false := by simp; omega
    have HN := Lib.hid (HEST.out.near hq0 (by omega) HV.out (by omega))
    go_wp2_with fail
    go_quiet (fail)
    go_wp2_with fail
    have HTK := Lib.hid (word_take g gd off k c cd os ds (q) (wr.drewN nq) W D (HARR.out) (fun j hj => by rw [(HONLY.out.dn nq).cell hg]; exact HD.out j hj) HM.out hg HON.out HO.out HDS.out hn HW.out HDD.out HEST.out hq0 (by omega) HQ.out HN.out)
    go_wp2_with fail
    refine HTK.out.mono ?_; rintro e w1 ⟨os1, ok, rfl, harr1, hlo1, hdo1, hsame1, honly1, hok1, hok2⟩
    have HS1 := Lib.hid hsame1
    have HO1 := Lib.hid ((HONLY.out.dn nq).trans honly1)
    have HL1 := Lib.hid hlo1
    have HD1 := Lib.hid hdo1
    have HA1 := Lib.hid harr1
    cases ok with
    | true =>
     obtain ⟨hqq, hww⟩ := hok1 rfl
     have HQQ := Lib.hid hqq
     have HWW := Lib.hid hww
     have hqm : (q) % 4294967296 = q := by omega
     clear hsame1 hlo1 hdo1 harr1 hok1 hok2 hqq hww honly1
     go_wp2_with fail
     go_ret
     exact ⟨os1, ret_int (by rw [← HQQ.out]), HA1.out, HL1.out, HD1.out, HS1.out, HO1.out, HWW.out⟩
    | false =>
     obtain ⟨hqq, hww⟩ := hok2 rfl
     have HQQ := Lib.hid hqq
     have hq1 : 1 ≤ q := by have := HQ0.out; omega
     have HGV := Lib.hid (word_give g gd off k c cd os1 ds w1 W D (q) harr1 (fun j hj => by rw [HO1.out.cell hg]; exact HD.out j hj) HM.out hg (by rw [hlo1]; exact HON.out) hdo1 HDS.out hn HDD.out HEST.out hqq hww)
     have e9 : IntKind.u64.wrap (q - 1) = q - 1 := IntWalk.u64_in _ (by omega)
     have hqm : (q - 1) % 4294967296 = q - 1 := by omega
     clear hsame1 hlo1 hdo1 harr1 hok1 hok2 hqq hww honly1
     go_wp2_with fail
     refine HGV.out.mono ?_; rintro e w2 ⟨os2, rfl, harr2, hlo2, hdo2, hsame2, honly2, hww2⟩
     have HS2 := Lib.hid hsame2
     have HO2 := Lib.hid (HO1.out.trans honly2)
     have HL2 := Lib.hid hlo2
     have HD2 := Lib.hid hdo2
     have HA2 := Lib.hid harr2
     have HW2 := Lib.hid hww2
     clear hsame2 hlo2 hdo2 harr2 honly2 hww2
     go_wp2_with fail
     go_ret
     exact ⟨os2, ret_int (by have := HQQ.out; omega), HA2.out, HL2.out.trans HL1.out, HD2.out, fun j hj => (HS2.out j hj).trans (HS1.out j hj), HO2.out, HW2.out⟩
end Go.Proofs.YtehmompbmnejkaaGreat
/- Contract of package nat's Shr. Conditions: the words are below 2^32; at most 100000 of them. Any shift. -/
namespace Go.Proofs.YtehmompbmnejkaaGreat
open Go.RowKit

theorem vf_split {B : Int} (f : Nat → Int) (k : Nat) : ∀ n, vf B f (k + n) = vf B f k + B ^ k * vf B (fun j => f (k + j)) n
 | 0 => by simp [vf]
 | n + 1 => by
  have e1 : vf B f (k + (n + 1)) = vf B f (k + n) + f (k + n) * B ^ (k + n) := rfl
  have e2 : vf B (fun j => f (k + j)) (n + 1) = vf B (fun j => f (k + j)) n + f (k + n) * B ^ n := rfl
  rw [e1, e2, vf_split f k n, Int.mul_add, Int.pow_add, ← Int.mul_assoc (f (k + n)), Int.mul_comm (f (k + n)), Int.mul_assoc, ← Int.add_assoc]
/-- the places from k on are the value by a power of the base -/
theorem vf_div {B : Int} (hB : 0 < B) {f : Nat → Int} (hf : ∀ i, 0 ≤ f i ∧ f i < B) (k n : Nat) : vf B (fun j => f (k + j)) n = vf B f (k + n) / B ^ k := by
 obtain ⟨h0, h1⟩ := vf_bd hB k fun i _ => hf i
 have hp : 0 < B ^ k := Int.pow_pos hB
 rw [vf_split, Int.add_mul_ediv_left _ _ (by omega), Int.ediv_eq_zero_of_lt h0 h1, Int.zero_add]

/-- one place of a shift down -/
theorem shr_step {B P R : Int} (hP : 0 < P) (hR : 0 < R) (hB : P * R = B) {os : List Int} {y : Nat → Int} {i : Nat} (hi : i < os.length) (hz : os.getD i 0 = 0) (hy : ∀ j, 0 ≤ y j ∧ y j < B)
  (hv : V B os + y i / P * B ^ i = vf B y (i + 1) / P) :
  V B (os.set i ((y i + y (i + 1) * B) / P % B)) + y (i + 1) / P * B ^ (i + 1) = vf B y (i + 2) / P := by
 have e0 : vf B y (i + 2) = vf B y (i + 1) + y (i + 1) * R * B ^ i * P := by
  show vf B y (i + 1) + y (i + 1) * B ^ (i + 1) = _
  rw [Int.pow_succ, ← hB, Int.mul_assoc _ _ P, Int.mul_assoc, ← Int.mul_assoc R, Int.mul_comm R, Int.mul_assoc, Int.mul_comm R, ← Int.mul_assoc _ P R]
 have e1 : vf B y (i + 2) / P = vf B y (i + 1) / P + y (i + 1) * R * B ^ i := by rw [e0, Int.add_mul_ediv_right _ _ (by omega)]
 have e2 : (y i + y (i + 1) * B) / P = y i / P + y (i + 1) * R := by
  rw [← hB, show y (i + 1) * (P * R) = y (i + 1) * R * P from by rw [Int.mul_assoc, Int.mul_comm P], Int.add_mul_ediv_right _ _ (by omega)]
 have e3 : (y i / P + y (i + 1) * R) / B = y (i + 1) / P := by
  have h0 : 0 ≤ y i / P := Int.ediv_nonneg (hy i).1 (by omega)
  have h1 : y i / P < R := Int.ediv_lt_of_lt_mul hP (by rw [Int.mul_comm, hB]; exact (hy i).2)
  rw [← hB, Int.mul_comm P, ← Int.ediv_ediv_of_nonneg (by omega), Int.add_mul_ediv_right _ _ (by omega), Int.ediv_eq_zero_of_lt h0 h1, Int.zero_add]
 rw [V_set hi, hz, Int.sub_zero, e1, ← hv, e2]
 have e4 := Int.emod_add_mul_ediv (y i / P + y (i + 1) * R) B
 rw [e3] at e4
 have e5 : (y i / P + y (i + 1) * R) % B * B ^ i + y (i + 1) / P * B ^ (i + 1) = (y i / P + y (i + 1) * R) * B ^ i := by
  rw [Int.pow_succ, Int.mul_comm (B ^ i) B, ← Int.mul_assoc, ← Int.add_mul]
  congr 1
  rw [Int.mul_comm (y (i + 1) / P)]
  exact e4
 rw [Int.add_mul] at e5
 omega
theorem pow_ks {N k s : Nat} (h : N = 32 * k + s) : (2 : Int) ^ N = 4294967296 ^ k * 2 ^ s := by
 rw [h, Int.pow_add, Int.pow_mul]; rfl
theorem RetNat.nil {w : World} {z : Int} (hz : z = 0) : RetNat w z (.returned (.slice none 0 0)) w :=
 ⟨none, 0, 0, rfl, ⟨[], RowK.nil, Dig.nil, .inl rfl, hz.symm⟩, Below.refl _ _, Fresh.nil⟩
theorem shr_nil {w : World} {X : Int} {N k s n : Nat} (h0 : 0 ≤ X) (h1 : X < 4294967296 ^ n) (hks : N = 32 * k + s) (hnk : n ≤ k) : RetNat w (X / 2 ^ N) (.returned (.slice none 0 0)) w := by
 refine RetNat.nil (Int.ediv_eq_zero_of_lt h0 ?_)
 rw [pow_ks hks]
 have h2 : (4294967296 : Int) ^ n ≤ 4294967296 ^ k := ipow_le (by decide) hnk
 have h3 : (1 : Int) ≤ 2 ^ s := Int.pow_pos (by decide)
 have h4 : (4294967296 : Int) ^ k * 1 ≤ 4294967296 ^ k * 2 ^ s := Int.mul_le_mul_of_nonneg_left h3 (Int.le_of_lt (Int.pow_pos (by decide)))
 omega
theorem shr_at {xs os : List Int} {k s i : Nat} {x y v : Int} (hx : Dig 4294967296 xs) (hs : s ≤ 31) (hi : i < os.length) (hz : os.getD i 0 = 0)
  (hv : V 4294967296 os + xs.getD (k + i) 0 / 2 ^ s * 4294967296 ^ i = vf 4294967296 (fun j => xs.getD (k + j) 0) (i + 1) / 2 ^ s) (e1 : xs.getD (k + i) 0 = x) (e2 : xs.getD (k + i + 1) 0 = y) (e3 : v = x + y * 4294967296) :
  V 4294967296 (os.set i (v / 2 ^ s % 4294967296)) + xs.getD (k + (i + 1)) 0 / 2 ^ s * 4294967296 ^ (i + 1) = vf 4294967296 (fun j => xs.getD (k + j) 0) (i + 1 + 1) / 2 ^ s := by
 obtain ⟨R, hR⟩ := pow_split (show s ≤ 32 by omega)
 have hp : (0 : Int) < 2 ^ s := Int.pow_pos (by decide)
 have hR0 : 0 < R := by
  rcases Int.lt_or_le 0 R with h | h
  ·exact h
  ·have := Int.mul_nonpos_of_nonneg_of_nonpos (Int.le_of_lt hp) h
   omega
 have h := shr_step hp hR0 hR hi hz (y := fun j => xs.getD (k + j) 0) (fun j => hx.at (by decide) (k + j)) hv
 rw [e3, ← e1, ← e2]
 exact h
theorem shr_end {xs os : List Int} {X : Int} {N k s n i : Nat} (hx : Dig 4294967296 xs) (hks : N = 32 * k + s) (hkn : k ≤ n) (hi : i = n - k) (hf : vf 4294967296 (fun j => xs.getD j 0) n = X) (hz : xs.getD n 0 = 0)
  (hv : V 4294967296 os + xs.getD (k + i) 0 / 2 ^ s * 4294967296 ^ i = vf 4294967296 (fun j => xs.getD (k + j) 0) (i + 1) / 2 ^ s) : V 4294967296 os = X / 2 ^ N := by
 have e : k + i = n := by omega
 have e1 : vf 4294967296 (fun j => xs.getD (k + j) 0) (i + 1) = vf 4294967296 (fun j => xs.getD (k + j) 0) i + xs.getD (k + i) 0 * 4294967296 ^ i := rfl
 rw [e1, e, hz, vf_div (by decide) (fun j => hx.at (by decide) j) k i, e, hf, Int.zero_mul, Int.add_zero] at hv
 rw [pow_ks hks, ← Int.ediv_ediv_of_nonneg (Int.le_of_lt (Int.pow_pos (by decide))), ← hv]
 simp

set_option maxHeartbeats 1000000 in
theorem shr_any (a : Option Addr) (n0 c : Nat) (nn : Int) (N k s : Nat) (xs : List Int) (w : World) (ha : RowK .u32 w a n0 c xs) (hx : Dig 4294967296 xs) (hn0 : n0 ≤ 100000) (hN : nn.toNat = N) (hks : N = 32 * k + s) (hs : s ≤ 31) (hnn : nn ≤ 9223372036854775807) :
  Calls Tryz.prog 98 #[.slice a n0 c, .int .i64 nn] w (RetNat w (V 4294967296 xs / 2 ^ N)) := by
 have HA := Lib.hid ha
 have HX := Lib.hid hx
 have SA := Lib.hid (size_any a n0 c xs w ha)
 have hn : tl xs ≤ n0 := by have := tl_le xs; rw [ha.1] at this; exact this
 have FX := Lib.hid (vf_tl (B := 4294967296) xs)
 have Z1 := Lib.hid (fun i (h : tl xs ≤ i) => tl_zero (xs := xs) h)
 clear ha hx
 have HX0 := Lib.hid (V_bd (B := 4294967296) (by decide) HX.out).1
 have HXN := Lib.hid (tl_bd (B := 4294967296) (by decide) HX.out)
 generalize tl xs = n at *
 generalize V 4294967296 xs = X at *
 have hk1 : (N : Int) / 32 = (k : Int) := by omega
 have hs1 : (N : Int) % 32 = (s : Int) := by omega
 have HKS := Lib.hid hks
 have HN := Lib.hid hN
 have hNb : (N : Int) ≤ 9223372036854775807 := by omega
 clear hks hN
 go_enter Tryz.func98, Tryz.ntmps98
 go_upto_if 10 with fail
 go_cut [1] (fun v wx => v = .int .i64 (N : Int) ∧ w = wx)
 case first =>
  by_cases hneg : nn < 0
  ·go_wp2_with fail
   go_meet
   exact ⟨congrArg (Value.int .i64) (by have := HN.out; omega), rfl⟩
  ·go_wp2_with fail
   go_meet
   exact ⟨congrArg (Value.int .i64) (by have := HN.out; omega), rfl⟩
 case rest =>
  obtain ⟨rfl, rfl⟩ := hcut
  go_wp2_with fail
  refine SA.out.mono ?_; rintro e w1 ⟨rfl, rfl⟩
  by_cases hkn : n ≤ k
  ·go_wp2_with fail
   go_ret
   exact shr_nil HX0.out HXN.out HKS.out hkn
  ·go_wp2_with (at_make; refine make_arr .u32 24 34 4 info_u32 (by decide) Tryz.underlying24 rfl _ _ rfl .i64 .i64 _ _ (n - k) _ rfl rfl (by omega) (by omega) (by omega) ?_)
   intro w0 harr hb0 hs0
   have HB0 := Lib.hid hb0
   have HARR0 := Lib.hid harr
   clear hb0 harr
   go_wp2_with fail
   go_loopg [24] (n - k) (fun g u wr => ∃ (i : Nat) (os : List Int), u = .int .i64 i ∧ i + g = n - k ∧ Arr .u32 34 wr w.heap.size os ∧ os.length = n - k ∧ Dig 4294967296 os ∧
    V 4294967296 os + xs.getD (k + i) 0 / 2 ^ s * 4294967296 ^ i = vf 4294967296 (fun j => xs.getD (k + j) 0) (i + 1) / 2 ^ s ∧ (∀ j, i ≤ j → os.getD j 0 = 0) ∧ Below w.heap.size w wr)
   case atStart => exact ⟨0, _, rfl, by omega, HARR0.out, by simp, Dig.replicate (by decide) _, by rw [V_replicate]; simp [vf], fun j _ => getD_replicate _ _, HB0.out⟩
   case round =>
    obtain ⟨i, os, rfl, hk, harr, hlo, hdo, hv, hzr, hbl⟩ := hrel
    have HK := Lib.hid hk
    have HARR := Lib.hid harr
    have HLO := Lib.hid hlo
    have HDO := Lib.hid hdo
    have HV := Lib.hid hv
    have HZR := Lib.hid hzr
    have HBL := Lib.hid hbl
    clear hk harr hlo hdo hv hzr
    by_cases hi : i < n - k
    ·obtain ⟨-, -, -, h4⟩ := HA.out.below hbl (Nat.le_refl _)
     rcases h4 with hcap0 | ⟨ba, oa, rfl, -, hc⟩
     ·have := HA.out.2.1; omega
     have hc1 := hc (k + i) (by omega)
     have hxr := HX.out.at (by decide) (k + i)
     obtain ⟨x, hxx⟩ : ∃ d, xs.getD (k + i) 0 = d := ⟨_, rfl⟩
     rw [hxx] at hc1 hxr
     have HXX := Lib.hid hxx
     have hco := HARR.out.cell (i := i) (by rw [HLO.out]; omega)
     have hfo := HARR.out.frozen i
     have g0 : (0 : Int) ≤ (i : Int) + (k : Int) := by omega
     have g1 : (i : Int) + (k : Int) < (n0 : Int) := by omega
     have g2 : ((i : Int) + (k : Int)).toNat = k + i := by omega
     by_cases hi1 : k + i + 1 < n
     ·have hc2 := hc (k + i + 1) (by omega)
      have hyr := HX.out.at (by decide) (k + i + 1)
      obtain ⟨y, hyy⟩ : ∃ d, xs.getD (k + i + 1) 0 = d := ⟨_, rfl⟩
      rw [hyy] at hc2 hyr
      have HYY := Lib.hid hyy
      have e1 : IntKind.u64.wrap (y * 4294967296) = y * 4294967296 := IntWalk.u64_in _ (by omega)
      have e2 := hi_lo' hyr.1 hyr.2 hxr.1 hxr.2
      have g3 : (i : Int) + (k : Int) + 1 < (n0 : Int) := by omega
      have g4 : ((i : Int) + (k : Int) + 1).toNat = k + i + 1 := by omega
      have g5 : (i : Int) + (k : Int) + 1 < (n : Int) := by omega
      clear hc hxx hyy hbl
      go_wp2_with fail
      go_roundg (gk - 1)
      case measure => have := HK.out; omega
      case rel => exact ⟨i + 1, os.set i ((x + y * 4294967296) / 2 ^ s % 4294967296), by go_num, by have := HK.out; omega, HARR.out.set _ _, by rw [List.length_set]; exact HLO.out, HDO.out.set _ (by omega) (by omega),
       shr_at HX.out hs (by rw [HLO.out]; exact hi) (HZR.out i (Nat.le_refl _)) HV.out HXX.out HYY.out rfl, set_above HZR.out, HBL.out.setCell (Nat.le_refl _) _⟩
     ·have HYY : Hid (xs.getD (k + i + 1) 0 = 0) := Lib.hid (Z1.out _ (by omega))
      have g5 : ¬ ((i : Int) + (k : Int) + 1 < (n : Int)) := by omega
      clear hc hxx hbl
      go_wp2_with fail
      go_roundg (gk - 1)
      case measure => have := HK.out; omega
      case rel => exact ⟨i + 1, os.set i (x / 2 ^ s % 4294967296), by go_num, by have := HK.out; omega, HARR.out.set _ _, by rw [List.length_set]; exact HLO.out, HDO.out.set _ (by omega) (by omega),
       shr_at HX.out hs (by rw [HLO.out]; exact hi) (HZR.out i (Nat.le_refl _)) HV.out HXX.out HYY.out (by omega), set_above HZR.out, HBL.out.setCell (Nat.le_refl _) _⟩
    ·have HIN : Hid (i = n - k) := Lib.hid (by have := HK.out; omega)
     have hl2 := HLO.out
     have hval : V 4294967296 os = X / 2 ^ N := shr_end HX.out HKS.out (by omega) HIN.out FX.out (Z1.out _ (by omega)) HV.out
     have hret := RetNat.cut HARR.out HDO.out (by rw [hl2]; omega) hval HBL.out (Nat.le_refl _)
     have hfull := HARR.out.full (by rw [hl2]; omega)
     rw [hl2] at hret hfull
     have HS := Lib.hid (size_any _ _ _ _ _ hfull)
     have htl := tl_le os
     rw [hl2] at htl
     clear hfull hl2 hbl hval
     generalize tl os = t at *
     have HRET := Lib.hid hret
     clear hret
     go_wp2_with fail
     refine HS.out.mono ?_; rintro e w1 ⟨rfl, rfl⟩
     go_wp2_with fail
     go_ret
     exact HRET.out
end Go.Proofs.YtehmompbmnejkaaGreat
/- Contracts of package nat's Bits, Of, Uint. Conditions: the words are below 2^32; at most 100000 of them. -/
namespace Go.Proofs.YtehmompbmnejkaaGreat
open Go.RowKit

/-- b is how many bits X has -/
def IsBits (X : Int) (b : Nat) : Prop := (X = 0 ∧ b = 0) ∨ (1 ≤ b ∧ 2 ^ (b - 1) ≤ X ∧ X < 2 ^ b)
theorem bits_of {X t : Int} {m j : Nat} (h0 : t * 4294967296 ^ m ≤ X) (h1 : X < (t + 1) * 4294967296 ^ m) (hj : 1 ≤ j) (h2 : 2 ^ (j - 1) ≤ t) (h3 : t < 2 ^ j) : IsBits X (32 * m + j) := by
 have e : (4294967296 : Int) ^ m = 2 ^ (32 * m) := by rw [Int.pow_mul]; rfl
 have hp : (0 : Int) < 4294967296 ^ m := Int.pow_pos (by decide)
 refine .inr ⟨by omega, ?_, ?_⟩
 ·have h4 : (2 : Int) ^ (j - 1) * 4294967296 ^ m ≤ t * 4294967296 ^ m := Int.mul_le_mul_of_nonneg_right h2 (by omega)
  rw [e, ← Int.pow_add, show j - 1 + 32 * m = 32 * m + j - 1 from by omega, ← e] at h4
  omega
 ·have h4 : (t + 1) * 4294967296 ^ m ≤ (2 : Int) ^ j * 4294967296 ^ m := Int.mul_le_mul_of_nonneg_right (by omega) (by omega)
  rw [e, ← Int.pow_add, show j + 32 * m = 32 * m + j from by omega, ← e] at h4
  omega
/-- the highest word, and what lies below it -/
theorem tl_word {xs : List Int} (hx : Dig 4294967296 xs) {m : Nat} (h : tl xs = m + 1) : xs.getD m 0 * 4294967296 ^ m ≤ V 4294967296 xs ∧ V 4294967296 xs < (xs.getD m 0 + 1) * 4294967296 ^ m ∧ 1 ≤ xs.getD m 0 := by
 have h1 := vf_tl (B := 4294967296) xs
 rw [h] at h1
 have h2 : vf 4294967296 (fun j => xs.getD j 0) (m + 1) = vf 4294967296 (fun j => xs.getD j 0) m + xs.getD m 0 * 4294967296 ^ m := rfl
 have h3 := vf_bd (B := 4294967296) (by decide) (f := fun j => xs.getD j 0) m fun i _ => hx.at (by decide) i
 have h4 := tl_top xs
 rw [h] at h4
 have h5 := (hx.at (by decide) m).1
 rw [Int.add_mul, Int.one_mul]
 simp at h4
 simp at h5
 refine ⟨by omega, by omega, ?_⟩
 simp
 omega

set_option maxHeartbeats 1000000 in
theorem bits_any (a : Option Addr) (n0 c : Nat) (xs : List Int) (w : World) (ha : RowK .u32 w a n0 c xs) (hx : Dig 4294967296 xs) (hn0 : n0 ≤ 100000) :
  Calls Tryz.prog 45 #[.slice a n0 c] w fun e w' => ∃ b : Nat, e = .returned (.int .i64 b) ∧ w = w' ∧ IsBits (V 4294967296 xs) b := by
 have HA := Lib.hid ha
 have HX := Lib.hid hx
 have SA := Lib.hid (size_any a n0 c xs w ha)
 have hn : tl xs ≤ n0 := by have := tl_le xs; rw [ha.1] at this; exact this
 have H0 := Lib.hid (tl_pos (B := 4294967296) (by decide) hx)
 have HW := Lib.hid (fun m (h : tl xs = m + 1) => tl_word hx h)
 clear ha hx
 generalize tl xs = n at *
 generalize V 4294967296 xs = X at *
 by_cases hz : n = 0
 ·have HXZ := Lib.hid (H0.out.2 hz)
  subst hz
  go_enter Tryz.func45, Tryz.ntmps45
  go_wp2_with fail
  refine SA.out.mono ?_; rintro e w1 ⟨rfl, rfl⟩
  go_wp2_with fail
  go_ret
  exact ⟨0, rfl, rfl, .inl ⟨HXZ.out, rfl⟩⟩
 ·obtain ⟨m, rfl⟩ : ∃ m, n = m + 1 := ⟨n - 1, by omega⟩
  obtain ⟨t0, t1, t2⟩ := HW.out m rfl
  have ht := HX.out.at (by decide) m
  obtain ⟨-, -, -, h4⟩ := HA.out
  rcases h4 with hcap0 | ⟨ba, oa, rfl, -, hc⟩
  ·have := HA.out.2.1; omega
  have hc1 := hc m (by omega)
  generalize xs.getD m 0 = t at *
  have T0 := Lib.hid t0
  have T1 := Lib.hid t1
  obtain ⟨ht0, ht1⟩ := ht
  clear hc t0 t1
  go_enter Tryz.func45, Tryz.ntmps45
  go_wp2_with fail
  refine SA.out.mono ?_; rintro e w1 ⟨rfl, rfl⟩
  go_wp2_with fail
  go_loopg [4, 5] 32 (fun k bu tu wr => ∃ (j : Nat), bu = .int .i64 ((32 * m + j : Nat) : Int) ∧ tu = .int .u32 (t / 2 ^ j) ∧ j + k = 32 ∧ (j = 0 ∨ 2 ^ (j - 1) ≤ t) ∧ w = wr)
  case atStart => exact ⟨0, by go_num, by simp, rfl, .inl rfl, rfl⟩
  case round =>
   obtain ⟨j, rfl, rfl, hk, hjt, rfl⟩ := hrel
   have HK := Lib.hid hk
   have HJ := Lib.hid hjt
   clear hk hjt
   have hp : (0 : Int) < 2 ^ j := Int.pow_pos (by decide)
   have q0 : 0 ≤ t / 2 ^ j := Int.ediv_nonneg ht0 (by omega)
   by_cases hq : 0 < t / 2 ^ j
   ·have hj2 : Hid ((2 : Int) ^ j ≤ t) := Lib.hid (by
     have := (Int.le_ediv_iff_mul_le hp).1 (show 1 ≤ t / 2 ^ j by omega)
     omega)
    have hlt : j < 32 := by
     rcases Nat.lt_or_ge j 32 with h | h
     ·exact h
     ·have h5 : (2 : Int) ^ 32 ≤ 2 ^ j := ipow_le (by decide) h
      have := hj2.out
      omega
    have HD2 : Hid (t / 2 ^ j / 2 = t / 2 ^ (j + 1)) := Lib.hid (by rw [Int.pow_succ, Int.ediv_ediv_of_nonneg (Int.le_of_lt hp)])
    obtain ⟨q, hqq⟩ : ∃ q, t / 2 ^ j = q := ⟨_, rfl⟩
    rw [hqq] at hq q0 HD2 ⊢
    clear hqq hp
    go_wp2_with fail
    go_roundg (gk - 1)
    case measure => have := HK.out; omega
    case rel => exact ⟨j + 1, by go_num, congrArg (Value.int .u32) HD2.out, by have := HK.out; omega, .inr hj2.out, rfl⟩
   ·have HB : Hid (IsBits X (32 * m + j)) := Lib.hid (by
     have h5 : t < 2 ^ j := by
      have h6 : t / 2 ^ j < 1 := by omega
      have h7 := (Int.ediv_lt_iff_lt_mul hp).1 h6
      omega
     rcases HJ.out with h6 | h6
     ·rw [h6] at h5; simp at h5; omega
     ·have : 1 ≤ j := by
       rcases Nat.eq_zero_or_pos j with h7 | h7
       ·rw [h7] at h5; simp at h5; omega
       ·exact h7
      exact bits_of T0.out T1.out this h6 h5)
    have hjb : j ≤ 32 := by have := HK.out; omega
    obtain ⟨q, hqq⟩ : ∃ q, t / 2 ^ j = q := ⟨_, rfl⟩
    rw [hqq] at hq q0 ⊢
    clear hqq hp
    go_wp2_with fail
    go_ret
    exact ⟨_, rfl, rfl, HB.out⟩

/-- one word's number, trim -/
def ws (v : Int) : List Int := [v % 4294967296, v / 4294967296]
theorem ws_dig {v : Int} (h0 : 0 ≤ v) (h1 : v < 18446744073709551616) : Dig 4294967296 (ws v) := by
 intro d hd
 simp [ws] at hd
 omega
theorem ws_V {v : Int} : V 4294967296 (ws v) = v := by
 simp [ws, V, vf]
 omega
theorem RetNat.from {w w1 w2 : World} {z : Int} {e : Ending} (h : RetNat w1 z e w2) (hb : Below w.heap.size w w1) : RetNat w z e w2 := by
 obtain ⟨a, n, c, rfl, h1, h2, h3⟩ := h
 exact ⟨a, n, c, rfl, h1, hb.trans (h2.mono hb.size), h3.mono hb.size⟩

theorem nof_any (v : Int) (w : World) (h0 : 0 ≤ v) (h1 : v < 18446744073709551616) :
  Calls Tryz.prog 43 #[.int .u64 v] w (RetNat w v) := by
 have HD := Lib.hid (ws_dig h0 h1)
 have HV := Lib.hid (ws_V (v := v))
 go_enter Tryz.func43, Tryz.ntmps43
 go_wp2_with fail
 have hb : Below w.heap.size w (w.alloc (.cells #[.int .u32 (v % 4294967296), .int .u32 (v / 4294967296)] 34)) := (Below.refl _ _).alloc (Nat.le_refl _) _
 have harr : Arr .u32 34 (w.alloc (.cells #[.int .u32 (v % 4294967296), .int .u32 (v / 4294967296)] 34)) w.heap.size (ws v) := by
  show (w.alloc _).heap[w.heap.size]? = _
  rw [heap_alloc_new]
  simp [ws]
 refine (trim_any _ _ _ _ _ (harr.full (by simp [ws])) HD.out (by simp [ws])).mono ?_
 rw [HV.out]
 rintro e w2 h
 have H := Lib.hid (h.from hb)
 obtain ⟨a, n, c, rfl, -⟩ := h
 clear hb harr
 go_wp2_with fail
 go_ret
 exact H.out

/-- what nat.Uint says of a number -/
def UintOut (X : Int) (e : Ending) : Prop := (X < 18446744073709551616 → e = .returned (.tuple #[.int .u64 X, .bool true])) ∧ (18446744073709551616 ≤ X → e = .returned (.tuple #[.int .u64 0, .bool false]))
set_option maxHeartbeats 1000000 in
theorem nuint_any (a : Option Addr) (n0 c : Nat) (xs : List Int) (w : World) (ha : RowK .u32 w a n0 c xs) (hx : Dig 4294967296 xs) (hn0 : n0 ≤ 100000) :
  Calls Tryz.prog 96 #[.slice a n0 c] w fun e w' => UintOut (V 4294967296 xs) e ∧ Below w.heap.size w w' := by
 have HA := Lib.hid ha
 have HX := Lib.hid hx
 have SA := Lib.hid (size_any a n0 c xs w ha)
 have hn : tl xs ≤ n0 := by have := tl_le xs; rw [ha.1] at this; exact this
 have FX := Lib.hid (vf_tl (B := 4294967296) xs)
 have HGE := Lib.hid (tl_ge (B := 4294967296) (by decide) hx)
 have HLT := Lib.hid (tl_bd (B := 4294967296) (by decide) hx)
 clear ha hx
 generalize tl xs = n at *
 generalize V 4294967296 xs = X at *
 obtain ⟨-, hcap, hmax, h4⟩ := HA.out
 unfold maxLen at hmax
 by_cases h0 : n = 0
 ·have HXZ : Hid (X = 0) := Lib.hid (by have h := FX.out; rw [h0] at h; exact h.symm)
  have H := Lib.hid HXZ.out
  clear h4 HGE HLT FX
  subst h0
  go_enter Tryz.func96, Tryz.ntmps96
  go_wp2_with fail
  refine SA.out.mono ?_; rintro e w1 ⟨rfl, rfl⟩
  go_wp2_with fail
  go_ret2
  exact ⟨⟨fun _ => by rw [HXZ.out]; rfl, fun h => by have := HXZ.out; omega⟩, Below.refl _ _⟩
 ·rcases h4 with hcap0 | ⟨ba, oa, rfl, -, hc⟩
  ·omega
  have c0 := hc 0 (by omega)
  rw [Nat.add_zero] at c0
  have r0 := HX.out.at (by decide) 0
  by_cases h1 : n = 1
  ·have HX1 : Hid (X = xs.getD 0 0) := Lib.hid (by have h := FX.out; rw [h1] at h; simp [vf] at h; simp; omega)
   clear HGE HLT FX hc
   generalize xs.getD 0 0 = x at *
   subst h1
   go_enter Tryz.func96, Tryz.ntmps96
   go_wp2_with fail
   refine SA.out.mono ?_; rintro e w1 ⟨rfl, rfl⟩
   go_wp2_with fail
   go_ret2
   exact ⟨⟨fun _ => by rw [HX1.out]; rfl, fun h => by have := HX1.out; omega⟩, Below.refl _ _⟩
  ·have r1 := HX.out.at (by decide) 1
   have c1 := hc 1 (by omega)
   by_cases h2 : n = 2
   ·have HX2 : Hid (X = xs.getD 1 0 * 4294967296 + xs.getD 0 0) := Lib.hid (by have h := FX.out; rw [h2] at h; simp [vf] at h; simp; omega)
    clear HGE HLT FX hc
    generalize xs.getD 0 0 = x at *
    generalize xs.getD 1 0 = y at *
    have e1 : IntKind.u64.wrap (y * 4294967296) = y * 4294967296 := IntWalk.u64_in _ (by omega)
    have e2 := hi_lo r1.1 r1.2 r0.1 r0.2
    subst h2
    go_enter Tryz.func96, Tryz.ntmps96
    go_wp2_with fail
    refine SA.out.mono ?_; rintro e w1 ⟨rfl, rfl⟩
    go_wp2_with fail
    go_quiet (fail)
    go_wp2_with fail
    go_ret2
    exact ⟨⟨fun _ => by rw [HX2.out]; rfl, fun h => by have := HX2.out; omega⟩, below_dn (Below.refl _ _) _⟩
   ·have HX3 : Hid (18446744073709551616 ≤ X) := Lib.hid (by
     have h := HGE.out (by omega)
     have h3 : (4294967296 : Int) ^ 2 ≤ 4294967296 ^ (n - 1) := ipow_le (by decide) (by omega)
     omega)
    clear HGE HLT FX hc c0 c1 r0 r1
    go_enter Tryz.func96, Tryz.ntmps96
    go_wp2_with fail
    refine SA.out.mono ?_; rintro e w1 ⟨rfl, rfl⟩
    go_wp2_with fail
    go_ret2
    exact ⟨⟨fun h => by have := HX3.out; omega, fun _ => rfl⟩, Below.refl _ _⟩
end Go.Proofs.YtehmompbmnejkaaGreat
/- Contract of package nat's Div: plain laws and the small cases. Conditions: the words are below 2^32; at most 90000 of them. -/
namespace Go.Proofs.YtehmompbmnejkaaGreat
open Go.RowKit

theorem win_cons {B : Int} (os : List Int) (off n : Nat) : win B os off (n + 1) = os.getD off 0 + B * win B os (off + 1) n := by
 have h := vf_split (B := B) (fun j => os.getD (off + j) 0) 1 n
 unfold win
 rw [Nat.add_comm n 1, h]
 have e : vf B (fun j => os.getD (off + j) 0) 1 = os.getD off 0 := by simp [vf]
 rw [e, Int.pow_succ, Int.pow_zero, Int.one_mul]
 congr 2
 exact vf_congr n fun i _ => by rw [Nat.add_assoc]
theorem V_win {B : Int} {os os' : List Int} {off n : Nat} (hl : os'.length = os.length) (hon : off + n ≤ os.length) (hs : ∀ j, j < off ∨ off + n ≤ j → os'.getD j 0 = os.getD j 0) :
  V B os' = V B os + (win B os' off n - win B os off n) * B ^ off := by
 obtain ⟨r, hr⟩ : ∃ r, os.length = off + (n + r) := ⟨os.length - off - n, by omega⟩
 unfold V
 rw [hl, hr, vf_split, vf_split (B := B) (fun j => os.getD j 0), vf_split (B := B) (fun j => os'.getD (off + j) 0), vf_split (B := B) (fun j => os.getD (off + j) 0)]
 have e1 : vf B (fun i => os'.getD i 0) off = vf B (fun i => os.getD i 0) off := vf_congr off fun i hi => hs i (.inl hi)
 have e2 : vf B (fun j => os'.getD (off + (n + j)) 0) r = vf B (fun j => os.getD (off + (n + j)) 0) r := vf_congr r fun i _ => hs _ (.inr (by omega))
 rw [e1, e2]
 show _ + B ^ off * (win B os' off n + _) = _ + B ^ off * (win B os off n + _) + _
 generalize vf B (fun j => os.getD (off + (n + j)) 0) r = R
 rw [Int.mul_add, Int.mul_add, Int.sub_mul, Int.mul_comm (B ^ off) (win B os' off n), Int.mul_comm (B ^ off) (win B os off n)]
 omega
/-- a value below a power has no places from there on -/
theorem win_top {os : List Int} (ho : Dig 4294967296 os) {off m : Nat} {D : Int} (hD : D ≤ 4294967296 ^ m) (h : win 4294967296 os off (m + 1) < D) : os.getD (off + m) 0 = 0 ∧ win 4294967296 os off m < D := by
 have e : win 4294967296 os off (m + 1) = win 4294967296 os off m + os.getD (off + m) 0 * 4294967296 ^ m := rfl
 have h0 := (win_bd ho off m).1
 have h1 := (ho.at (by decide) (off + m)).1
 rcases Int.lt_or_le 0 (os.getD (off + m) 0) with h2 | h2
 ·have h3 : 1 * 4294967296 ^ m ≤ os.getD (off + m) 0 * 4294967296 ^ m := Int.mul_le_mul_of_nonneg_right (by omega) (Int.le_of_lt (Int.pow_pos (by decide)))
  rw [Int.one_mul] at h3
  omega
 ·have h3 : os.getD (off + m) 0 = 0 := by omega
  refine ⟨h3, ?_⟩
  rw [h3, Int.zero_mul] at e
  omega
/-- one word of a division -/
theorem div_step {os os' qs : List Int} {D W Z : Int} {j m : Nat} (hl : os'.length = os.length) (hon : j + m ≤ os.length) (hs : ∀ t, t < j ∨ j + m ≤ t → os'.getD t 0 = os.getD t 0)
  (hW : win 4294967296 os j m = W) (hW' : win 4294967296 os' j m = W % D) (hj : j < qs.length) (hz : qs.getD j 0 = 0) (hv : V 4294967296 os + D * V 4294967296 qs = Z) :
  V 4294967296 os' + D * V 4294967296 (qs.set j (W / D)) = Z := by
 rw [V_win hl hon hs, V_set hj, hz, hW, hW', Int.sub_zero, Int.mul_add, ← hv]
 have e := Int.mul_ediv_add_emod W D
 have e2 : (W % D - W) * 4294967296 ^ j = - (D * (W / D * 4294967296 ^ j)) := by
  rw [← Int.mul_assoc, ← Int.neg_mul]
  congr 1
  omega
 omega
theorem div_end {os qs : List Int} {D Z : Int} {m : Nat} (ho : Dig 4294967296 os) (hm : m ≤ os.length) (hz : ∀ t, m ≤ t → os.getD t 0 = 0) (hlt : win 4294967296 os 0 m < D) (hv : V 4294967296 os + D * V 4294967296 qs = Z) :
  V 4294967296 qs = Z / D ∧ V 4294967296 os = Z % D := by
 have e : V 4294967296 os = win 4294967296 os 0 m := by
  obtain ⟨r, hr⟩ : ∃ r, os.length = m + r := ⟨os.length - m, by omega⟩
  unfold V win
  rw [hr, vf_zero m r fun i h _ => hz i h]
  exact vf_congr m fun i _ => by rw [Nat.zero_add]
 exact small_end (V_bd (by decide) ho).1 (by omega) (by rw [Int.mul_comm]; omega)
theorem div_scale {X Y : Int} {s : Nat} : (X * 2 ^ s) / (Y * 2 ^ s) = X / Y ∧ (X * 2 ^ s) % (Y * 2 ^ s) / 2 ^ s = X % Y := by
 have hp : (0 : Int) < 2 ^ s := Int.pow_pos (by decide)
 refine ⟨Int.mul_ediv_mul_of_pos_left _ _ hp, ?_⟩
 rw [Int.mul_comm X, Int.mul_comm Y, Int.mul_emod_mul_of_pos _ _ hp, Int.mul_ediv_cancel_left _ (by omega)]
theorem bits_range {Y : Int} {b m : Nat} (h : IsBits Y b) (h0 : 4294967296 ^ m ≤ Y) (h1 : Y < 4294967296 ^ (m + 1)) : 32 * m < b ∧ b ≤ 32 * (m + 1) := by
 have e : ∀ m : Nat, (4294967296 : Int) ^ m = 2 ^ (32 * m) := fun m => by rw [Int.pow_mul]; rfl
 have hp : (0 : Int) < 4294967296 ^ m := Int.pow_pos (by decide)
 rcases h with ⟨k1, k2⟩ | ⟨k1, k2, k3⟩
 ·omega
 ·rw [e] at h0 h1
  constructor
  ·rcases Nat.lt_or_ge (32 * m) b with h | h
   ·exact h
   ·have : (2 : Int) ^ b ≤ 2 ^ (32 * m) := ipow_le (by decide) h
    omega
  ·rcases Nat.lt_or_ge (32 * (m + 1)) b with h | h
   ·have : (2 : Int) ^ (32 * (m + 1)) ≤ 2 ^ (b - 1) := ipow_le (by decide) (by omega)
    omega
   ·exact h
/-- the shifted divisor fills its words -/
theorem shift_fit {Y : Int} {b m s : Nat} (h : IsBits Y b) (h0 : 4294967296 ^ m ≤ Y) (hs : 32 * (m + 1) = b + s) : 4294967296 ^ m ≤ Y * 2 ^ s ∧ Y * 2 ^ s < 4294967296 ^ (m + 1) := by
 have e : ∀ m : Nat, (4294967296 : Int) ^ m = 2 ^ (32 * m) := fun m => by rw [Int.pow_mul]; rfl
 have hp : (1 : Int) ≤ 2 ^ s := Int.pow_pos (by decide)
 have hq : (0 : Int) < 4294967296 ^ m := Int.pow_pos (by decide)
 constructor
 ·have := Int.mul_le_mul_of_nonneg_left hp (show 0 ≤ Y by omega)
  omega
 ·rcases h with ⟨k1, k2⟩ | ⟨k1, k2, k3⟩
  ·omega
  ·have : Y * 2 ^ s < 2 ^ b * 2 ^ s := Int.mul_lt_mul_of_pos_right k3 (by omega)
   rw [← Int.pow_add, ← hs, ← e] at this
   exact this

/-- a call's answer: the trim lists of q and r, and true -/
def RetQR (w : World) (q r : Int) (e : Ending) (w' : World) : Prop := ∃ a n c b m d, e = .returned (.tuple #[.slice a n c, .slice b m d, .bool true]) ∧ NatC w' a n c q ∧ NatC w' b m d r ∧ Below w.heap.size w w' ∧ Fresh w.heap.size a ∧ Fresh w.heap.size b

theorem ndiv_less (a b : Option Addr) (n0 c m0 d : Nat) (xs ys : List Int) (w : World) (ha : RowK .u32 w a n0 c xs) (hb : RowK .u32 w b m0 d ys) (hx : Dig 4294967296 xs) (hy : Dig 4294967296 ys) (hn : n0 ≤ 90000) (h0 : V 4294967296 xs < V 4294967296 ys) :
  Calls Tryz.prog 101 #[.slice a n0 c, .slice b m0 d] w (RetQR w 0 (V 4294967296 xs)) := by
 have SB := Lib.hid (size_any b m0 d ys w hb)
 have HC := Lib.hid (ncmp_any a b n0 c m0 d xs ys w ha hb hx hy)
 rw [cmpZ_lt h0] at HC
 have HT := Lib.hid (fun w1 (h : Below w.heap.size w w1) => trim_any a n0 c xs w1 (ha.below h (Nat.le_refl _)) hx (by omega))
 have hm : tl ys ≠ 0 := by
  intro h
  have h1 := (tl_pos (by decide) hy).2 h
  have h2 := (V_bd (B := 4294967296) (by decide) hx).1
  omega
 have hml : tl ys ≤ m0 := by have := tl_le ys; rw [hb.1] at this; exact this
 have hmb : m0 ≤ 9223372036854775807 := by have := hb.2.1; have := hb.2.2.1; unfold maxLen at this; omega
 clear ha hb h0
 generalize tl ys = m at *
 generalize V 4294967296 xs = X at *
 go_enter Tryz.func101, Tryz.ntmps101
 go_wp2_with fail
 refine SB.out.mono ?_; rintro e w1 ⟨rfl, rfl⟩
 go_wp2_with fail
 refine HC.out.mono ?_; rintro e w1 ⟨rfl, hb1⟩
 go_wp2_with fail
 refine (HT.out w1 hb1).mono ?_; rintro e w2 h
 have HB1 := Lib.hid hb1
 obtain ⟨a2, n2, c2, rfl, h1⟩ := h
 have H1 := Lib.hid h1
 clear hb1 h1
 go_wp2_with fail
 go_ret3
 obtain ⟨h1, h2, h3⟩ := H1.out
 exact ⟨none, 0, 0, a2, n2, c2, rfl, ⟨[], RowK.nil, Dig.nil, .inl rfl, rfl⟩, h1, HB1.out.trans (h2.mono HB1.out.size), Fresh.nil, h3.mono HB1.out.size⟩

theorem ndiv_one (a b : Option Addr) (n0 c m0 d : Nat) (xs ys : List Int) (w : World) (ha : RowK .u32 w a n0 c xs) (hb : RowK .u32 w b m0 d ys) (hx : Dig 4294967296 xs) (hy : Dig 4294967296 ys) (hn : n0 ≤ 90000) (h0 : V 4294967296 ys ≤ V 4294967296 xs) (h1 : tl ys = 1) :
  Calls Tryz.prog 101 #[.slice a n0 c, .slice b m0 d] w (RetQR w (V 4294967296 xs / V 4294967296 ys) (V 4294967296 xs % V 4294967296 ys)) := by
 have SB := Lib.hid (size_any b m0 d ys w hb)
 have HC := Lib.hid (ncmp_any a b n0 c m0 d xs ys w ha hb hx hy)
 have hcz := cmpZ_ge h0
 have hml : tl ys ≤ m0 := by have := tl_le ys; rw [hb.1] at this; exact this
 have hmb : m0 ≤ 9223372036854775807 := by have := hb.2.1; have := hb.2.2.1; unfold maxLen at this; omega
 obtain ⟨t0, t1, t2⟩ := tl_word hy (m := 0) h1
 rw [Int.pow_zero, Int.mul_one] at t0 t1
 have hYE : V 4294967296 ys = ys.getD 0 0 := by omega
 have r0 := hy.at (by decide) 0
 rw [h1] at SB hml
 rw [hYE]
 have HT := Lib.hid (fun w1 (h : Below w.heap.size w w1) => small_any a n0 c (ys.getD 0 0) xs w1 (ha.below h (Nat.le_refl _)) hx (by omega) (by omega) r0.2)
 have HB := Lib.hid hb
 obtain ⟨-, -, -, h4⟩ := hb
 rcases h4 with hcap0 | ⟨bb, ob, rfl, hbb, hc⟩
 ·have := HB.out.2.1; omega
 have c0 := hc 0 (by omega)
 rw [Nat.add_zero] at c0
 have hcz' : ¬ (cmpZ (V 4294967296 xs) (V 4294967296 ys) < 0) := by omega
 clear ha h0 hc t0 t1 hYE h1
 generalize cmpZ (V 4294967296 xs) (V 4294967296 ys) = cz at *
 generalize ys.getD 0 0 = y at *
 generalize V 4294967296 xs = X at *
 obtain ⟨y0, y1⟩ := r0
 have m0' := Int.emod_nonneg X (show y ≠ 0 by omega)
 have m1' := Int.emod_lt_of_pos X (show 0 < y by omega)
 obtain ⟨r, hr⟩ : ∃ r, X % y = r := ⟨_, rfl⟩
 obtain ⟨q, hq⟩ : ∃ q, X / y = q := ⟨_, rfl⟩
 rw [hr, hq] at HT ⊢
 rw [hr] at m0' m1'
 clear hr hq
 go_enter Tryz.func101, Tryz.ntmps101
 go_wp2_with fail
 refine SB.out.mono ?_; rintro e w1 ⟨rfl, rfl⟩
 go_wp2_with fail
 refine HC.out.mono ?_; rintro e w1 ⟨rfl, hb1⟩
 have c1 : w1.cell? ⟨bb, ob, none⟩ = some (.int .u32 y) := by rw [(bcell hb1).1 _ _ hbb]; exact c0
 go_wp2_with fail
 refine (HT.out w1 hb1).mono ?_; rintro e w2 ⟨a2, n2, c2, rfl, hN2, hb2, hf2⟩
 have HB1 := Lib.hid hb1
 have HB2 := Lib.hid hb2
 have HN2 := Lib.hid hN2
 have HF2 := Lib.hid hf2
 clear hb1 hb2 hN2 hf2 c1 c0
 go_wp2_with fail
 refine (nof_any r w2 m0' (by omega)).mono ?_; rintro e w3 ⟨a3, n3, c3, rfl, hN3, hb3, hf3⟩
 have HB3 := Lib.hid hb3
 have HN3 := Lib.hid hN3
 have HF3 := Lib.hid hf3
 clear hb3 hN3 hf3
 go_wp2_with fail
 go_ret3
 have s2 := HB2.out.size
 have s1 := HB1.out.size
 exact ⟨a2, n2, c2, a3, n3, c3, rfl, HN2.out.below HB3.out (Nat.le_refl _), HN3.out, (HB1.out.trans (HB2.out.mono s1)).trans (HB3.out.mono (by omega)), HF2.out.mono s1, HF3.out.mono (by omega)⟩
end Go.Proofs.YtehmompbmnejkaaGreat
/- Contract of package nat's Div: the long division. Conditions: the words are below 2^32; at most 90000 of them. -/
namespace Go.Proofs.YtehmompbmnejkaaGreat
open Go.RowKit

theorem ArrP.far {k : IntKind} {e : TypeId} {w : World} {g : Nat} {xs : List Int} (h : ArrP k e w g xs) {p : Addr} (hp : p.block ≠ g) (v : Value) : ArrP k e (w.setCell p v) g xs := by
 obtain ⟨r, h⟩ := h
 exact ⟨r, by rw [Below.heap_setCell _ _ _ _ (fun e => hp e.symm)]; exact h⟩
theorem cell_far {w : World} {p q : Addr} {v : Value} (h : q.block ≠ p.block) : (w.setCell p v).cell? q = w.cell? q := World.cell?_of_block (w := w) (Below.heap_setCell _ _ _ _ h)
theorem OwnK.ofArr {k : IntKind} {w : World} {g n : Nat} {e : TypeId} {xs : List Int} (h : Arr k e w g xs) (hl : xs.length = n) (hm : n ≤ maxLen) : OwnK k w g e (.slice (some ⟨g, 0, none⟩) n n) n xs :=
 ⟨by simp [hl], .inr ⟨g, n, _, rfl, Nat.le_refl _, h, Nat.le_refl _, hm, by simp [hl], by simp [hl, List.take_of_length_le]⟩⟩

theorem div_ds {ds : List Int} {k : Nat} {D : Int} (hd : Dig 4294967296 ds) (hl : ds.length = k + 2 + 1) (hv : V 4294967296 ds = D) (h0 : 4294967296 ^ (k + 1) ≤ D) (h1 : D < 4294967296 ^ (k + 2)) :
  (ds.take (k + 2)).length = k + 2 ∧ V 4294967296 (ds.take (k + 2)) = D ∧ 1 ≤ (ds.take (k + 2)).getD (k + 1) 0 := by
 have e0 : win 4294967296 ds 0 (k + 2 + 1) = D := by
  rw [← hv]
  unfold V win
  rw [hl]
  exact vf_congr _ fun i _ => by rw [Nat.zero_add]
 obtain ⟨h2, -⟩ := win_top hd (off := 0) (Int.le_refl _) (by rw [e0]; exact h1)
 rw [Nat.zero_add] at h2
 have hl2 : (ds.take (k + 2)).length = k + 2 := by rw [List.length_take]; omega
 have hv2 : V 4294967296 (ds.take (k + 2)) = D := by
  rw [← hv]
  exact V_take (by omega) fun i h3 h4 => by
   have : i = k + 2 := by omega
   rw [this]; exact h2
 refine ⟨hl2, hv2, ?_⟩
 have h5 := (hd.take (k + 2)).at (by decide) (k + 1)
 rcases Int.lt_or_le 0 ((ds.take (k + 2)).getD (k + 1) 0) with h6 | h6
 ·omega
 ·have h7 : (ds.take (k + 2)).getD (k + 1) 0 = 0 := by omega
  have h8 : V 4294967296 (ds.take (k + 2)) = vf 4294967296 (fun i => (ds.take (k + 2)).getD i 0) (k + 1) + (ds.take (k + 2)).getD (k + 1) 0 * 4294967296 ^ (k + 1) := by
   unfold V
   rw [hl2]; rfl
  have h9 := vf_bd (B := 4294967296) (by decide) (f := fun i => (ds.take (k + 2)).getD i 0) (k + 1) fun i _ => (hd.take (k + 2)).at (by decide) i
  rw [h7, Int.zero_mul] at h8
  omega
/-- the highest window: its top word is 0 -/
theorem div_start {os : List Int} {n k : Nat} {D : Int} (ho : Dig 4294967296 os) (hl : os.length = n + 1) (hk : k + 2 ≤ n) (h0 : 4294967296 ^ (k + 1) ≤ D) : win 4294967296 (os ++ [0]) (n - k) (k + 2) < D := by
 have h := (win_bd (ho.snoc (Int.le_refl _) (by decide)) (n - k) (k + 1)).2
 have e : win 4294967296 (os ++ [0]) (n - k) (k + 2) = win 4294967296 (os ++ [0]) (n - k) (k + 1) + (os ++ [0]).getD (n - k + (k + 1)) 0 * 4294967296 ^ (k + 1) := rfl
 rw [show n - k + (k + 1) = os.length from by omega, getD_snoc, Int.zero_mul] at e
 omega
theorem div_bound {os : List Int} {j m : Nat} {D : Int} (ho : Dig 4294967296 os) (h : win 4294967296 os (j + 1) m < D) : win 4294967296 os j (m + 1) < D * 4294967296 := by
 rw [win_cons]
 have := ho.at (by decide) j
 have := (win_bd ho (j + 1) m).1
 omega

set_option maxRecDepth 100000 in
set_option maxHeartbeats 4000000 in
theorem ndiv_long (a b : Option Addr) (n0 c m0 d k : Nat) (xs ys : List Int) (w : World) (ha : RowK .u32 w a n0 c xs) (hb : RowK .u32 w b m0 d ys) (hx : Dig 4294967296 xs) (hy : Dig 4294967296 ys) (hn : n0 ≤ 90000) (hm0 : m0 ≤ 90000) (h0 : V 4294967296 ys ≤ V 4294967296 xs) (h1 : tl ys = k + 2) :
  Calls Tryz.prog 101 #[.slice a n0 c, .slice b m0 d] w (RetQR w (V 4294967296 xs / V 4294967296 ys) (V 4294967296 xs % V 4294967296 ys)) := by
 have SB := Lib.hid (size_any b m0 d ys w hb)
 have HC := Lib.hid (ncmp_any a b n0 c m0 d xs ys w ha hb hx hy)
 have hcz := cmpZ_ge h0
 have hml : tl ys ≤ m0 := by have := tl_le ys; rw [hb.1] at this; exact this
 have hnl : tl xs ≤ n0 := by have := tl_le xs; rw [ha.1] at this; exact this
 have hkn : k + 2 ≤ tl xs := by
  rcases Nat.lt_or_ge (tl xs) (tl ys) with h | h
  ·have := tl_lt (B := 4294967296) (by decide) hx hy h
   omega
  ·omega
 have hcz' : ¬ (cmpZ (V 4294967296 xs) (V 4294967296 ys) < 0) := by omega
 have hge := tl_ge (B := 4294967296) (by decide) hy (by omega)
 have hlt := tl_bd (B := 4294967296) (by decide) hy
 rw [h1] at SB hml hge hlt
 rw [show k + 2 - 1 = k + 1 from rfl] at hge
 have HBI := Lib.hid (fun w1 (h : Below w.heap.size w w1) => bits_any b m0 d ys w1 (hb.below h (Nat.le_refl _)) hy (by omega))
 have HMB := Lib.hid (fun w1 (s : Nat) (hs : s ≤ 31) (h : Below w.heap.size w w1) => move_any b m0 d s ys w1 (hb.below h (Nat.le_refl _)) hy (by omega) hs)
 have HMA := Lib.hid (fun w1 (s : Nat) (hs : s ≤ 31) (h : Below w.heap.size w w1) => move_any a n0 c s xs w1 (ha.below h (Nat.le_refl _)) hx (by omega) hs)
 rw [h1] at HMB
 have HGE := Lib.hid hge
 have HLT := Lib.hid hlt
 clear ha hb h0 hge hlt h1
 generalize cmpZ (V 4294967296 xs) (V 4294967296 ys) = cz at *
 generalize V 4294967296 xs = X at *
 generalize V 4294967296 ys = Y at *
 generalize tl xs = n at *
 go_enter Tryz.func101, Tryz.ntmps101
 go_wp2_with fail
 refine SB.out.mono ?_; rintro e w1 ⟨rfl, rfl⟩
 go_wp2_with fail
 refine HC.out.mono ?_; rintro e w1 ⟨rfl, hb1⟩
 go_wp2_with fail
 refine (HBI.out w1 hb1).mono ?_; rintro e w1b ⟨bb, rfl, rfl, hbits⟩
 obtain ⟨hr0, hr1⟩ := bits_range hbits HGE.out HLT.out
 obtain ⟨s, hs⟩ : ∃ s, 32 * (k + 2) = bb + s := ⟨32 * (k + 2) - bb, by omega⟩
 have hs31 : s ≤ 31 := by omega
 obtain ⟨hf0, hf1⟩ := shift_fit hbits HGE.out hs
 have HF0 := Lib.hid hf0
 have HF1 := Lib.hid hf1
 have e1 : 32 * ((k : Int) + 2) - (bb : Int) = (s : Int) := by omega
 have hbb : bb ≤ 3000000 := by omega
 clear hbits hf0 hf1 hs hr0 hr1
 go_wp2_with fail
 refine (HMB.out w1 s hs31 hb1).mono ?_; rintro e w2 ⟨ds, rfl, harr2, hl2, hd2, hv2, hb2⟩
 have hbw2 : Below w.heap.size w w2 := hb1.trans (hb2.mono hb1.size)
 go_wp2_with fail
 refine (HMA.out w2 s hs31 hbw2).mono ?_; rintro e w3 ⟨os, rfl, harr3, hl3, hd3, hv3, hb3⟩
 have hbw3 : Below w.heap.size w w3 := hbw2.trans (hb3.mono hbw2.size)
 have harr23 := harr2.below hb3 harr2.lt
 have hown : OwnK .u32 w3 w2.heap.size 34 (.slice (some ⟨w2.heap.size, 0, none⟩) (n + 1) (n + 1)) (n + 1) os := OwnK.ofArr harr3 hl3 (by unfold maxLen; omega)
 go_wp2_with (at_builtin; refine append1 .u32 24 34 4 info_u32 (by decide) Tryz.underlying24 rfl _ _ rfl w2.heap.size w3 (.slice (some ⟨w2.heap.size, 0, none⟩) (n + 1) (n + 1)) (n + 1) os 0 rfl rfl hown (by omega) (by have := hb3.size; omega) ?_)
 intro g cap w4 hown4 hgr4 hbl4 hg4
 have hb4 : Below w2.heap.size w2 w4 := hbl4 w2 hb3
 have hg : w2.heap.size ≤ g := by
  have := hb3.size
  rcases hg4 with h | h
  ·simp [Value.ownBlock] at h; omega
  ·omega
 have hbw4 : Below w.heap.size w w4 := hbw2.trans (hb4.mono hbw2.size)
 have hpart := hown4.part
 have harr24 := harr2.below hb4 harr2.lt
 obtain ⟨hdl, hdv, hd1⟩ := div_ds hd2 hl2 hv2 HF0.out HF1.out
 have hdd := hd2.take (k + 2)
 have hst := div_start hd3 hl3 hkn HF0.out
 have hdo := hd3.snoc (Int.le_refl 0) (by decide)
 have hvo : V 4294967296 (os ++ [0]) = X * 2 ^ s := by rw [V_snoc, hv3, Int.zero_mul, Int.add_zero]
 have hlo : (os ++ [0]).length = n + 2 := by rw [List.length_append, hl3]; rfl
 have hcd : ∀ j, j < k + 2 → w4.cell? ⟨w1.heap.size, j, none⟩ = some (.int .u32 ((ds.take (k + 2)).getD j 0)) := fun j hj => by
  rw [getD_take hj]; exact harr24.cell (by rw [hl2]; omega)
 have hcap : n + 2 ≤ cap ∧ cap ≤ 9223372036854775807 := by have h := hown4.row; exact ⟨h.2.1, h.2.2.1⟩
 have hg2 : w1.heap.size < w2.heap.size := harr2.lt
 have hgw4 := hpart.lt
 have hwb : w.heap.size ≤ w1.heap.size := hb1.size
 have HBW4 := Lib.hid hbw4
 have HPART := Lib.hid hpart
 have HDL := Lib.hid hdl
 have HDV := Lib.hid hdv
 have HD1 := Lib.hid hd1
 have HDD := Lib.hid hdd
 have HST := Lib.hid hst
 have HDO := Lib.hid hdo
 have HVO := Lib.hid hvo
 have HLO := Lib.hid hlo
 have HCD := Lib.hid hcd
 generalize os ++ [0] = os0 at *
 generalize ds.take (k + 2) = dl at *
 clear hbw4 hpart hdl hdv hd1 hdd hst hdo hvo hlo hcd hown4 hgr4 hbl4 hg4 hb4 harr24 hown harr3 hl3 hd3 hv3 hb3 hbw3 harr23 hbw2 harr2 hl2 hd2 hv2 hb2 hb1
 obtain ⟨hcap0, hcap1⟩ := hcap
 go_wp2_with (at_make; refine make_arr .u32 24 34 4 info_u32 (by decide) Tryz.underlying24 rfl _ _ rfl .i64 .i64 _ _ (n - k) _ rfl rfl (by omega) (by omega) (by omega) ?_)
 intro w5 harr5 hb5 hs5
 have HB5 := Lib.hid hb5
 have HARR5 := Lib.hid harr5
 have HP5 := Lib.hid (HPART.out.below hb5 hgw4)
 have HC5 := Lib.hid (fun j hj => ((bcell hb5).1 w1.heap.size j (by omega)).trans (HCD.out j hj))
 have HBW5 := Lib.hid (HBW4.out.trans (hb5.mono HBW4.out.size))
 clear hb5 harr5
 go_wp2_with fail
 go_loopg [14] (n - k) (fun i u wr => ∃ (os qs : List Int), u = .int .i64 ((i : Int) - 1) ∧ i ≤ n - k ∧ ArrP .u32 34 wr g os ∧ os.length = n + 2 ∧ Dig 4294967296 os ∧ Arr .u32 34 wr w4.heap.size qs ∧ qs.length = n - k ∧ Dig 4294967296 qs ∧
  V 4294967296 os + Y * 2 ^ s * V 4294967296 qs = X * 2 ^ s ∧ (∀ j, j < i → qs.getD j 0 = 0) ∧ (∀ t, i + (k + 2) ≤ t → os.getD t 0 = 0) ∧ win 4294967296 os i (k + 2) < Y * 2 ^ s ∧ (∀ j, j < k + 2 → wr.cell? ⟨w1.heap.size, j, none⟩ = some (.int .u32 (dl.getD j 0))) ∧ Below w.heap.size w wr)
 case atStart => exact ⟨os0, _, by go_num, Nat.le_refl _, HP5.out, HLO.out, HDO.out, HARR5.out, by simp, Dig.replicate (by decide) _, by rw [V_replicate, Int.mul_zero, Int.add_zero]; exact HVO.out, fun j _ => getD_replicate _ _, fun t ht => getD_ge (by rw [HLO.out]; omega), HST.out, HC5.out, HBW5.out⟩
 case round =>
  obtain ⟨os, qs, rfl, hi, hpart, hlo, hdo, harrq, hlq, hdq, hv, hqz, hoz, hwin, hcd, hbl⟩ := hrel
  have HP := Lib.hid hpart
  have HLO := Lib.hid hlo
  have HDO := Lib.hid hdo
  have HARR := Lib.hid harrq
  have HLQ := Lib.hid hlq
  have HDQ := Lib.hid hdq
  have HV := Lib.hid hv
  have HQZ := Lib.hid hqz
  have HOZ := Lib.hid hoz
  have HWIN := Lib.hid hwin
  have HCD := Lib.hid hcd
  have HBL := Lib.hid hbl
  clear hpart hlo hdo harrq hlq hdq hv hqz hoz hwin hcd hbl
  by_cases h0 : gk = 0
  ·subst h0
   obtain ⟨hq, hr⟩ := div_end HDO.out (by rw [HLO.out]; omega) (fun t ht => HOZ.out t (by omega)) HWIN.out HV.out
   obtain ⟨hq2, hr2⟩ := div_scale (X := X) (Y := Y) (s := s)
   rw [hq2] at hq
   have hnq : NatC wr (some ⟨w4.heap.size, 0, none⟩) (tl qs) (n - k) (X / Y) := ⟨qs.take (tl qs), HARR.out.row (by have := tl_le qs; rw [HLQ.out] at this; exact this) (by rw [HLQ.out]; exact Nat.le_refl _) (by rw [HLQ.out]; omega), HDQ.out.take _, tl_trim qs, by rw [tl_V]; exact hq⟩
   have hrow : RowK .u32 wr (some ⟨w4.heap.size, 0, none⟩) (n - k) (n - k) qs := by
    have h := HARR.out.full (by rw [HLQ.out]; omega)
    rw [HLQ.out] at h; exact h
   have HNQ := Lib.hid hnq
   have HROW := Lib.hid hrow
   have HSZ := Lib.hid (fun w1 (h : Below wr.heap.size wr w1) => size_any _ _ _ _ w1 (hrow.below h (Nat.le_refl _)))
   have hsh := fun w1 (h : Below wr.heap.size wr w1) => shr_any (some ⟨g, 0, none⟩) (n + 1 + 1) cap (s : Int) s 0 s os w1 ((HP.out.row HLO.out hcap0 hcap1).below h (Nat.le_refl _)) HDO.out (by omega) (by omega) (by omega) hs31 (by omega)
   rw [hr, hr2] at hsh
   have HSH := Lib.hid hsh
   have htl := tl_le qs
   rw [HLQ.out] at htl
   clear hq hr hq2 hr2 hnq hrow hsh
   generalize tl qs = t at *
   go_wp2_with fail
   go_region_with (first
    | (go_at_call 77; refine (HSZ.out _ ?_).mono ?_; (first | exact Below.refl _ _ | exact (Below.refl _ _).drew | exact (Below.refl _ _).drew.trans hb7); rintro e w7s ⟨rfl, rfl⟩)
    | (go_at_call 98; refine (HSH.out _ ?_).mono ?_; (first | exact Below.refl _ _ | exact (Below.refl _ _).drew); rintro e w7 ⟨a3, n3, c3, rfl, hN3, hb7, hf3⟩))
   all_goals
    have hbr : Below wr.heap.size wr w7 := (Below.refl _ _).drew.trans hb7
    have HBR := Lib.hid hbr
    have HN3 := Lib.hid hN3
    have HF3 : Hid (Fresh wr.heap.size a3) := Lib.hid hf3
    clear hbr hN3 hf3 hb7
    go_wp2_with fail
    go_ret3
    have hs4 := HBL.out.size
    have hs5 := HBW4.out.size
    exact ⟨_, _, _, a3, n3, c3, rfl, HNQ.out.below HBR.out (Nat.le_refl _), HN3.out, HBL.out.trans (HBR.out.mono hs4), Fresh.at hs5, HF3.out.mono hs4⟩
  ·obtain ⟨j, hj⟩ : ∃ j, gk = j + 1 := ⟨gk - 1, by omega⟩
   subst hj
   rw [show ((j + 1 : Nat) : Int) - 1 = (j : Int) from by omega]
   have hbd := div_bound HDO.out HWIN.out
   rw [← HDV.out] at hbd
   have HWD := Lib.hid (word_any g w1.heap.size j k (cap - j) (k + 2 + 1) os dl wr HP.out HCD.out HDL.out (by omega) (by rw [HLO.out]; omega) HDO.out HDD.out (by omega) HD1.out hbd)
   rw [HDV.out] at HWD
   have hD0 : 0 < Y * 2 ^ s := by have := HF0.out; have : (0 : Int) < 4294967296 ^ (k + 1) := Int.pow_pos (by decide); omega
   have HQ0 := Lib.hid (Int.ediv_nonneg (win_bd HDO.out j (k + 3)).1 (Int.le_of_lt hD0))
   have HQ1 : Hid (win 4294967296 os j (k + 3) / (Y * 2 ^ s) < 4294967296) := Lib.hid (Int.ediv_lt_of_lt_mul hD0 (by rw [HDV.out] at hbd; rw [Int.mul_comm]; exact hbd))
   have HM1 := Lib.hid (Int.emod_lt_of_pos (win 4294967296 os j (k + 3)) hD0)
   obtain ⟨W, hW⟩ : ∃ W, win 4294967296 os j (k + 3) = W := ⟨_, rfl⟩
   rw [hW] at HWD HQ0 HQ1 HM1
   obtain ⟨q, hq⟩ : ∃ q, W / (Y * 2 ^ s) = q := ⟨_, rfl⟩
   rw [hq] at HWD HQ0 HQ1
   have HW := Lib.hid hW
   have HQ := Lib.hid hq
   clear hbd hD0 hW hq
   go_wp2_with fail
   rw [show j + (k + 2) + 1 - j = k + 3 from by omega]
   refine HWD.out.mono ?_; rintro e w6 ⟨os', rfl, hp', hlo', hdo', hsame', honly, hw'⟩
   have harr' := honly.arr HARR.out (by omega)
   have hco := harr'.cell (i := j) (by rw [HLQ.out]; omega)
   have hfo := harr'.frozen j
   have HP' := Lib.hid hp'
   have HLO' := Lib.hid hlo'
   have HDO' := Lib.hid hdo'
   have HSAME := Lib.hid hsame'
   have HONLY := Lib.hid honly
   have HW' := Lib.hid hw'
   have HARR' := Lib.hid harr'
   clear hp' hlo' hdo' hsame' honly hw' harr'
   go_wp2_with fail
   go_roundg j
   case measure => omega
   case rel =>
    obtain ⟨ht0, ht1⟩ := win_top HDO'.out (off := j) (m := k + 2) (Int.le_of_lt HF1.out) (by rw [HW'.out]; exact HM1.out)
    refine ⟨os', qs.set j q, rfl, by omega, HP'.out.far (by show w4.heap.size ≠ g; omega) _, by rw [HLO'.out]; exact HLO.out, HDO'.out, HARR'.out.set j q, by rw [List.length_set]; exact HLQ.out, HDQ.out.set j HQ0.out HQ1.out, ?_, fun i hi => by rw [getD_set_ne (by omega)]; exact HQZ.out i (by omega), ?_, ht1, fun i hi => ?_, (HBL.out.trans (HONLY.out.below (by omega))).setCell (by show _ ≤ w4.heap.size; omega) _⟩
    ·rw [← HQ.out]
     exact div_step HLO'.out (by rw [HLO.out]; omega) HSAME.out HW.out HW'.out (by rw [HLQ.out]; omega) (HQZ.out j (by omega)) HV.out
    ·intro t ht
     by_cases h : t = j + (k + 2)
     ·rw [h]; exact ht0
     ·rw [HSAME.out t (.inr (by omega))]; exact HOZ.out t (by omega)
    ·rw [cell_far (by show w1.heap.size ≠ w4.heap.size; omega), HONLY.out.cell (by show w1.heap.size ≠ g; omega)]; exact HCD.out i hi

theorem ndiv_any (a b : Option Addr) (n0 c m0 d : Nat) (xs ys : List Int) (w : World) (ha : RowK .u32 w a n0 c xs) (hb : RowK .u32 w b m0 d ys) (hx : Dig 4294967296 xs) (hy : Dig 4294967296 ys) (hn : n0 ≤ 90000) (hm : m0 ≤ 90000) (h0 : V 4294967296 ys ≠ 0) :
  Calls Tryz.prog 101 #[.slice a n0 c, .slice b m0 d] w (RetQR w (V 4294967296 xs / V 4294967296 ys) (V 4294967296 xs % V 4294967296 ys)) := by
 have hx0 := (V_bd (B := 4294967296) (by decide) hx).1
 rcases Int.lt_or_le (V 4294967296 xs) (V 4294967296 ys) with h | h
 ·rw [Int.ediv_eq_zero_of_lt hx0 h, Int.emod_eq_of_lt hx0 h]
  exact ndiv_less a b n0 c m0 d xs ys w ha hb hx hy hn h
 ·have ht : tl ys ≠ 0 := fun e => h0 ((tl_pos (by decide) hy).2 e)
  by_cases h1 : tl ys = 1
  ·exact ndiv_one a b n0 c m0 d xs ys w ha hb hx hy hn h h1
  ·exact ndiv_long a b n0 c m0 d (tl ys - 2) xs ys w ha hb hx hy hn hm h (by omega)
end Go.Proofs.YtehmompbmnejkaaGreat
/- Contract of package nat's Root. Conditions: the words are below 2^32; at most 40000 of them. -/
namespace Go.Proofs.YtehmompbmnejkaaGreat
open Go.RowKit

theorem NatC.len {w : World} {a : Option Addr} {n c k : Nat} {z : Int} (h : NatC w a n c z) (hz : z < 4294967296 ^ k) : n ≤ k := by
 obtain ⟨xs, hr, hd, ht, hv⟩ := h
 rcases Nat.lt_or_ge k n with h | h
 ·have h1 := V_ge (B := 4294967296) (by decide) hd ht (fun e => by have := hr.1; rw [e] at this; simp at this; omega)
  have h2 : (4294967296 : Int) ^ k ≤ 4294967296 ^ (xs.length - 1) := ipow_le (by decide) (by have := hr.1; omega)
  omega
 ·exact h
theorem NatC.tl {w : World} {a : Option Addr} {n c : Nat} {z : Int} (h : NatC w a n c z) : ∃ xs, RowK .u32 w a n c xs ∧ Dig 4294967296 xs ∧ V 4294967296 xs = z ∧ tl xs = n := by
 obtain ⟨xs, hr, hd, ht, hv⟩ := h
 exact ⟨xs, hr, hd, hv, by rw [tl_of_trim ht, hr.1]⟩
/-- one of Newton's steps from above -/
theorem newton {X x : Int} (hX : 1 ≤ X) (hx : 1 ≤ x) : X < ((x + X / x) / 2 + 1) * ((x + X / x) / 2 + 1) ∧ 1 ≤ (x + X / x) / 2 := by
 have h1 : X < (X / x + 1) * x := Int.lt_ediv_add_one_mul_self X (by omega)
 have h0 : 0 ≤ X / x := Int.ediv_nonneg (by omega) (by omega)
 generalize X / x = q at *
 obtain ⟨y, hy⟩ : ∃ y, (x + q) / 2 = y := ⟨_, rfl⟩
 rw [hy]
 have h2 : x + q + 1 ≤ 2 * (y + 1) := by omega
 have h3 : (x + q + 1) * (x + q + 1) ≤ (2 * (y + 1)) * (2 * (y + 1)) := Int.mul_le_mul h2 h2 (by omega) (by omega)
 have h4 : 4 * ((q + 1) * x) ≤ (x + q + 1) * (x + q + 1) := by
  have h5 : 0 ≤ (x - (q + 1)) * (x - (q + 1)) := by
   rcases Int.lt_or_le (x - (q + 1)) 0 with h | h
   ·exact Int.mul_nonneg_of_nonpos_of_nonpos (by omega) (by omega)
   ·exact Int.mul_nonneg h h
  have e1 : ∀ p : Int, (x - p) * (x - p) = x * x - 2 * (p * x) + p * p := fun p => by
   rw [Int.sub_mul, Int.mul_sub, Int.mul_sub, Int.mul_comm x p]; omega
  have e2 : ∀ p : Int, (x + p) * (x + p) = x * x + 2 * (p * x) + p * p := fun p => by
   rw [Int.add_mul, Int.mul_add, Int.mul_add, Int.mul_comm x p]; omega
  rw [show x + q + 1 = x + (q + 1) from by omega, e2]
  rw [e1] at h5
  omega
 have e3 : (2 * (y + 1)) * (2 * (y + 1)) = 4 * ((y + 1) * (y + 1)) := by
  rw [Int.mul_assoc, Int.mul_left_comm (y + 1), ← Int.mul_assoc]; omega
 have h6 : X < (y + 1) * (y + 1) := by omega
 refine ⟨h6, ?_⟩
 rcases Int.lt_or_le 0 y with h | h
 ·omega
 ·have h7 : y = 0 := by omega
  rw [h7] at h6
  omega
theorem newton_end {X x : Int} (hx : 1 ≤ x) (h : x ≤ (x + X / x) / 2) : x * x ≤ X := by
 have h1 : x ≤ X / x := by omega
 exact (Int.le_ediv_iff_mul_le (by omega)).1 h1
theorem root_start {X : Int} {b : Nat} (h : IsBits X b) : X < (4294967296 ^ (b / 64 + 1) + 1) * (4294967296 ^ (b / 64 + 1) + 1) := by
 have e : (4294967296 : Int) ^ (b / 64 + 1) * 4294967296 ^ (b / 64 + 1) = 2 ^ (64 * (b / 64 + 1)) := by
  rw [← Int.pow_add, show (4294967296 : Int) = 2 ^ 32 from rfl, ← Int.pow_mul]
  congr 1
  omega
 have hp : (0 : Int) < 4294967296 ^ (b / 64 + 1) := Int.pow_pos (by decide)
 have h1 : X < 2 ^ (64 * (b / 64 + 1)) := by
  rcases h with ⟨h1, h2⟩ | ⟨h1, h2, h3⟩
  ·rw [h1]; exact Int.pow_pos (by decide)
  ·have : (2 : Int) ^ b ≤ 2 ^ (64 * (b / 64 + 1)) := ipow_le (by decide) (by omega)
   omega
 rw [Int.add_mul, Int.mul_add, Int.mul_one, Int.one_mul, e]
 omega
theorem pow_sum {z q : Int} {k n : Nat} (hz : z ≤ 4294967296 ^ k) (hq : q < 4294967296 ^ n) : z + q < 4294967296 ^ (k + n + 1) := by
 have h1 : (4294967296 : Int) ^ k ≤ 4294967296 ^ (k + n) := ipow_le (by decide) (by omega)
 have h2 : (4294967296 : Int) ^ n ≤ 4294967296 ^ (k + n) := ipow_le (by decide) (by omega)
 have h3 : (0 : Int) < 4294967296 ^ (k + n) := Int.pow_pos (by decide)
 rw [Int.pow_succ]
 omega
/-- a list of noughts with a 1 at its end -/
theorem one_at (k : Nat) : V 4294967296 ((List.replicate (k + 1) (0 : Int)).set k 1) = 4294967296 ^ k ∧ Dig 4294967296 ((List.replicate (k + 1) (0 : Int)).set k 1) ∧ Trimmed ((List.replicate (k + 1) (0 : Int)).set k 1) := by
 refine ⟨by rw [V_set (by simp), V_replicate, getD_replicate]; omega, (Dig.replicate (by decide) _).set k (by decide) (by decide), .inr ?_⟩
 rw [List.length_set, List.length_replicate, Nat.add_sub_cancel, getD_set_self (by simp)]
 decide

set_option maxHeartbeats 1000000 in
theorem root_any (a : Option Addr) (n0 c : Nat) (xs : List Int) (w : World) (ha : RowK .u32 w a n0 c xs) (hx : Dig 4294967296 xs) (hn0 : n0 ≤ 40000) :
  Calls Tryz.prog 81 #[.slice a n0 c] w fun e w' => ∃ r, 0 ≤ r ∧ r * r ≤ V 4294967296 xs ∧ V 4294967296 xs < (r + 1) * (r + 1) ∧ RetNat w r e w' := by
 have HA := Lib.hid ha
 have HX := Lib.hid hx
 have SA := Lib.hid (size_any a n0 c xs w ha)
 have HBI := Lib.hid (bits_any a n0 c xs w ha hx (by omega))
 have hn : tl xs ≤ n0 := by have := tl_le xs; rw [ha.1] at this; exact this
 have hV0 := (V_bd (B := 4294967296) (by decide) hx).1
 have hVb := (V_bd (B := 4294967296) (by decide) hx).2
 rw [ha.1] at hVb
 have HVB := Lib.hid hVb
 by_cases hz : tl xs = 0
 ·have HXZ := Lib.hid ((tl_pos (by decide) hx).2 hz)
  rw [hz] at SA
  clear ha hx hn hVb
  go_enter Tryz.func81, Tryz.ntmps81
  go_wp2_with fail
  refine SA.out.mono ?_; rintro e w1 ⟨rfl, rfl⟩
  go_wp2_with fail
  go_ret
  exact ⟨0, Int.le_refl _, by rw [HXZ.out]; decide, by rw [HXZ.out]; decide, RetNat.nil rfl⟩
 ·have hX1 : 1 ≤ V 4294967296 xs := by
   have : V 4294967296 xs ≠ 0 := fun e => hz ((tl_pos (by decide) hx).1 e)
   omega
  clear ha hx
  generalize tl xs = n at *
  have HDV := Lib.hid (fun (w1 : World) (b : Option Addr) (m0 d : Nat) (z : Int) (h : Below w.heap.size w w1) (hb : NatC w1 b m0 d z) (hm : m0 ≤ 90000) (h0 : z ≠ 0) =>
   show Calls Tryz.prog 101 #[.slice a n0 c, .slice b m0 d] w1 (RetQR w1 (V 4294967296 xs / z) (V 4294967296 xs % z)) from by
    obtain ⟨ys, hr, hd, -, rfl⟩ := hb
    exact ndiv_any a b n0 c m0 d xs ys w1 (HA.out.below h (Nat.le_refl _)) hr HX.out hd (by omega) hm h0)
  generalize V 4294967296 xs = X at *
  go_enter Tryz.func81, Tryz.ntmps81
  go_wp2_with fail
  refine SA.out.mono ?_; rintro e w1 ⟨rfl, rfl⟩
  go_wp2_with fail
  refine HBI.out.mono ?_; rintro e w1 ⟨bb, rfl, rfl, hbits⟩
  have hbb : bb ≤ 32 * n0 := by
   rcases hbits with ⟨h1, h2⟩ | ⟨h1, h2, h3⟩
   ·omega
   ·rcases Nat.lt_or_ge (32 * n0) bb with h | h
    ·have h4 : (2 : Int) ^ (32 * n0) ≤ 2 ^ (bb - 1) := ipow_le (by decide) (by omega)
     rw [Int.pow_mul] at h4
     have h5 : ((2 : Int) ^ 32) ^ n0 = 4294967296 ^ n0 := rfl
     omega
    ·exact h
  have hst := root_start hbits
  obtain ⟨k, hk⟩ : ∃ k, bb / 64 + 1 = k := ⟨_, rfl⟩
  rw [hk] at hst
  have e1 : (bb : Int) / 64 + 2 = (k : Int) + 1 := by omega
  have hk2 : k ≤ 40001 := by omega
  clear hbits hVb
  go_wp2_with (at_make; refine make_arr .u32 24 34 4 info_u32 (by decide) Tryz.underlying24 rfl _ _ rfl .i64 .i64 _ _ (k + 1) _ rfl rfl (by omega) (by omega) (by omega) ?_)
  intro w0 harr hb0 hs0
  have hco := harr.cell (i := k) (by simp)
  have hfo := harr.frozen k
  have harr2 := harr.set k 1
  obtain ⟨o1, o2, o3⟩ := one_at k
  have hfull := harr2.full (by rw [List.length_set, List.length_replicate]; omega)
  rw [List.length_set, List.length_replicate] at hfull
  have hnat : NatC _ _ _ _ _ := ⟨_, hfull, o2, o3, o1⟩
  have HNAT := Lib.hid hnat
  have HB0 := Lib.hid (hb0.setCell (p := ⟨w.heap.size, k, none⟩) (Nat.le_refl _) (.int .u32 1))
  have HST := Lib.hid hst
  clear harr harr2 hfull hnat o1 o2 o3 hb0 hst e1
  go_wp2_with fail
  go_loopg [3] (4294967296 ^ k + 1) (fun g u wr => ∃ (b : Option Addr) (m d : Nat) (z : Int), u = .slice b m d ∧ NatC wr b m d z ∧ 1 ≤ z ∧ z ≤ 4294967296 ^ k ∧ z < (g : Int) ∧ X < (z + 1) * (z + 1) ∧ Fresh w.heap.size b ∧ Below w.heap.size w wr)
  case atStart => exact ⟨_, _, _, _, rfl, HNAT.out, Int.pow_pos (by decide), Int.le_refl _, by rw [Int.natCast_add, Int.natCast_pow]; exact Int.lt_succ _, HST.out, Fresh.at (Nat.le_refl _), HB0.out⟩
  case round =>
   obtain ⟨b, m, d, z, rfl, hN, hz1, hzk, hzg, hXz, hf, hbl⟩ := hrel
   have hm : m ≤ k + 1 := hN.len (by rw [Int.pow_succ]; have : (0 : Int) < 4294967296 ^ k := Int.pow_pos (by decide); omega)
   obtain ⟨hnw1, hnw2⟩ := newton hX1 hz1
   have hq0 : 0 ≤ X / z := Int.ediv_nonneg hV0 (by omega)
   have HEND := Lib.hid (newton_end (X := X) hz1)
   have HDV1 := Lib.hid (HDV.out wr b m d z hbl hN (by omega) (by omega))
   have HN := Lib.hid hN
   have HF := Lib.hid hf
   have HBL := Lib.hid hbl
   have HNW := Lib.hid hnw1
   have HXZ := Lib.hid hXz
   have HZK := Lib.hid hzk
   have hqn : X / z < 4294967296 ^ n0 := Int.lt_of_le_of_lt (Int.ediv_le_self z hV0) HVB.out
   have HZQ : Hid (z + X / z < 4294967296 ^ (k + n0 + 1)) := Lib.hid (pow_sum HZK.out hqn)
   clear hN hf hbl hnw1 hXz hzk
   generalize X / z = q at *
   generalize X % z = r at *
   go_wp2_with fail
   refine HDV1.out.mono ?_; rintro e w1 ⟨a1, m1, d1, a2, m2, d2, rfl, hN1, hN2, hb1, hf1, hf2⟩
   have hm1 := hN1.len hqn
   obtain ⟨zs, hzr, hzd, hzv, hzt⟩ := HN.out.tl
   obtain ⟨qs, hqr, hqd, hqv, hqt⟩ := hN1.tl
   have hadd := nadd_any b a1 m d m1 d1 zs qs w1 (hzr.below hb1 (Nat.le_refl _)) hqr hzd hqd (by omega) (by omega)
   rw [hzv, hqv] at hadd
   have HADD := Lib.hid hadd
   have HB1 := Lib.hid hb1
   have HZR := Lib.hid hzr
   have HZD := Lib.hid hzd
   have HZV := Lib.hid hzv
   have HZT := Lib.hid hzt
   clear hN1 hN2 hf1 hf2 hqr hqd hqv hqt hadd hqn hb1 hzr hzd hzv hzt
   go_wp2_with fail
   refine HADD.out.mono ?_; rintro e w2 ⟨a3, m3, d3, rfl, hN3, hb3, hf3⟩
   have hm3 : m3 ≤ 90000 := by have := hN3.len HZQ.out; omega
   obtain ⟨ss, hsr, hsd, hsv, -⟩ := hN3.tl
   have hshr := shr_any a3 m3 d3 1 1 0 1 ss w2 hsr hsd (by omega) (by decide) (by decide) (by decide) (by decide)
   rw [hsv, Int.pow_one] at hshr
   have HSHR := Lib.hid hshr
   have HB3 := Lib.hid hb3
   clear hN3 hb3 hf3 hsr hsd hsv hshr
   go_wp2_with fail
   refine HSHR.out.mono ?_; rintro e w3 ⟨a4, m4, d4, rfl, hN4, hb4, hf4⟩
   obtain ⟨yv, hyv⟩ : ∃ y, (z + q) / 2 = y := ⟨_, rfl⟩
   rw [hyv] at hN4 hnw2 HNW HEND
   obtain ⟨us, hur, hud, huv, -⟩ := hN4.tl
   have hbx : Below wr.heap.size wr w3 := (HB1.out.trans (HB3.out.mono HB1.out.size)).trans (hb4.mono (by have := HB1.out.size; have := HB3.out.size; omega))
   have hcmp := ncmp_any a4 b m4 d4 m d us zs w3 hur (HZR.out.below hbx (Nat.le_refl _)) hud HZD.out
   rw [huv, HZV.out] at hcmp
   have HCMP := Lib.hid hcmp
   have HBX := Lib.hid hbx
   have HN4 := Lib.hid hN4
   have HF4 : Hid (Fresh w.heap.size a4) := Lib.hid (hf4.mono (by have := HB1.out.size; have := HB3.out.size; have := HBL.out.size; omega))
   have HYV := Lib.hid hyv
   clear hN4 hb4 hf4 hur hud huv hcmp hbx hyv
   by_cases hge : z ≤ yv
   ·have hcz := cmpZ_ge hge
    generalize cmpZ yv z = cz at *
    have hcz' : cz ≥ 0 := hcz
    go_wp2_with fail
    refine HCMP.out.mono ?_; rintro e w4 ⟨rfl, hb5⟩
    have HB5 := Lib.hid (HBX.out.trans (hb5.mono HBX.out.size))
    have hsz := size_any b m d zs w4 (HZR.out.below HB5.out (Nat.le_refl _))
    rw [HZT.out] at hsz
    have HSZ := Lib.hid hsz
    have hml : m ≤ d := HZR.out.2.1
    have hdl : d ≤ 9223372036854775807 := by have := HZR.out.2.2.1; unfold maxLen at this; exact this
    clear hb5 hsz
    go_wp2_with fail
    refine HSZ.out.mono ?_; rintro e w5 ⟨rfl, rfl⟩
    go_wp2_with fail
    go_ret
    exact ⟨z, by omega, HEND.out (by have := HYV.out; omega), HXZ.out, b, m, d, rfl, HN.out.below HB5.out (Nat.le_refl _), HBL.out.trans (HB5.out.mono HBL.out.size), HF.out⟩
   ·have hcz := cmpZ_lt (show yv < z by omega)
    rw [hcz] at HCMP
    go_wp2_with fail
    refine HCMP.out.mono ?_; rintro e w4 ⟨rfl, hb5⟩
    have HB5 := Lib.hid (HBX.out.trans (hb5.mono HBX.out.size))
    have HN5 := Lib.hid (HN4.out.below hb5 (Nat.le_refl _))
    clear hb5 hcz
    go_wp2_with fail
    go_roundg yv.toNat.succ
    case measure => omega
    case rel => exact ⟨a4, m4, d4, yv, rfl, HN5.out, hnw2, by have := HZK.out; omega, by omega, HNW.out, HF4.out, HBL.out.trans (HB5.out.mono HBL.out.size)⟩
end Go.Proofs.YtehmompbmnejkaaGreat
/- Contracts of package nat's Shl and Noughts. Conditions: the words are below 2^32; at most 80000 of them. -/
namespace Go.Proofs.YtehmompbmnejkaaGreat
open Go.RowKit

theorem V_noughts (k : Nat) (os : List Int) : V 4294967296 (List.replicate k 0 ++ os) = 4294967296 ^ k * V 4294967296 os := by
 unfold V
 rw [List.length_append, List.length_replicate, vf_split]
 have e1 : vf 4294967296 (fun i => (List.replicate k (0 : Int) ++ os).getD i 0) k = 0 := by
  have h : ∀ n, n ≤ k → vf 4294967296 (fun i => (List.replicate k (0 : Int) ++ os).getD i 0) n = 0 := by
   intro n
   induction n with
   | zero => intro _; rfl
   | succ n ih =>
    intro hn
    show vf 4294967296 _ n + (List.replicate k (0 : Int) ++ os).getD n 0 * 4294967296 ^ n = 0
    rw [ih (by omega), getD_append_lt (by simp; omega), getD_replicate]
    simp
  exact h k (Nat.le_refl _)
 rw [e1, Int.zero_add]
 congr 1
 exact vf_congr _ fun i _ => by
  rw [List.getD_eq_getElem?_getD, List.getD_eq_getElem?_getD, List.getElem?_append_right (by simp), List.length_replicate, Nat.add_sub_cancel_left]
theorem dig_append {B : Int} {xs ys : List Int} (h : Dig B xs) (k : Dig B ys) : Dig B (xs ++ ys) := fun d hd => by
 rcases List.mem_append.1 hd with h1 | h1
 ·exact h d h1
 ·exact k d h1

theorem shl_no (a : Option Addr) (n0 c : Nat) (nn : Int) (w : World) (h : nn < 0 ∨ 8192 < nn) :
  Calls Tryz.prog 72 #[.slice a n0 c, .int .i64 nn] w fun e w' => e = .returned (.tuple #[.slice none 0 0, .bool false]) ∧ w = w' := by
 by_cases h0 : nn < 0
 ·clear h
  go_enter Tryz.func72, Tryz.ntmps72
  go_wp2_with fail
  go_ret2
  exact ⟨rfl, rfl⟩
 ·have h1 : 8192 < nn := by omega
  clear h
  go_enter Tryz.func72, Tryz.ntmps72
  go_wp2_with fail
  go_ret2
  exact ⟨rfl, rfl⟩

set_option maxHeartbeats 1000000 in
theorem shl_any (a : Option Addr) (n0 c N k s : Nat) (xs : List Int) (w : World) (ha : RowK .u32 w a n0 c xs) (hx : Dig 4294967296 xs) (hn0 : n0 ≤ 80000) (hks : N = 32 * k + s) (hs : s ≤ 31) (hN : N ≤ 8192) :
  Calls Tryz.prog 72 #[.slice a n0 c, .int .i64 N] w (RetNatB w (V 4294967296 xs * 2 ^ N)) := by
 have HM := Lib.hid (move_any a n0 c s xs w ha hx (by omega) hs)
 have hn : tl xs ≤ n0 := by have := tl_le xs; rw [ha.1] at this; exact this
 have hk1 : (N : Int) / 32 = (k : Int) := by omega
 have hs1 : (N : Int) % 32 = (s : Int) := by omega
 have HZ : Hid (4294967296 ^ k * (V 4294967296 xs * 2 ^ s) = V 4294967296 xs * 2 ^ N) := Lib.hid (by rw [pow_ks hks, Int.mul_left_comm])
 have hkb : k ≤ 256 := by omega
 clear ha hx hks
 generalize V 4294967296 xs = X at *
 generalize tl xs = n at *
 go_enter Tryz.func72, Tryz.ntmps72
 go_wp2_with fail
 refine HM.out.mono ?_; rintro e w1 ⟨os, rfl, harr, hlo, hdo, hv, hb1⟩
 have HARR := Lib.hid harr
 have HLO := Lib.hid hlo
 have HDO := Lib.hid hdo
 have HV := Lib.hid hv
 have HB1 := Lib.hid hb1
 clear harr hlo hdo hv hb1
 go_wp2_with (at_make; refine make_arr .u32 24 34 4 info_u32 (by decide) Tryz.underlying24 rfl _ _ rfl .i64 .i64 _ _ k _ rfl rfl (by omega) (by omega) (by omega) ?_)
 intro w2 harr2 hb2 hs2
 have HB2 := Lib.hid hb2
 have HOW := Lib.hid (OwnK.ofArr harr2 (List.length_replicate (n := k)) (by unfold maxLen; omega))
 have hfull := HARR.out.full (by rw [HLO.out]; omega)
 rw [HLO.out] at hfull
 have HROW := Lib.hid (hfull.below hb2 (Nat.le_refl _))
 clear harr2 hb2 hfull
 go_wp2_with (at_builtin; refine wpList_append_row .u32 24 34 4 info_u32 (by decide) Tryz.underlying24 rfl _ _ rfl w2 w1.heap.size (.slice (some ⟨w1.heap.size, 0, none⟩) k k) k (List.replicate k 0) (some ⟨w.heap.size, 0, none⟩) (n + 1) (n + 1) os rfl rfl HOW.out HROW.out (fun h => by cases h) (by omega) (by rw [hs2]; omega) ?_)
 intro v3 w3 hown hg hbl
 obtain ⟨p, cap, hv3⟩ := hown.form
 subst hv3
 have hrow := hown.row
 have hfr := hown.fresh
 have hb3 : Below w1.heap.size w1 w3 := hbl w1 HB2.out
 have hdig : Dig 4294967296 (List.replicate k 0 ++ os) := dig_append (Dig.replicate (by decide) k) HDO.out
 have hval : V 4294967296 (List.replicate k 0 ++ os) = X * 2 ^ N := by rw [V_noughts, HV.out, HZ.out]
 generalize List.replicate k 0 ++ os = ls at *
 have hle := tl_le ls
 rw [hrow.1] at hle
 have HS := Lib.hid (size_any p _ cap ls w3 hrow)
 have hcap := hrow.2.1
 have hcm : cap ≤ 9223372036854775807 := by have := hrow.2.2.1; unfold maxLen at this; omega
 have HRET : Hid (RetNatB w (X * 2 ^ N) (.returned (.tuple #[.slice p (tl ls) cap, .bool true])) w3) := Lib.hid
  ⟨p, tl ls, cap, rfl, ⟨ls.take (tl ls), hrow.take hle, hdig.take _, tl_trim ls, by rw [tl_V]; exact hval⟩, HB1.out.trans (hb3.mono HB1.out.size), hfr.mono HB1.out.size⟩
 clear hown hg hbl hrow hfr hb3 hdig hval
 generalize tl ls = t at *
 go_wp2_with fail
 refine HS.out.mono ?_; rintro e w4 ⟨rfl, rfl⟩
 go_wp2_with fail
 go_ret2
 exact HRET.out

/-- r is how often X can be halved -/
def IsHalf (X : Int) (r : Nat) : Prop := (X = 0 ∧ r = 0) ∨ ∃ o : Int, X = 2 ^ r * (2 * o + 1)
theorem half_of {X t rest : Int} {i j : Nat} (hX : X = 4294967296 ^ i * (t + 4294967296 * rest)) (hj : j ≤ 31) (ht : t = t / 2 ^ j * 2 ^ j) (ho : t / 2 ^ j % 2 = 1) : IsHalf X (32 * i + j) := by
 refine .inr ⟨t / 2 ^ j / 2 + 2 ^ (31 - j) * rest, ?_⟩
 have e1 : (4294967296 : Int) = 2 ^ j * (2 * 2 ^ (31 - j)) := by
  rw [Int.mul_comm 2, ← Int.pow_succ, ← Int.pow_add, show j + (31 - j + 1) = 32 from by omega]; rfl
 have e2 : (4294967296 : Int) ^ i = 2 ^ (32 * i) := by rw [Int.pow_mul]; rfl
 rw [hX, e2, Int.pow_add, Int.mul_assoc]
 congr 1
 have e3 : t / 2 ^ j = 2 * (t / 2 ^ j / 2) + 1 := by omega
 generalize t / 2 ^ j = u at *
 rw [ht, e1]
 generalize (2 : Int) ^ (31 - j) = R
 generalize (2 : Int) ^ j = P
 have e4 : u * P = P * (2 * (u / 2) + 1) := by rw [← e3, Int.mul_comm]
 rw [e4, Int.mul_assoc P, ← Int.mul_add]
 congr 1
 rw [Int.mul_add 2, Int.mul_assoc 2]
 omega
theorem V_from {xs : List Int} {i : Nat} (hi : i < xs.length) (hz : ∀ j, j < i → xs.getD j 0 = 0) : ∃ rest, V 4294967296 xs = 4294967296 ^ i * (xs.getD i 0 + 4294967296 * rest) := by
 obtain ⟨r, hr⟩ : ∃ r, xs.length = i + (1 + r) := ⟨xs.length - i - 1, by omega⟩
 refine ⟨vf 4294967296 (fun j => xs.getD (i + (1 + j)) 0) r, ?_⟩
 unfold V
 rw [hr, vf_split, vf_split (B := 4294967296) (fun j => xs.getD (i + j) 0)]
 have e1 : vf 4294967296 (fun j => xs.getD j 0) i = 0 := by
  have := vf_zero (B := 4294967296) (f := fun j => xs.getD j 0) 0 i (fun j _ h => hz j (by omega))
  rw [Nat.zero_add] at this
  exact this
 have e2 : vf 4294967296 (fun j => xs.getD (i + j) 0) 1 = xs.getD i 0 := by simp [vf]
 rw [e1, e2, Int.zero_add, Int.pow_one]
theorem V_none {xs : List Int} (hz : ∀ j, j < xs.length → xs.getD j 0 = 0) : V 4294967296 xs = 0 := by
 have := vf_zero (B := 4294967296) (f := fun j => xs.getD j 0) 0 xs.length (fun j _ h => hz j (by omega))
 rw [Nat.zero_add] at this
 exact this

set_option maxHeartbeats 1000000 in
theorem noughts_any (a : Option Addr) (n0 c : Nat) (xs : List Int) (w : World) (ha : RowK .u32 w a n0 c xs) (hx : Dig 4294967296 xs) (hn0 : n0 ≤ 100000) :
  Calls Tryz.prog 100 #[.slice a n0 c] w fun e w' => ∃ b : Nat, e = .returned (.int .i64 b) ∧ w = w' ∧ IsHalf (V 4294967296 xs) b := by
 have HA := Lib.hid ha
 have HX := Lib.hid hx
 have HL := Lib.hid ha.1
 clear ha hx
 go_enter Tryz.func100, Tryz.ntmps100
 go_wp2_with fail
 go_loopg [8] n0 (fun k u wr => ∃ i : Nat, u = .int .i64 i ∧ i + k = n0 ∧ (∀ j, j < i → xs.getD j 0 = 0) ∧ w = wr)
 case atStart => exact ⟨0, rfl, by omega, fun j h => by omega, rfl⟩
 case round =>
  obtain ⟨i, rfl, hk, hz, rfl⟩ := hrel
  have HK := Lib.hid hk
  have HZ := Lib.hid hz
  clear hk hz
  by_cases hi : i < n0
  ·obtain ⟨-, -, -, h4⟩ := HA.out
   rcases h4 with hcap0 | ⟨ba, oa, rfl, -, hc⟩
   ·have := HA.out.2.1; omega
   have hc1 := hc i hi
   have hxr := HX.out.at (by decide) i
   obtain ⟨t, ht⟩ : ∃ d, xs.getD i 0 = d := ⟨_, rfl⟩
   rw [ht] at hc1 hxr
   have HT := Lib.hid ht
   obtain ⟨t0, t1⟩ := hxr
   clear hc ht
   by_cases h0 : t = 0
   ·subst h0
    go_wp2_with fail
    go_roundg (gk - 1)
    case measure => have := HK.out; omega
    case rel => exact ⟨i + 1, by go_num, by have := HK.out; omega, fun j hj => (by
     by_cases h : j = i
     ·rw [h]; exact HT.out
     ·exact HZ.out j (by omega)), rfl⟩
   ·have hq : (t == 0) = false := by simpa using h0
    obtain ⟨rest, hrest⟩ := V_from (by rw [HL.out]; exact hi) HZ.out
    rw [HT.out] at hrest
    have HR := Lib.hid hrest
    clear hrest
    go_wp2_with fail
    go_loopg [4, 5] 32 (fun k2 tu nu wi => ∃ j : Nat, tu = .int .u32 (t / 2 ^ j) ∧ nu = .int .i64 ((32 * i + j : Nat) : Int) ∧ j + k2 = 32 ∧ t = t / 2 ^ j * 2 ^ j ∧ w = wi)
    case atStart => exact ⟨0, by simp, by go_num, rfl, by simp, rfl⟩
    case round =>
     obtain ⟨j, rfl, rfl, hk2, htj, rfl⟩ := hrel
     have HK2 := Lib.hid hk2
     have HTJ := Lib.hid htj
     have hp : (0 : Int) < 2 ^ j := Int.pow_pos (by decide)
     have q0 : 0 ≤ t / 2 ^ j := Int.ediv_nonneg t0 (by omega)
     have q1 : t / 2 ^ j ≠ 0 := fun e => by rw [e, Int.zero_mul] at htj; omega
     have hlt : j < 32 := by
      rcases Nat.lt_or_ge j 32 with h | h
      ·exact h
      ·have h5 : (2 : Int) ^ 32 ≤ 2 ^ j := ipow_le (by decide) h
       have h6 := Int.ediv_eq_zero_of_lt t0 (show t < 2 ^ j by omega)
       exact absurd h6 q1
     have q2 : t / 2 ^ j < 4294967296 := Int.lt_of_le_of_lt (Int.ediv_le_self _ t0) t1
     have HD2 : Hid (t / 2 ^ j / 2 = t / 2 ^ (j + 1)) := Lib.hid (by rw [Int.pow_succ, Int.ediv_ediv_of_nonneg (Int.le_of_lt hp)])
     have HEV : Hid (t / 2 ^ j % 2 = 0 → t = t / 2 ^ (j + 1) * 2 ^ (j + 1)) := Lib.hid fun h => by
      rw [← HD2.out, Int.pow_succ, Int.mul_comm (2 ^ j), ← Int.mul_assoc, show t / 2 ^ j / 2 * 2 = t / 2 ^ j from by omega]
      exact HTJ.out
     have HOD : Hid (t / 2 ^ j % 2 = 1 → IsHalf (V 4294967296 xs) (32 * i + j)) := Lib.hid fun h => half_of HR.out (by omega) HTJ.out h
     clear hk2 htj q1
     obtain ⟨q, hqq⟩ : ∃ q, t / 2 ^ j = q := ⟨_, rfl⟩
     rw [hqq] at q0 q2 HD2 HEV HOD ⊢
     clear hqq hp
     by_cases hev : q % 2 = 0
     ·have HE := Lib.hid (HEV.out hev)
      go_wp2_with fail
      go_roundg (gk - 1)
      case measure => have := HK2.out; omega
      case rel => exact ⟨j + 1, congrArg (Value.int .u32) HD2.out, by go_num, by have := HK2.out; omega, HE.out, rfl⟩
     ·have HB := Lib.hid (HOD.out (by omega))
      have hev2 : (q % 2 == 0) = false := by simpa using hev
      go_wp2_with fail
      go_ret
      exact ⟨_, rfl, rfl, HB.out⟩
  ·have hin : i = n0 := by have := HK.out; omega
   have H0 : Hid (V 4294967296 xs = 0) := Lib.hid (V_none fun j hj => HZ.out j (by rw [HL.out] at hj; omega))
   clear hin
   go_wp2_with fail
   go_ret
   exact ⟨0, rfl, rfl, .inl ⟨H0.out, rfl⟩⟩
end Go.Proofs.YtehmompbmnejkaaGreat
/- Contracts of package nat's Shl and Shr at any count, a number's bit by its words. Conditions: at most 80000 words. -/
namespace Go.Proofs.YtehmompbmnejkaaGreat
open Go.RowKit

theorem Arr.new {w : World} {k : IntKind} {e : TypeId} {cs : Array Value} {n : Nat} (xs : List Int) (h : cs = (xs.map (Value.int k)).toArray) (hn : n = w.heap.size) : Arr k e (w.alloc (.cells cs e)) n xs := by
 subst hn
 show (w.alloc _).heap[w.heap.size]? = _
 rw [heap_alloc_new, h]
/-- what the two shifts answer -/
def ShlOut (X : Int) (n : Int) (w : World) (e : Ending) (w' : World) : Prop :=
 ((n < 0 ∨ 8192 < n) ∧ e = .returned (.tuple #[.slice none 0 0, .bool false]) ∧ w = w') ∨ (∃ N : Nat, n = N ∧ N ≤ 8192 ∧ RetNatB w (X * 2 ^ N) e w')
theorem shl_all (a : Option Addr) (n c : Nat) (s : Int) (xs : List Int) (w : World) (ha : RowK .u32 w a n c xs) (hx : Dig 4294967296 xs) (hn0 : n ≤ 80000) :
  Calls Tryz.prog 72 #[.slice a n c, .int .i64 s] w (ShlOut (V 4294967296 xs) s w) := by
 by_cases h : s < 0 ∨ 8192 < s
 ·refine (shl_no a n c s w h).mono ?_
  rintro e w' ⟨rfl, rfl⟩
  exact .inl ⟨h, rfl, rfl⟩
 ·obtain ⟨N, rfl⟩ : ∃ N : Nat, s = N := ⟨s.toNat, by omega⟩
  refine (shl_any a n c N (N / 32) (N % 32) xs w ha hx hn0 (by omega) (by omega) (by omega)).mono ?_
  intro e w' h1
  exact .inr ⟨N, rfl, by omega, h1⟩
theorem shr_all (a : Option Addr) (n c : Nat) (s : Int) (xs : List Int) (w : World) (ha : RowK .u32 w a n c xs) (hx : Dig 4294967296 xs) (hn0 : n ≤ 80000) (hs : s ≤ 9223372036854775807) :
  Calls Tryz.prog 98 #[.slice a n c, .int .i64 s] w (RetNat w (V 4294967296 xs / 2 ^ s.toNat)) :=
 shr_any a n c s s.toNat (s.toNat / 32) (s.toNat % 32) xs w ha hx (by omega) rfl (by omega) (by omega) hs
/-- a number's bit, by its words -/
theorem bit_at {ks : List Int} {i j : Nat} (hk : Dig 4294967296 ks) (hi : i < ks.length) (hj : j ≤ 31) : ks.getD i 0 / 2 ^ j % 2 = V 4294967296 ks / 2 ^ (32 * i + j) % 2 := by
 obtain ⟨r, hr⟩ : ∃ r, V 4294967296 ks = vf 4294967296 (fun t => ks.getD t 0) i + 4294967296 ^ i * (ks.getD i 0 + 4294967296 * r) := by
  have h : ∀ n, ∃ r, vf 4294967296 (fun t => ks.getD t 0) (i + 1 + n) = vf 4294967296 (fun t => ks.getD t 0) i + 4294967296 ^ i * (ks.getD i 0 + 4294967296 * r) := by
   intro n
   induction n with
   | zero => exact ⟨0, by rw [Int.mul_zero, Int.add_zero, Int.mul_comm]; rfl⟩
   | succ n ih =>
    obtain ⟨r, hr⟩ := ih
    refine ⟨r + ks.getD (i + 1 + n) 0 * 4294967296 ^ n, ?_⟩
    show vf 4294967296 (fun t => ks.getD t 0) (i + 1 + n) + ks.getD (i + 1 + n) 0 * 4294967296 ^ (i + 1 + n) = _
    rw [hr, Int.mul_add 4294967296 r, ← Int.add_assoc, Int.mul_add (4294967296 ^ i) (ks.getD i 0 + _), ← Int.add_assoc]
    congr 1
    rw [Int.pow_add, Int.pow_succ]
    ac_rfl
  obtain ⟨n, hn⟩ : ∃ n, ks.length = i + 1 + n := ⟨ks.length - (i + 1), by omega⟩
  unfold V
  rw [hn]
  exact h n
 have hlo := vf_bd (B := 4294967296) (by decide) (f := fun t => ks.getD t 0) i fun t _ => hk.at (by decide) t
 have e : (2 : Int) ^ (32 * i + j) = 4294967296 ^ i * 2 ^ j := by rw [Int.pow_add, Int.pow_mul]; rfl
 have p : (0 : Int) < 4294967296 ^ i := Int.pow_pos (by decide)
 rw [hr, e, ← Int.ediv_ediv_of_nonneg (Int.le_of_lt p), Int.add_mul_ediv_left _ _ (Int.ne_of_gt p), Int.ediv_eq_zero_of_lt hlo.1 hlo.2, Int.zero_add]
 obtain ⟨q, hq⟩ : ∃ q : Int, 4294967296 = 2 ^ j * (2 * q) := ⟨2 ^ (31 - j), by rw [Int.mul_comm 2, ← Int.pow_succ, ← Int.pow_add, show j + (31 - j + 1) = 32 from by omega]; rfl⟩
 have p2 : (0 : Int) < 2 ^ j := Int.pow_pos (by decide)
 have e2 : (4294967296 : Int) * r = 2 ^ j * (2 * (q * r)) := by rw [← Int.mul_assoc 2, ← Int.mul_assoc, ← hq]
 rw [e2, Int.add_mul_ediv_left _ _ (Int.ne_of_gt p2)]
 omega
end Go.Proofs.YtehmompbmnejkaaGreat
