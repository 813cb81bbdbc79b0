/- Contract of package nat's move. Conditions: the words are below 2^32; at most 100000 of them; the shift below 32. -/
import Derived.Test.YtdbkgpakpadloaaGreatDoorMNatA
import Derived.Deep.DeepCutAuto
namespace Go.Proofs.YtdbkgpakpadloaaGreatDoor
open Go.RowKit

theorem pow_split {s : Nat} (hs : s ≤ 32) : ∃ R : Int, (2 : Int) ^ s * R = 4294967296 := ⟨2 ^ (32 - s), by rw [← Int.pow_add, show s + (32 - s) = 32 from by omega]; rfl⟩

/-- a call's answer: a list of its own of just n words, with the value z -/
def RetRow (w : World) (n : Nat) (z : Int) (e : Ending) (w' : World) : Prop := ∃ os, e = .returned (.slice (some ⟨w.heap.size, 0, none⟩) n n) ∧ Arr .u32 48 w' w.heap.size os ∧ os.length = n ∧ Dig 4294967296 os ∧ V 4294967296 os = z ∧ Below w.heap.size w w'
theorem dvd_mod {o y P R : Int} (hP : 0 < P) (hR : P * R = 4294967296) (hy : y % P = 0) (ho : o < P) : o + y % 4294967296 < 4294967296 := by
  have h1 : y % 4294967296 % P = 0 := by rw [← hR, Int.emod_emod_of_dvd _ (Int.dvd_mul_right P R)]; exact hy
  have h2 := Int.emod_lt_of_pos y (show (0 : Int) < 4294967296 by decide)
  obtain ⟨k, hk⟩ := Int.dvd_of_emod_eq_zero h1
  have h3 : k < R := by
    apply Int.lt_of_mul_lt_mul_left (a := P) _ (by omega)
    omega
  have h4 : P * (k + 1) ≤ P * R := Int.mul_le_mul_of_nonneg_left (by omega) (by omega)
  rw [Int.mul_add, Int.mul_one] at h4
  omega
theorem or_mod {o y : Int} {s : Nat} (hs : s ≤ 31) (ho0 : 0 ≤ o) (ho : o < 2 ^ s) (hy : y % 2 ^ s = 0) : bits .or .u32 o (y % 4294967296) = o + y % 4294967296 := by
  obtain ⟨R, hR⟩ := pow_split (show s ≤ 32 by omega)
  have hb := dvd_mod (Int.pow_pos (by decide)) hR hy ho
  have h2 := Int.emod_lt_of_pos y (show (0 : Int) < 4294967296 by decide)
  have h3 := Int.emod_nonneg y (show (4294967296 : Int) ≠ 0 by decide)
  have h1 : y % 4294967296 % 2 ^ s = 0 := by rw [← hR, Int.emod_emod_of_dvd _ (Int.dvd_mul_right _ _)]; exact hy
  generalize y % 4294967296 = z at *
  rw [bits_or_u32 ho0 (by omega) h3 h2]
  obtain ⟨a, rfl⟩ := Int.eq_ofNat_of_zero_le ho0
  obtain ⟨k, hk⟩ := Int.dvd_of_emod_eq_zero h1
  have hk0 : 0 ≤ k := by
    rcases Int.lt_or_le k 0 with h | h
    · have h5 : (2 : Int) ^ s * k < 0 := Int.mul_neg_of_pos_of_neg (Int.pow_pos (by decide)) h
      omega
    · exact h
  obtain ⟨b, rfl⟩ := Int.eq_ofNat_of_zero_le hk0
  have hz : z = ((b * 2 ^ s : Nat) : Int) := by rw [hk, Int.mul_comm]; simp
  have hoa : a < 2 ^ s := by
    have h : ((a : Nat) : Int) < ((2 ^ s : Nat) : Int) := by simpa using ho
    omega
  rw [hz, Int.toNat_natCast, Int.toNat_natCast, Nat.or_comm, or_nat hoa]
  omega
theorem mul_pow_bd {x : Int} {s : Nat} (hx0 : 0 ≤ x) (hx1 : x < 4294967296) (hs : s ≤ 31) : 0 ≤ x * 2 ^ s ∧ x * 2 ^ s < 9223372036854775808 ∧ x * 2 ^ s % 2 ^ s = 0 ∧ x * 2 ^ s / 4294967296 < 2 ^ s := by
  have h2 : (2 : Int) ^ s ≤ 2 ^ 31 := ipow_le (by decide) hs
  have h0 : (0 : Int) < 2 ^ s := Int.pow_pos (by decide)
  have h := prod_bd (A := 4294967295) (B := 2147483648) hx0 (y := 2 ^ s) (by omega) (by omega) (by omega)
  refine ⟨h.1, by omega, Int.mul_emod_left _ _, Int.ediv_lt_of_lt_mul (by decide) ?_⟩
  rw [Int.mul_comm x]
  exact Int.mul_lt_mul_of_pos_left hx1 h0
/-- one place of a shift -/
theorem move_step {B o y P : Int} {os : List Int} {f : Nat → Int} {i : Nat} (hi : i + 1 < os.length) (ho : os.getD i 0 = o) (hz : os.getD (i + 1) 0 = 0) (hv : V B os = vf B f i * P) (hy : f i * P = y) :
    V B ((os.set i (o + y % B)).set (i + 1) (y / B)) = vf B f (i + 1) * P := by
  rw [V_set (by rw [List.length_set]; exact hi), getD_set_ne (by omega), hz, V_set (by omega), ho, Int.sub_zero, hv]
  have e1 : vf B f (i + 1) = vf B f i + f i * B ^ i := rfl
  have e2 : f i * B ^ i * P = y * B ^ i := by rw [← hy, Int.mul_assoc, Int.mul_comm (B ^ i), ← Int.mul_assoc]
  have e3 : y % B * B ^ i + y / B * B ^ (i + 1) = y * B ^ i := by
    rw [Int.pow_succ, Int.mul_comm (B ^ i) B, ← Int.mul_assoc, ← Int.add_mul]
    congr 1
    rw [Int.mul_comm]
    exact Int.emod_add_mul_ediv _ _
  rw [e1, Int.add_mul, e2, show o + y % B - o = y % B from by omega]
  omega

set_option maxHeartbeats 1000000 in
theorem move_any (a : Option Addr) (n0 c s : Nat) (xs : List Int) (w : World) (ha : RowK .u32 w a n0 c xs) (hx : Dig 4294967296 xs) (hn0 : n0 ≤ 100000) (hs : s ≤ 31) :
    Calls Tryz.prog 66 #[.slice a n0 c, .int .i64 s] w (RetRow w (tl xs + 1) (V 4294967296 xs * 2 ^ s)) := by
  have HA := Lib.hid ha
  have HX := Lib.hid hx
  have SA := Lib.hid (size_any a n0 c xs w ha)
  have hn : tl xs ≤ n0 := by have := tl_le xs; rw [ha.1] at this; exact this
  have FX := Lib.hid (vf_tl (B := 4294967296) xs)
  clear ha hx
  generalize tl xs = n at *
  generalize V 4294967296 xs = X at *
  go_enter Tryz.func66, Tryz.ntmps66
  go_wp2_with fail
  refine SA.out.mono ?_; rintro e w1 ⟨rfl, rfl⟩
  go_wp2_with (at_make; refine make_arr .u32 41 48 4 info_u32 (by decide) Tryz.underlying41 rfl _ _ rfl .i64 .i64 _ _ (n + 1) _ rfl rfl (by omega) (by omega) (by omega) ?_)
  intro w0 harr hb0 hs0
  have HB0 := Lib.hid hb0
  have HARR0 := Lib.hid harr
  clear hb0 harr
  go_wp2_with fail
  go_loopg [15] n (fun k u wr => ∃ (i : Nat) (os : List Int), u = .int .i64 i ∧ i + k = n ∧ Arr .u32 48 wr w.heap.size os ∧ os.length = n + 1 ∧ Dig 4294967296 os ∧
    V 4294967296 os = vf 4294967296 (fun j => xs.getD j 0) i * 2 ^ s ∧ os.getD i 0 < 2 ^ s ∧ (∀ j, i < j → os.getD j 0 = 0) ∧ Below w.heap.size w wr)
  case atStart => exact ⟨0, _, rfl, by omega, HARR0.out, by simp, Dig.replicate (by decide) _, by rw [V_replicate]; simp [vf], by rw [getD_replicate]; exact Int.pow_pos (by decide), fun j _ => getD_replicate _ _, HB0.out⟩
  case round =>
    obtain ⟨i, os, rfl, hk, harr, hlo, hdo, hv, hlt, hzr, hbl⟩ := hrel
    have HK := Lib.hid hk
    have HARR := Lib.hid harr
    have HLO := Lib.hid hlo
    have HDO := Lib.hid hdo
    have HV := Lib.hid hv
    have HLT := Lib.hid hlt
    have HZR := Lib.hid hzr
    have HBL := Lib.hid hbl
    clear hk harr hlo hdo hv hlt hzr
    by_cases hi : i < n
    · obtain ⟨-, -, -, h4⟩ := HA.out.below hbl (Nat.le_refl _)
      rcases h4 with hcap0 | ⟨ba, oa, rfl, -, hc⟩
      · have := HA.out.2.1; omega
      have hc1 := hc i (by omega)
      have hxr := HX.out.at (by decide) i
      obtain ⟨x, hxx⟩ : ∃ d, xs.getD i 0 = d := ⟨_, rfl⟩
      rw [hxx] at hc1 hxr
      have HXX := Lib.hid hxx
      have hco := HARR.out.cell (i := i) (by rw [HLO.out]; omega)
      have hfo := HARR.out.frozen i
      obtain ⟨o, ho⟩ : ∃ d, os.getD i 0 = d := ⟨_, rfl⟩
      have hor := (HDO.out.at (by decide) i).1
      have hlt := HLT.out
      rw [ho] at hco hor hlt
      have hco1 := HARR.out.cell (i := i + 1) (by rw [HLO.out]; omega)
      have hfo1 := HARR.out.frozen (i + 1)
      obtain ⟨y0, y1, y2, y3⟩ := mul_pow_bd hxr.1 hxr.2 hs
      have hle : (2 : Int) ^ s ≤ 2 ^ 31 := ipow_le (by decide) hs
      obtain ⟨y, hy⟩ : ∃ y, x * 2 ^ s = y := ⟨_, rfl⟩
      have e1 : IntKind.u64.wrap (x * 2 ^ s) = y := by rw [hy]; exact IntWalk.u64_in _ (by omega)
      rw [hy] at y0 y1 y2 y3
      have e2 := or_mod hs hor hlt y2
      obtain ⟨R, hR⟩ := pow_split (show s ≤ 32 by omega)
      have H3 := Lib.hid (dvd_mod (Int.pow_pos (by decide)) hR y2 hlt)
      have HY := Lib.hid hy
      have HOO := Lib.hid ho
      have HY3 := Lib.hid y3
      have HLE := Lib.hid hle
      have g0 : (0 : Int) ≤ (i : Int) := by omega
      have g1 : (i : Int) < (n0 : Int) := by omega
      have g2 : (i : Int) < (n : Int) + 1 := by omega
      clear hc hxx ho hbl hR hy y2 y3 hle hlt
      go_wp2_with fail
      go_roundg (gk - 1)
      case measure => have := HK.out; omega
      case rel => exact ⟨i + 1, (os.set i (o + y % 4294967296)).set (i + 1) (y / 4294967296), by go_num, by have := HK.out; omega, (HARR.out.set _ _).set _ _, by rw [List.length_set, List.length_set]; exact HLO.out, (HDO.out.set _ (by omega) H3.out).set _ (by omega) (by omega),
        move_step (B := 4294967296) (f := fun j => xs.getD j 0) (by rw [HLO.out]; omega) HOO.out (HZR.out _ (by omega)) HV.out (by rw [← HY.out, ← HXX.out]), by rw [getD_set_self (by rw [List.length_set, HLO.out]; omega)]; exact HY3.out,
        fun j hj => by rw [getD_set_ne (by omega), getD_set_ne (by omega)]; exact HZR.out j (by omega), (HBL.out.setCell (Nat.le_refl _) _).setCell (Nat.le_refl _) _⟩
    · have HIN : Hid (i = n) := Lib.hid (by have := HK.out; omega)
      clear hbl
      go_wp2_with fail
      go_ret
      exact ⟨os, rfl, HARR.out, HLO.out, HDO.out, by rw [HV.out, HIN.out, FX.out], HBL.out⟩
end Go.Proofs.YtdbkgpakpadloaaGreatDoor
/- Contracts of package nat's take and give: both change one block in place. Conditions: the words are below 2^32. -/
namespace Go.Proofs.YtdbkgpakpadloaaGreatDoor
open Go.RowKit

/-- nothing but block g has changed -/
structure Only (g : Nat) (w w' : World) : Prop where
  os : w'.os = w.os
  tape : w'.tape = w.tape
  output : w'.output = w.output
  size : w'.heap.size = w.heap.size
  block : ∀ k, k ≠ g → w'.heap[k]? = w.heap[k]?
theorem Only.refl (g : Nat) (w : World) : Only g w w := ⟨rfl, rfl, rfl, rfl, fun _ _ => rfl⟩
theorem Only.trans {g : Nat} {a b c : World} (h : Only g a b) (k : Only g b c) : Only g a c :=
  ⟨k.os.trans h.os, k.tape.trans h.tape, k.output.trans h.output, k.size.trans h.size, fun i hi => (k.block i hi).trans (h.block i hi)⟩
theorem Only.below {g B : Nat} {w w' : World} (h : Only g w w') (hB : B ≤ g) : Below B w w' := ⟨h.os, h.tape, h.output, Nat.le_of_eq h.size.symm, fun k hk => h.block k (by omega)⟩
theorem Only.dn {g : Nat} {a w : World} (h : Only g a w) (n : Nat) : Only g a (w.drewN n) := ⟨h.os, h.tape, h.output, h.size, h.block⟩
theorem Only.setCell {g : Nat} {a w : World} (h : Only g a w) (i : Nat) (v : Value) : Only g a (w.setCell ⟨g, i, none⟩ v) := by
  have hb := (Below.refl w.heap.size w).setCell (p := ⟨w.heap.size, i, none⟩) (Nat.le_refl _) v
  refine ⟨h.os, h.tape, h.output, ?_, fun k hk => ?_⟩
  · rw [← h.size]; simp [World.setCell]
  · rw [Below.heap_setCell _ _ _ _ hk]; exact h.block k hk
theorem Only.cell {g : Nat} {w w' : World} (h : Only g w w') {p : Addr} (hp : p.block ≠ g) : w'.cell? p = w.cell? p := by
  simp only [World.cell?, h.block _ hp]
theorem Only.arr {g gd : Nat} {w w' : World} {k : IntKind} {e : TypeId} {xs : List Int} (h : Only g w w') (ha : Arr k e w gd xs) (hg : gd ≠ g) : Arr k e w' gd xs := by
  show w'.heap[gd]? = _
  rw [h.block _ hg]; exact ha

/-- block g begins with the numbers xs of kind k; what follows is anything -/
def ArrP (k : IntKind) (e : TypeId) (w : World) (g : Nat) (xs : List Int) : Prop := ∃ r : List Value, w.heap[g]? = some (.cells (xs.map (Value.int k) ++ r).toArray e (0, 0))
theorem Arr.part {k : IntKind} {e : TypeId} {w : World} {g : Nat} {xs : List Int} (h : Arr k e w g xs) : ArrP k e w g xs := ⟨[], by rw [List.append_nil]; exact h⟩
theorem ArrP.lt {k : IntKind} {e : TypeId} {w : World} {g : Nat} {xs : List Int} (h : ArrP k e w g xs) : g < w.heap.size := (Array.getElem?_eq_some_iff.1 h.choose_spec).1
theorem ArrP.cell {k : IntKind} {e : TypeId} {w : World} {g : Nat} {xs : List Int} (h : ArrP k e w g xs) {i : Nat} (hi : i < xs.length) : w.cell? ⟨g, i, none⟩ = some (.int k (xs.getD i 0)) := by
  obtain ⟨r, h⟩ := h
  rw [cell_of_row w g i _ e (0, 0) h]
  rw [List.getElem?_toArray, List.getElem?_append_left (by simpa using hi)]
  simp [hi]
theorem ArrP.frozen {k : IntKind} {e : TypeId} {w : World} {g : Nat} {xs : List Int} (h : ArrP k e w g xs) (i : Nat) : w.frozen? ⟨g, i, none⟩ = false := by
  obtain ⟨r, h⟩ := h
  simp [World.frozen?, h]
theorem ArrP.set {k : IntKind} {e : TypeId} {w : World} {g : Nat} {xs : List Int} (h : ArrP k e w g xs) {i : Nat} (hi : i < xs.length) (d : Int) : ArrP k e (w.setCell ⟨g, i, none⟩ (.int k d)) g (xs.set i d) := by
  obtain ⟨r, h⟩ := h
  refine ⟨r, ?_⟩
  show (w.setCell ⟨g, i, none⟩ (.int k d)).heap[g]? = _
  simp [World.setCell, Array.getElem?_modify, h, List.map_set]
  rw [List.set_append_left _ _ (by simpa using hi)]
theorem ArrP.below {k : IntKind} {e : TypeId} {w w' : World} {g B : Nat} {xs : List Int} (h : ArrP k e w g xs) (hb : Below B w w') (hB : g < B) : ArrP k e w' g xs := by
  obtain ⟨r, h⟩ := h
  exact ⟨r, by rw [hb.block g hB]; exact h⟩
theorem ArrP.row {k : IntKind} {e : TypeId} {w : World} {g : Nat} {xs : List Int} (h : ArrP k e w g xs) {n cap : Nat} (hl : xs.length = n) (hn : n ≤ cap) (hc : cap ≤ maxLen) : RowK k w (some ⟨g, 0, none⟩) n cap xs :=
  ⟨hl, hn, hc, .inr ⟨g, 0, rfl, h.lt, fun i hi => by rw [Nat.zero_add, h.cell (by omega)]⟩⟩
theorem OwnK.part {k : IntKind} {w : World} {B g n cap : Nat} {e : TypeId} {xs : List Int} (h : OwnK k w B e (.slice (some ⟨g, 0, none⟩) n cap) n xs) : ArrP k e w g xs := by
  rcases h.2 with ⟨h1, _⟩ | ⟨g', cap', cur, h1, hg, hh, h3, h4, h5, h6⟩
  · cases h1
  · cases h1
    refine ⟨cur.toList.drop (n * 1), ?_⟩
    rw [hh, ← h6, List.take_append_drop]

/-- the value of n places from off on -/
def win (B : Int) (os : List Int) (off n : Nat) : Int := vf B (fun j => os.getD (off + j) 0) n

theorem take_word {x p bo : Int} (hx0 : 0 ≤ x) (hx1 : x < 4294967296) (hb0 : 0 ≤ bo) (hb1 : bo ≤ 1) :
    IntKind.u64.wrap (IntKind.u64.wrap (x - p % 4294967296) - bo) % 4294967296 = (x - p % 4294967296 - bo) % 4294967296 ∧
    IntKind.u64.wrap (IntKind.u64.wrap (x - p % 4294967296) - bo) / 9223372036854775808 = -((x - p % 4294967296 - bo) / 4294967296) := by
  have h2 := Int.emod_lt_of_pos p (show (0 : Int) < 4294967296 by decide)
  have h3 := Int.emod_nonneg p (show (4294967296 : Int) ≠ 0 by decide)
  generalize p % 4294967296 = y at *
  simp only [IntKind.wrap, IntKind.bits, IntKind.signed]
  simp
  omega

/-- one place of 'q times d taken away' -/
theorem take_step {B x d q cy bo p s : Int} {W : Int} {f g : Nat → Int} {i : Nat} (hv : W = vf B f i - (q * vf B g i - cy * B ^ i) + bo * B ^ i) (hx : f i = x) (hd : g i = d) (hp : p = cy + q * d) (hs : s = x - p % B - bo) :
    W + s % B * B ^ i = vf B f (i + 1) - (q * vf B g (i + 1) - p / B * B ^ (i + 1)) + -(s / B) * B ^ (i + 1) := by
  have e1 : vf B f (i + 1) = vf B f i + x * B ^ i := by rw [← hx]; rfl
  have e2 : q * vf B g (i + 1) = q * vf B g i + q * d * B ^ i := by rw [← hd, Int.mul_assoc, ← Int.mul_add]; rfl
  have e3 : p / B * B ^ (i + 1) + p % B * B ^ i = cy * B ^ i + q * d * B ^ i := by
    rw [Int.pow_succ, Int.mul_comm (B ^ i) B, ← Int.mul_assoc, ← Int.add_mul, ← Int.add_mul]
    congr 1
    rw [Int.mul_comm, ← hp]
    exact Int.mul_ediv_add_emod _ _
  have e4 : -(s / B) * B ^ (i + 1) = s % B * B ^ i - s * B ^ i := by
    have h : s / B * B ^ (i + 1) + s % B * B ^ i = s * B ^ i := by
      rw [Int.pow_succ, Int.mul_comm (B ^ i) B, ← Int.mul_assoc, ← Int.add_mul]
      congr 1
      rw [Int.mul_comm]
      exact Int.mul_ediv_add_emod _ _
    rw [Int.neg_mul]; omega
  have e5 : s * B ^ i = x * B ^ i - p % B * B ^ i - bo * B ^ i := by rw [hs, Int.sub_mul, Int.sub_mul]
  omega

theorem win_set {B : Int} {os : List Int} {off i : Nat} {d : Int} (h : off + i < os.length) : win B (os.set (off + i) d) off (i + 1) = win B os off i + d * B ^ i := by
  show vf B _ i + (os.set (off + i) d).getD (off + i) 0 * B ^ i = _
  rw [getD_set_self h]
  congr 1
  exact vf_congr i fun j hj => getD_set_ne (by omega)
theorem mask32 {p : Int} (h0 : 0 ≤ p) (h1 : p < 18446744073709551616) : bits .and .u64 p 4294967295 = p % 4294967296 := by
  have e : bits .and .u64 p 4294967295 = IntKind.u64.wrap ((((p % 18446744073709551616).toNat &&& ((4294967295 : Int) % 18446744073709551616).toNat) : Nat) : Int) := by
    show IntKind.u64.wrap ((BitVec.ofInt 64 p &&& BitVec.ofInt 64 4294967295).toNat : Int) = _
    rw [BitVec.toNat_and, BitVec.toNat_ofInt, BitVec.toNat_ofInt]
    rfl
  rw [e, Int.emod_eq_of_lt h0 h1, show ((4294967295 : Int) % 18446744073709551616).toNat = 2 ^ 32 - 1 from by decide, Nat.and_two_pow_sub_one_eq_mod]
  rw [IntWalk.u64_in _ (by omega)]
  omega

/-- one place of a sum laid over the first number -/
theorem give_step {B x d cy s : Int} {W : Int} {f g : Nat → Int} {i : Nat} (hv : W = vf B f i + vf B g i - cy * B ^ i) (hx : f i = x) (hd : g i = d) (hs : s = x + cy + d) :
    W + s % B * B ^ i = vf B f (i + 1) + vf B g (i + 1) - s / B * B ^ (i + 1) := by
  have e1 : vf B f (i + 1) = vf B f i + x * B ^ i := by rw [← hx]; rfl
  have e2 : vf B g (i + 1) = vf B g i + d * B ^ i := by rw [← hd]; rfl
  have e3 : s / B * B ^ (i + 1) + s % B * B ^ i = x * B ^ i + cy * B ^ i + d * B ^ i := by
    rw [Int.pow_succ, Int.mul_comm (B ^ i) B, ← Int.mul_assoc, ← Int.add_mul, ← Int.add_mul, ← Int.add_mul]
    congr 1
    rw [Int.mul_comm, ← hs]
    exact Int.mul_ediv_add_emod _ _
  omega

end Go.Proofs.YtdbkgpakpadloaaGreatDoor
/- Contract of package nat's word: one word of a quotient. Conditions: the words are below 2^32; the divisor has two words or more, and its highest is not 0. -/
namespace Go.Proofs.YtdbkgpakpadloaaGreatDoor
open Go.RowKit

theorem q_top {Q D W k y R : Int} (hQ : 0 ≤ Q) (hQD : Q * D ≤ W) (hD : k * R ≤ D) (hW : W < (y + 1) * R) (hR : 0 < R) : Q * k ≤ y := by
  have h1 : Q * (k * R) ≤ Q * D := Int.mul_le_mul_of_nonneg_left hD hQ
  rw [← Int.mul_assoc] at h1
  have h2 : Q * k < y + 1 := Int.lt_of_mul_lt_mul_right (a := R) (by omega) (by omega)
  omega
/-- the facts of one word's division: W by D, held against their highest words -/
structure Est (W D top x2 d1 d2 P : Int) : Prop where
  W0 : 0 ≤ W
  x0 : 0 ≤ x2
  x1 : x2 < 4294967296
  e0 : 0 ≤ d2
  e1 : d2 < 4294967296
  d0 : 1 ≤ d1
  P0 : 0 < P
  Wl : (top * 4294967296 + x2) * P ≤ W
  Wu : W < (top * 4294967296 + x2 + 1) * P
  Dl : (d1 * 4294967296 + d2) * P ≤ D
  Du : D < (d1 * 4294967296 + d2 + 1) * P
  lt : W < D * 4294967296
theorem Est.D0 {W D top x2 d1 d2 P : Int} (h : Est W D top x2 d1 d2 P) : 4294967296 * P ≤ D := by
  have h1 := h.Dl
  have h2 : 4294967296 * P ≤ (d1 * 4294967296 + d2) * P := Int.mul_le_mul_of_nonneg_right (by have := h.d0; have := h.e0; omega) (by have := h.P0; omega)
  omega
theorem Est.Dpos {W D top x2 d1 d2 P : Int} (h : Est W D top x2 d1 d2 P) : 0 < D := by
  have h1 := h.D0
  have h2 := h.P0
  omega
theorem Est.QD {W D top x2 d1 d2 P : Int} (h : Est W D top x2 d1 d2 P) : 0 ≤ W / D ∧ W / D * D ≤ W ∧ W < (W / D + 1) * D := by
  have hD := h.Dpos
  refine ⟨Int.ediv_nonneg h.W0 (by omega), Int.ediv_mul_le _ (by omega), ?_⟩
  exact Int.lt_ediv_add_one_mul_self _ hD
theorem Est.start {W D top x2 d1 d2 P : Int} (h : Est W D top x2 d1 d2 P) : W / D ≤ top / d1 := by
  obtain ⟨h1, h2, -⟩ := h.QD
  refine (Int.le_ediv_iff_mul_le (by have := h.d0; omega)).2 (q_top (R := 4294967296 * P) h1 h2 ?_ ?_ (by have := h.P0; omega))
  · have h3 := h.Dl
    have h4 : d1 * 4294967296 * P ≤ (d1 * 4294967296 + d2) * P := Int.mul_le_mul_of_nonneg_right (by have := h.e0; omega) (by have := h.P0; omega)
    rw [← Int.mul_assoc]; omega
  · have h3 := h.Wu
    have h4 : (top * 4294967296 + x2 + 1) * P ≤ (top + 1) * 4294967296 * P := Int.mul_le_mul_of_nonneg_right (by have := h.x1; omega) (by have := h.P0; omega)
    rw [← Int.mul_assoc]; omega
theorem Est.below {W D top x2 d1 d2 P : Int} (h : Est W D top x2 d1 d2 P) : W / D < 4294967296 := Int.ediv_lt_of_lt_mul h.Dpos (by rw [Int.mul_comm]; exact h.lt)
/-- a guess too great by the three highest words is too great -/
theorem Est.dec {W D top x2 d1 d2 P q left : Int} (h : Est W D top x2 d1 d2 P) (hq : W / D ≤ q) (ht : q * d1 + left = top) (hgt : left * 4294967296 + x2 < q * d2) : W / D ≤ q - 1 := by
  obtain ⟨h1, h2, -⟩ := h.QD
  have h3 := q_top (k := d1 * 4294967296 + d2) (y := top * 4294967296 + x2) h1 h2 h.Dl h.Wu h.P0
  rcases Int.lt_or_le (W / D) q with h4 | h4
  · omega
  · have e : W / D = q := by omega
    rw [e, Int.mul_add, ← Int.mul_assoc] at h3
    omega
/-- a guess that is not too great by the three highest words is too great by one at most -/
theorem Est.near {W D top x2 d1 d2 P q left : Int} (h : Est W D top x2 d1 d2 P) (hq0 : 0 ≤ q) (hq : q < 4294967296) (ht : q * d1 + left = top) (hle : q * d2 ≤ left * 4294967296 + x2) : q ≤ W / D + 1 := by
  have hD := h.Dpos
  have hD0 := h.D0
  have h0 : q * (d1 * 4294967296 + d2) ≤ top * 4294967296 + x2 := by rw [Int.mul_add, ← Int.mul_assoc]; omega
  have h1 : q * D ≤ q * ((d1 * 4294967296 + d2 + 1) * P) := Int.mul_le_mul_of_nonneg_left (by have := h.Du; omega) hq0
  have h2 : q * ((d1 * 4294967296 + d2 + 1) * P) = q * (d1 * 4294967296 + d2) * P + q * P := by rw [← Int.mul_assoc, Int.mul_add q, Int.mul_one, Int.add_mul]
  have h3 : q * (d1 * 4294967296 + d2) * P ≤ (top * 4294967296 + x2) * P := Int.mul_le_mul_of_nonneg_right h0 (by have := h.P0; omega)
  have h4 : q * P ≤ 4294967296 * P := Int.mul_le_mul_of_nonneg_right (by omega) (by have := h.P0; omega)
  have h5 := h.Wl
  have h6 : (q - 1) * D ≤ W := by rw [Int.sub_mul, Int.one_mul]; omega
  have h7 := (Int.le_ediv_iff_mul_le hD).2 h6
  omega
theorem Est.brk {d2 q left x2 : Int} (h0 : 0 ≤ q) (h1 : q < 4294967296) (e0 : 0 ≤ d2) (e1 : d2 < 4294967296) (hl : 4294967296 ≤ left) (hx : 0 ≤ x2) : q * d2 ≤ left * 4294967296 + x2 := by
  have := prod_bd (A := 4294967295) (B := 4294967295) h0 e0 (by omega) (by omega)
  omega
theorem Est.top {W D top x2 d1 d2 P : Int} (h : Est W D top x2 d1 d2 P) : top < (d1 + 1) * 4294967296 := by
  have h1 := h.Wl
  have h2 := h.lt
  have h3 := h.Du
  have h4 : (top * 4294967296 + x2) * P < (d1 * 4294967296 + d2 + 1) * 4294967296 * P := by rw [Int.mul_assoc _ 4294967296 P, Int.mul_comm 4294967296 P, ← Int.mul_assoc]; omega
  have h5 := Int.lt_of_mul_lt_mul_right h4 (by have := h.P0; omega)
  have := h.e1
  have := h.x0
  omega

theorem win_bd {os : List Int} (ho : Dig 4294967296 os) (off n : Nat) : 0 ≤ win 4294967296 os off n ∧ win 4294967296 os off n < 4294967296 ^ n := vf_bd (by decide) n fun i _ => ho.at (by decide) (off + i)

/-- the window's three highest words -/
theorem win3 {os : List Int} (ho : Dig 4294967296 os) (off k : Nat) : ∃ r, 0 ≤ r ∧ r < 4294967296 ^ k ∧
    win 4294967296 os off (k + 3) = ((os.getD (off + (k + 2)) 0 * 4294967296 + os.getD (off + (k + 1)) 0) * 4294967296 + os.getD (off + k) 0) * 4294967296 ^ k + r := by
  refine ⟨win 4294967296 os off k, (win_bd ho off k).1, (win_bd ho off k).2, ?_⟩
  show win 4294967296 os off k + os.getD (off + k) 0 * 4294967296 ^ k + os.getD (off + (k + 1)) 0 * 4294967296 ^ (k + 1) + os.getD (off + (k + 2)) 0 * 4294967296 ^ (k + 2) = _
  rw [Int.pow_succ 4294967296 (k + 1), Int.pow_succ 4294967296 k]
  generalize (4294967296 : Int) ^ k = P
  generalize win 4294967296 os off k = A
  simp only [Int.add_mul, Int.mul_assoc, Int.mul_comm P]
  simp only [← Int.mul_assoc]
  omega
theorem V2 {ds : List Int} {k : Nat} (hd : Dig 4294967296 ds) (hl : ds.length = k + 2) : ∃ r, 0 ≤ r ∧ r < 4294967296 ^ k ∧
    V 4294967296 ds = (ds.getD (k + 1) 0 * 4294967296 + ds.getD k 0) * 4294967296 ^ k + r := by
  have hb := vf_bd (B := 4294967296) (by decide) (f := fun j => ds.getD j 0) k fun i _ => hd.at (by decide) i
  refine ⟨_, hb.1, hb.2, ?_⟩
  unfold V
  rw [hl]
  show vf 4294967296 _ k + ds.getD k 0 * 4294967296 ^ k + ds.getD (k + 1) 0 * 4294967296 ^ (k + 1) = _
  rw [Int.pow_succ 4294967296 k]
  simp only [Int.add_mul, Int.mul_assoc]
  rw [Int.mul_comm (4294967296 ^ k) 4294967296]
  omega
theorem est_of {os ds : List Int} {off k : Nat} (ho : Dig 4294967296 os) (hd : Dig 4294967296 ds) (hl : ds.length = k + 2) (h1 : 1 ≤ ds.getD (k + 1) 0) (hlt : win 4294967296 os off (k + 3) < V 4294967296 ds * 4294967296) :
    Est (win 4294967296 os off (k + 3)) (V 4294967296 ds) (os.getD (off + (k + 2)) 0 * 4294967296 + os.getD (off + (k + 1)) 0) (os.getD (off + k) 0) (ds.getD (k + 1) 0) (ds.getD k 0) (4294967296 ^ k) := by
  obtain ⟨r, r0, r1, hW⟩ := win3 ho off k
  obtain ⟨s, s0, s1, hD⟩ := V2 hd hl
  have hx := ho.at (by decide) (off + k)
  have he := hd.at (by decide) k
  refine ⟨(win_bd ho off _).1, hx.1, hx.2, he.1, he.2, h1, Int.pow_pos (by decide), by omega, ?_, by omega, ?_, hlt⟩
  · rw [hW, Int.add_mul _ 1, Int.one_mul]; omega
  · rw [hD, Int.add_mul _ 1, Int.one_mul]; omega
end Go.Proofs.YtdbkgpakpadloaaGreatDoor
/- Contract of package nat's word. Conditions: the words are below 2^32; the divisor has two words or more, and its highest is not 0. -/
namespace Go.Proofs.YtdbkgpakpadloaaGreatDoor
open Go.RowKit

end Go.Proofs.YtdbkgpakpadloaaGreatDoor
/- Contract of package nat's Shr. Conditions: the words are below 2^32; at most 100000 of them. Any shift. -/
namespace Go.Proofs.YtdbkgpakpadloaaGreatDoor
open Go.RowKit

theorem vf_split {B : Int} (f : Nat → Int) (k : Nat) : ∀ n, vf B f (k + n) = vf B f k + B ^ k * vf B (fun j => f (k + j)) n
  | 0 => by simp [vf]
  | n + 1 => by
    have e1 : vf B f (k + (n + 1)) = vf B f (k + n) + f (k + n) * B ^ (k + n) := rfl
    have e2 : vf B (fun j => f (k + j)) (n + 1) = vf B (fun j => f (k + j)) n + f (k + n) * B ^ n := rfl
    rw [e1, e2, vf_split f k n, Int.mul_add, Int.pow_add, ← Int.mul_assoc (f (k + n)), Int.mul_comm (f (k + n)), Int.mul_assoc, ← Int.add_assoc]
/-- the places from k on are the value by a power of the base -/
theorem vf_div {B : Int} (hB : 0 < B) {f : Nat → Int} (hf : ∀ i, 0 ≤ f i ∧ f i < B) (k n : Nat) : vf B (fun j => f (k + j)) n = vf B f (k + n) / B ^ k := by
  obtain ⟨h0, h1⟩ := vf_bd hB k fun i _ => hf i
  have hp : 0 < B ^ k := Int.pow_pos hB
  rw [vf_split, Int.add_mul_ediv_left _ _ (by omega), Int.ediv_eq_zero_of_lt h0 h1, Int.zero_add]

/-- one place of a shift down -/
theorem shr_step {B P R : Int} (hP : 0 < P) (hR : 0 < R) (hB : P * R = B) {os : List Int} {y : Nat → Int} {i : Nat} (hi : i < os.length) (hz : os.getD i 0 = 0) (hy : ∀ j, 0 ≤ y j ∧ y j < B)
    (hv : V B os + y i / P * B ^ i = vf B y (i + 1) / P) :
    V B (os.set i ((y i + y (i + 1) * B) / P % B)) + y (i + 1) / P * B ^ (i + 1) = vf B y (i + 2) / P := by
  have e0 : vf B y (i + 2) = vf B y (i + 1) + y (i + 1) * R * B ^ i * P := by
    show vf B y (i + 1) + y (i + 1) * B ^ (i + 1) = _
    rw [Int.pow_succ, ← hB, Int.mul_assoc _ _ P, Int.mul_assoc, ← Int.mul_assoc R, Int.mul_comm R, Int.mul_assoc, Int.mul_comm R, ← Int.mul_assoc _ P R]
  have e1 : vf B y (i + 2) / P = vf B y (i + 1) / P + y (i + 1) * R * B ^ i := by rw [e0, Int.add_mul_ediv_right _ _ (by omega)]
  have e2 : (y i + y (i + 1) * B) / P = y i / P + y (i + 1) * R := by
    rw [← hB, show y (i + 1) * (P * R) = y (i + 1) * R * P from by rw [Int.mul_assoc, Int.mul_comm P], Int.add_mul_ediv_right _ _ (by omega)]
  have e3 : (y i / P + y (i + 1) * R) / B = y (i + 1) / P := by
    have h0 : 0 ≤ y i / P := Int.ediv_nonneg (hy i).1 (by omega)
    have h1 : y i / P < R := Int.ediv_lt_of_lt_mul hP (by rw [Int.mul_comm, hB]; exact (hy i).2)
    rw [← hB, Int.mul_comm P, ← Int.ediv_ediv_of_nonneg (by omega), Int.add_mul_ediv_right _ _ (by omega), Int.ediv_eq_zero_of_lt h0 h1, Int.zero_add]
  rw [V_set hi, hz, Int.sub_zero, e1, ← hv, e2]
  have e4 := Int.emod_add_mul_ediv (y i / P + y (i + 1) * R) B
  rw [e3] at e4
  have e5 : (y i / P + y (i + 1) * R) % B * B ^ i + y (i + 1) / P * B ^ (i + 1) = (y i / P + y (i + 1) * R) * B ^ i := by
    rw [Int.pow_succ, Int.mul_comm (B ^ i) B, ← Int.mul_assoc, ← Int.add_mul]
    congr 1
    rw [Int.mul_comm (y (i + 1) / P)]
    exact e4
  rw [Int.add_mul] at e5
  omega
theorem pow_ks {N k s : Nat} (h : N = 32 * k + s) : (2 : Int) ^ N = 4294967296 ^ k * 2 ^ s := by
  rw [h, Int.pow_add, Int.pow_mul]; rfl
theorem RetNat.nil {w : World} {z : Int} (hz : z = 0) : RetNat w z (.returned (.slice none 0 0)) w :=
  ⟨none, 0, 0, rfl, ⟨[], RowK.nil, Dig.nil, .inl rfl, hz.symm⟩, Below.refl _ _, Fresh.nil⟩
theorem shr_nil {w : World} {X : Int} {N k s n : Nat} (h0 : 0 ≤ X) (h1 : X < 4294967296 ^ n) (hks : N = 32 * k + s) (hnk : n ≤ k) : RetNat w (X / 2 ^ N) (.returned (.slice none 0 0)) w := by
  refine RetNat.nil (Int.ediv_eq_zero_of_lt h0 ?_)
  rw [pow_ks hks]
  have h2 : (4294967296 : Int) ^ n ≤ 4294967296 ^ k := ipow_le (by decide) hnk
  have h3 : (1 : Int) ≤ 2 ^ s := Int.pow_pos (by decide)
  have h4 : (4294967296 : Int) ^ k * 1 ≤ 4294967296 ^ k * 2 ^ s := Int.mul_le_mul_of_nonneg_left h3 (Int.le_of_lt (Int.pow_pos (by decide)))
  omega
theorem shr_at {xs os : List Int} {k s i : Nat} {x y v : Int} (hx : Dig 4294967296 xs) (hs : s ≤ 31) (hi : i < os.length) (hz : os.getD i 0 = 0)
    (hv : V 4294967296 os + xs.getD (k + i) 0 / 2 ^ s * 4294967296 ^ i = vf 4294967296 (fun j => xs.getD (k + j) 0) (i + 1) / 2 ^ s) (e1 : xs.getD (k + i) 0 = x) (e2 : xs.getD (k + i + 1) 0 = y) (e3 : v = x + y * 4294967296) :
    V 4294967296 (os.set i (v / 2 ^ s % 4294967296)) + xs.getD (k + (i + 1)) 0 / 2 ^ s * 4294967296 ^ (i + 1) = vf 4294967296 (fun j => xs.getD (k + j) 0) (i + 1 + 1) / 2 ^ s := by
  obtain ⟨R, hR⟩ := pow_split (show s ≤ 32 by omega)
  have hp : (0 : Int) < 2 ^ s := Int.pow_pos (by decide)
  have hR0 : 0 < R := by
    rcases Int.lt_or_le 0 R with h | h
    · exact h
    · have := Int.mul_nonpos_of_nonneg_of_nonpos (Int.le_of_lt hp) h
      omega
  have h := shr_step hp hR0 hR hi hz (y := fun j => xs.getD (k + j) 0) (fun j => hx.at (by decide) (k + j)) hv
  rw [e3, ← e1, ← e2]
  exact h
theorem shr_end {xs os : List Int} {X : Int} {N k s n i : Nat} (hx : Dig 4294967296 xs) (hks : N = 32 * k + s) (hkn : k ≤ n) (hi : i = n - k) (hf : vf 4294967296 (fun j => xs.getD j 0) n = X) (hz : xs.getD n 0 = 0)
    (hv : V 4294967296 os + xs.getD (k + i) 0 / 2 ^ s * 4294967296 ^ i = vf 4294967296 (fun j => xs.getD (k + j) 0) (i + 1) / 2 ^ s) : V 4294967296 os = X / 2 ^ N := by
  have e : k + i = n := by omega
  have e1 : vf 4294967296 (fun j => xs.getD (k + j) 0) (i + 1) = vf 4294967296 (fun j => xs.getD (k + j) 0) i + xs.getD (k + i) 0 * 4294967296 ^ i := rfl
  rw [e1, e, hz, vf_div (by decide) (fun j => hx.at (by decide) j) k i, e, hf, Int.zero_mul, Int.add_zero] at hv
  rw [pow_ks hks, ← Int.ediv_ediv_of_nonneg (Int.le_of_lt (Int.pow_pos (by decide))), ← hv]
  simp

set_option maxHeartbeats 1000000 in
theorem shr_any (a : Option Addr) (n0 c : Nat) (nn : Int) (N k s : Nat) (xs : List Int) (w : World) (ha : RowK .u32 w a n0 c xs) (hx : Dig 4294967296 xs) (hn0 : n0 ≤ 100000) (hN : nn.toNat = N) (hks : N = 32 * k + s) (hs : s ≤ 31) (hnn : nn ≤ 9223372036854775807) :
    Calls Tryz.prog 47 #[.slice a n0 c, .int .i64 nn] w (RetNat w (V 4294967296 xs / 2 ^ N)) := by
  have HA := Lib.hid ha
  have HX := Lib.hid hx
  have SA := Lib.hid (size_any a n0 c xs w ha)
  have hn : tl xs ≤ n0 := by have := tl_le xs; rw [ha.1] at this; exact this
  have FX := Lib.hid (vf_tl (B := 4294967296) xs)
  have Z1 := Lib.hid (fun i (h : tl xs ≤ i) => tl_zero (xs := xs) h)
  clear ha hx
  have HX0 := Lib.hid (V_bd (B := 4294967296) (by decide) HX.out).1
  have HXN := Lib.hid (tl_bd (B := 4294967296) (by decide) HX.out)
  generalize tl xs = n at *
  generalize V 4294967296 xs = X at *
  have hk1 : (N : Int) / 32 = (k : Int) := by omega
  have hs1 : (N : Int) % 32 = (s : Int) := by omega
  have HKS := Lib.hid hks
  have HN := Lib.hid hN
  have hNb : (N : Int) ≤ 9223372036854775807 := by omega
  clear hks hN
  go_enter Tryz.func47, Tryz.ntmps47
  go_upto_if 10 with fail
  go_cut [1] (fun v wx => v = .int .i64 (N : Int) ∧ w = wx)
  case first =>
    by_cases hneg : nn < 0
    · go_wp2_with fail
      go_meet
      exact ⟨congrArg (Value.int .i64) (by have := HN.out; omega), rfl⟩
    · go_wp2_with fail
      go_meet
      exact ⟨congrArg (Value.int .i64) (by have := HN.out; omega), rfl⟩
  case rest =>
    obtain ⟨rfl, rfl⟩ := hcut
    go_wp2_with fail
    refine SA.out.mono ?_; rintro e w1 ⟨rfl, rfl⟩
    by_cases hkn : n ≤ k
    · go_wp2_with fail
      go_ret
      exact shr_nil HX0.out HXN.out HKS.out hkn
    · go_wp2_with (at_make; refine make_arr .u32 41 48 4 info_u32 (by decide) Tryz.underlying41 rfl _ _ rfl .i64 .i64 _ _ (n - k) _ rfl rfl (by omega) (by omega) (by omega) ?_)
      intro w0 harr hb0 hs0
      have HB0 := Lib.hid hb0
      have HARR0 := Lib.hid harr
      clear hb0 harr
      go_wp2_with fail
      go_loopg [24] (n - k) (fun g u wr => ∃ (i : Nat) (os : List Int), u = .int .i64 i ∧ i + g = n - k ∧ Arr .u32 48 wr w.heap.size os ∧ os.length = n - k ∧ Dig 4294967296 os ∧
        V 4294967296 os + xs.getD (k + i) 0 / 2 ^ s * 4294967296 ^ i = vf 4294967296 (fun j => xs.getD (k + j) 0) (i + 1) / 2 ^ s ∧ (∀ j, i ≤ j → os.getD j 0 = 0) ∧ Below w.heap.size w wr)
      case atStart => exact ⟨0, _, rfl, by omega, HARR0.out, by simp, Dig.replicate (by decide) _, by rw [V_replicate]; simp [vf], fun j _ => getD_replicate _ _, HB0.out⟩
      case round =>
        obtain ⟨i, os, rfl, hk, harr, hlo, hdo, hv, hzr, hbl⟩ := hrel
        have HK := Lib.hid hk
        have HARR := Lib.hid harr
        have HLO := Lib.hid hlo
        have HDO := Lib.hid hdo
        have HV := Lib.hid hv
        have HZR := Lib.hid hzr
        have HBL := Lib.hid hbl
        clear hk harr hlo hdo hv hzr
        by_cases hi : i < n - k
        · obtain ⟨-, -, -, h4⟩ := HA.out.below hbl (Nat.le_refl _)
          rcases h4 with hcap0 | ⟨ba, oa, rfl, -, hc⟩
          · have := HA.out.2.1; omega
          have hc1 := hc (k + i) (by omega)
          have hxr := HX.out.at (by decide) (k + i)
          obtain ⟨x, hxx⟩ : ∃ d, xs.getD (k + i) 0 = d := ⟨_, rfl⟩
          rw [hxx] at hc1 hxr
          have HXX := Lib.hid hxx
          have hco := HARR.out.cell (i := i) (by rw [HLO.out]; omega)
          have hfo := HARR.out.frozen i
          have g0 : (0 : Int) ≤ (i : Int) + (k : Int) := by omega
          have g1 : (i : Int) + (k : Int) < (n0 : Int) := by omega
          have g2 : ((i : Int) + (k : Int)).toNat = k + i := by omega
          by_cases hi1 : k + i + 1 < n
          · have hc2 := hc (k + i + 1) (by omega)
            have hyr := HX.out.at (by decide) (k + i + 1)
            obtain ⟨y, hyy⟩ : ∃ d, xs.getD (k + i + 1) 0 = d := ⟨_, rfl⟩
            rw [hyy] at hc2 hyr
            have HYY := Lib.hid hyy
            have e1 : IntKind.u64.wrap (y * 4294967296) = y * 4294967296 := IntWalk.u64_in _ (by omega)
            have e2 := hi_lo' hyr.1 hyr.2 hxr.1 hxr.2
            have g3 : (i : Int) + (k : Int) + 1 < (n0 : Int) := by omega
            have g4 : ((i : Int) + (k : Int) + 1).toNat = k + i + 1 := by omega
            have g5 : (i : Int) + (k : Int) + 1 < (n : Int) := by omega
            clear hc hxx hyy hbl
            go_wp2_with fail
            go_roundg (gk - 1)
            case measure => have := HK.out; omega
            case rel => exact ⟨i + 1, os.set i ((x + y * 4294967296) / 2 ^ s % 4294967296), by go_num, by have := HK.out; omega, HARR.out.set _ _, by rw [List.length_set]; exact HLO.out, HDO.out.set _ (by omega) (by omega),
              shr_at HX.out hs (by rw [HLO.out]; exact hi) (HZR.out i (Nat.le_refl _)) HV.out HXX.out HYY.out rfl, set_above HZR.out, HBL.out.setCell (Nat.le_refl _) _⟩
          · have HYY : Hid (xs.getD (k + i + 1) 0 = 0) := Lib.hid (Z1.out _ (by omega))
            have g5 : ¬ ((i : Int) + (k : Int) + 1 < (n : Int)) := by omega
            clear hc hxx hbl
            go_wp2_with fail
            go_roundg (gk - 1)
            case measure => have := HK.out; omega
            case rel => exact ⟨i + 1, os.set i (x / 2 ^ s % 4294967296), by go_num, by have := HK.out; omega, HARR.out.set _ _, by rw [List.length_set]; exact HLO.out, HDO.out.set _ (by omega) (by omega),
              shr_at HX.out hs (by rw [HLO.out]; exact hi) (HZR.out i (Nat.le_refl _)) HV.out HXX.out HYY.out (by omega), set_above HZR.out, HBL.out.setCell (Nat.le_refl _) _⟩
        · have HIN : Hid (i = n - k) := Lib.hid (by have := HK.out; omega)
          have hl2 := HLO.out
          have hval : V 4294967296 os = X / 2 ^ N := shr_end HX.out HKS.out (by omega) HIN.out FX.out (Z1.out _ (by omega)) HV.out
          have hret := RetNat.cut HARR.out HDO.out (by rw [hl2]; omega) hval HBL.out (Nat.le_refl _)
          have hfull := HARR.out.full (by rw [hl2]; omega)
          rw [hl2] at hret hfull
          have HS := Lib.hid (size_any _ _ _ _ _ hfull)
          have htl := tl_le os
          rw [hl2] at htl
          clear hfull hl2 hbl hval
          generalize tl os = t at *
          have HRET := Lib.hid hret
          clear hret
          go_wp2_with fail
          refine HS.out.mono ?_; rintro e w1 ⟨rfl, rfl⟩
          go_wp2_with fail
          go_ret
          exact HRET.out
end Go.Proofs.YtdbkgpakpadloaaGreatDoor
/- Contracts of package nat's Bits, Of, Uint. Conditions: the words are below 2^32; at most 100000 of them. -/
namespace Go.Proofs.YtdbkgpakpadloaaGreatDoor
open Go.RowKit

/-- b is how many bits X has -/
def IsBits (X : Int) (b : Nat) : Prop := (X = 0 ∧ b = 0) ∨ (1 ≤ b ∧ 2 ^ (b - 1) ≤ X ∧ X < 2 ^ b)
theorem IsBits.unique {X : Int} {b c : Nat} (h : IsBits X b) (k : IsBits X c) : b = c := by
  rcases h with ⟨h1, h2⟩ | ⟨h1, h2, h3⟩ <;> rcases k with ⟨k1, k2⟩ | ⟨k1, k2, k3⟩
  · omega
  · have : (0 : Int) < 2 ^ (c - 1) := Int.pow_pos (by decide)
    omega
  · have : (0 : Int) < 2 ^ (b - 1) := Int.pow_pos (by decide)
    omega
  · rcases Nat.lt_trichotomy b c with h | h | h
    · have : (2 : Int) ^ b ≤ 2 ^ (c - 1) := ipow_le (by decide) (by omega)
      omega
    · exact h
    · have : (2 : Int) ^ c ≤ 2 ^ (b - 1) := ipow_le (by decide) (by omega)
      omega
theorem bits_of {X t : Int} {m j : Nat} (h0 : t * 4294967296 ^ m ≤ X) (h1 : X < (t + 1) * 4294967296 ^ m) (hj : 1 ≤ j) (h2 : 2 ^ (j - 1) ≤ t) (h3 : t < 2 ^ j) : IsBits X (32 * m + j) := by
  have e : (4294967296 : Int) ^ m = 2 ^ (32 * m) := by rw [Int.pow_mul]; rfl
  have hp : (0 : Int) < 4294967296 ^ m := Int.pow_pos (by decide)
  refine .inr ⟨by omega, ?_, ?_⟩
  · have h4 : (2 : Int) ^ (j - 1) * 4294967296 ^ m ≤ t * 4294967296 ^ m := Int.mul_le_mul_of_nonneg_right h2 (by omega)
    rw [e, ← Int.pow_add, show j - 1 + 32 * m = 32 * m + j - 1 from by omega, ← e] at h4
    omega
  · have h4 : (t + 1) * 4294967296 ^ m ≤ (2 : Int) ^ j * 4294967296 ^ m := Int.mul_le_mul_of_nonneg_right (by omega) (by omega)
    rw [e, ← Int.pow_add, show j + 32 * m = 32 * m + j from by omega, ← e] at h4
    omega
/-- the highest word, and what lies below it -/
theorem tl_word {xs : List Int} (hx : Dig 4294967296 xs) {m : Nat} (h : tl xs = m + 1) : xs.getD m 0 * 4294967296 ^ m ≤ V 4294967296 xs ∧ V 4294967296 xs < (xs.getD m 0 + 1) * 4294967296 ^ m ∧ 1 ≤ xs.getD m 0 := by
  have h1 := vf_tl (B := 4294967296) xs
  rw [h] at h1
  have h2 : vf 4294967296 (fun j => xs.getD j 0) (m + 1) = vf 4294967296 (fun j => xs.getD j 0) m + xs.getD m 0 * 4294967296 ^ m := rfl
  have h3 := vf_bd (B := 4294967296) (by decide) (f := fun j => xs.getD j 0) m fun i _ => hx.at (by decide) i
  have h4 := tl_top xs
  rw [h] at h4
  have h5 := (hx.at (by decide) m).1
  rw [Int.add_mul, Int.one_mul]
  simp at h4
  simp at h5
  refine ⟨by omega, by omega, ?_⟩
  simp
  omega

set_option maxHeartbeats 1000000 in
theorem bits_any (a : Option Addr) (n0 c : Nat) (xs : List Int) (w : World) (ha : RowK .u32 w a n0 c xs) (hx : Dig 4294967296 xs) (hn0 : n0 ≤ 100000) :
    Calls Tryz.prog 22 #[.slice a n0 c] w fun e w' => ∃ b : Nat, e = .returned (.int .i64 b) ∧ w = w' ∧ IsBits (V 4294967296 xs) b := by
  have HA := Lib.hid ha
  have HX := Lib.hid hx
  have SA := Lib.hid (size_any a n0 c xs w ha)
  have hn : tl xs ≤ n0 := by have := tl_le xs; rw [ha.1] at this; exact this
  have H0 := Lib.hid (tl_pos (B := 4294967296) (by decide) hx)
  have HW := Lib.hid (fun m (h : tl xs = m + 1) => tl_word hx h)
  clear ha hx
  generalize tl xs = n at *
  generalize V 4294967296 xs = X at *
  by_cases hz : n = 0
  · have HXZ := Lib.hid (H0.out.2 hz)
    subst hz
    go_enter Tryz.func22, Tryz.ntmps22
    go_wp2_with fail
    refine SA.out.mono ?_; rintro e w1 ⟨rfl, rfl⟩
    go_wp2_with fail
    go_ret
    exact ⟨0, rfl, rfl, .inl ⟨HXZ.out, rfl⟩⟩
  · obtain ⟨m, rfl⟩ : ∃ m, n = m + 1 := ⟨n - 1, by omega⟩
    obtain ⟨t0, t1, t2⟩ := HW.out m rfl
    have ht := HX.out.at (by decide) m
    obtain ⟨-, -, -, h4⟩ := HA.out
    rcases h4 with hcap0 | ⟨ba, oa, rfl, -, hc⟩
    · have := HA.out.2.1; omega
    have hc1 := hc m (by omega)
    generalize xs.getD m 0 = t at *
    have T0 := Lib.hid t0
    have T1 := Lib.hid t1
    obtain ⟨ht0, ht1⟩ := ht
    clear hc t0 t1
    go_enter Tryz.func22, Tryz.ntmps22
    go_wp2_with fail
    refine SA.out.mono ?_; rintro e w1 ⟨rfl, rfl⟩
    go_wp2_with fail
    go_loopg [4, 5] 32 (fun k bu tu wr => ∃ (j : Nat), bu = .int .i64 ((32 * m + j : Nat) : Int) ∧ tu = .int .u32 (t / 2 ^ j) ∧ j + k = 32 ∧ (j = 0 ∨ 2 ^ (j - 1) ≤ t) ∧ w = wr)
    case atStart => exact ⟨0, by go_num, by simp, rfl, .inl rfl, rfl⟩
    case round =>
      obtain ⟨j, rfl, rfl, hk, hjt, rfl⟩ := hrel
      have HK := Lib.hid hk
      have HJ := Lib.hid hjt
      clear hk hjt
      have hp : (0 : Int) < 2 ^ j := Int.pow_pos (by decide)
      have q0 : 0 ≤ t / 2 ^ j := Int.ediv_nonneg ht0 (by omega)
      by_cases hq : 0 < t / 2 ^ j
      · have hj2 : Hid ((2 : Int) ^ j ≤ t) := Lib.hid (by
          have := (Int.le_ediv_iff_mul_le hp).1 (show 1 ≤ t / 2 ^ j by omega)
          omega)
        have hlt : j < 32 := by
          rcases Nat.lt_or_ge j 32 with h | h
          · exact h
          · have h5 : (2 : Int) ^ 32 ≤ 2 ^ j := ipow_le (by decide) h
            have := hj2.out
            omega
        have HD2 : Hid (t / 2 ^ j / 2 = t / 2 ^ (j + 1)) := Lib.hid (by rw [Int.pow_succ, Int.ediv_ediv_of_nonneg (Int.le_of_lt hp)])
        obtain ⟨q, hqq⟩ : ∃ q, t / 2 ^ j = q := ⟨_, rfl⟩
        rw [hqq] at hq q0 HD2 ⊢
        clear hqq hp
        go_wp2_with fail
        go_roundg (gk - 1)
        case measure => have := HK.out; omega
        case rel => exact ⟨j + 1, by go_num, congrArg (Value.int .u32) HD2.out, by have := HK.out; omega, .inr hj2.out, rfl⟩
      · have HB : Hid (IsBits X (32 * m + j)) := Lib.hid (by
          have h5 : t < 2 ^ j := by
            have h6 : t / 2 ^ j < 1 := by omega
            have h7 := (Int.ediv_lt_iff_lt_mul hp).1 h6
            omega
          rcases HJ.out with h6 | h6
          · rw [h6] at h5; simp at h5; omega
          · have : 1 ≤ j := by
              rcases Nat.eq_zero_or_pos j with h7 | h7
              · rw [h7] at h5; simp at h5; omega
              · exact h7
            exact bits_of T0.out T1.out this h6 h5)
        have hjb : j ≤ 32 := by have := HK.out; omega
        obtain ⟨q, hqq⟩ : ∃ q, t / 2 ^ j = q := ⟨_, rfl⟩
        rw [hqq] at hq q0 ⊢
        clear hqq hp
        go_wp2_with fail
        go_ret
        exact ⟨_, rfl, rfl, HB.out⟩

/-- one word's number, trim -/
def ws (v : Int) : List Int := [v % 4294967296, v / 4294967296]
theorem ws_dig {v : Int} (h0 : 0 ≤ v) (h1 : v < 18446744073709551616) : Dig 4294967296 (ws v) := by
  intro d hd
  simp [ws] at hd
  omega
theorem ws_V {v : Int} : V 4294967296 (ws v) = v := by
  simp [ws, V, vf]
  omega
theorem RetNat.from {w w1 w2 : World} {z : Int} {e : Ending} (h : RetNat w1 z e w2) (hb : Below w.heap.size w w1) : RetNat w z e w2 := by
  obtain ⟨a, n, c, rfl, h1, h2, h3⟩ := h
  exact ⟨a, n, c, rfl, h1, hb.trans (h2.mono hb.size), h3.mono hb.size⟩

theorem nof_any (v : Int) (w : World) (h0 : 0 ≤ v) (h1 : v < 18446744073709551616) :
    Calls Tryz.prog 14 #[.int .u64 v] w (RetNat w v) := by
  have HD := Lib.hid (ws_dig h0 h1)
  have HV := Lib.hid (ws_V (v := v))
  go_enter Tryz.func14, Tryz.ntmps14
  go_wp2_with fail
  have hb : Below w.heap.size w (w.alloc (.cells #[.int .u32 (v % 4294967296), .int .u32 (v / 4294967296)] 48)) := (Below.refl _ _).alloc (Nat.le_refl _) _
  have harr : Arr .u32 48 (w.alloc (.cells #[.int .u32 (v % 4294967296), .int .u32 (v / 4294967296)] 48)) w.heap.size (ws v) := by
    show (w.alloc _).heap[w.heap.size]? = _
    rw [heap_alloc_new]
    simp [ws]
  refine (trim_any _ _ _ _ _ (harr.full (by simp [ws])) HD.out (by simp [ws])).mono ?_
  rw [HV.out]
  rintro e w2 h
  have H := Lib.hid (h.from hb)
  obtain ⟨a, n, c, rfl, -⟩ := h
  clear hb harr
  go_wp2_with fail
  go_ret
  exact H.out

/-- what nat.Uint says of a number -/
def UintOut (X : Int) (e : Ending) : Prop := (X < 18446744073709551616 → e = .returned (.tuple #[.int .u64 X, .bool true])) ∧ (18446744073709551616 ≤ X → e = .returned (.tuple #[.int .u64 0, .bool false]))
set_option maxHeartbeats 1000000 in
theorem nuint_any (a : Option Addr) (n0 c : Nat) (xs : List Int) (w : World) (ha : RowK .u32 w a n0 c xs) (hx : Dig 4294967296 xs) (hn0 : n0 ≤ 100000) :
    Calls Tryz.prog 45 #[.slice a n0 c] w fun e w' => UintOut (V 4294967296 xs) e ∧ Below w.heap.size w w' := by
  have HA := Lib.hid ha
  have HX := Lib.hid hx
  have SA := Lib.hid (size_any a n0 c xs w ha)
  have hn : tl xs ≤ n0 := by have := tl_le xs; rw [ha.1] at this; exact this
  have FX := Lib.hid (vf_tl (B := 4294967296) xs)
  have HGE := Lib.hid (tl_ge (B := 4294967296) (by decide) hx)
  have HLT := Lib.hid (tl_bd (B := 4294967296) (by decide) hx)
  clear ha hx
  generalize tl xs = n at *
  generalize V 4294967296 xs = X at *
  obtain ⟨-, hcap, hmax, h4⟩ := HA.out
  unfold maxLen at hmax
  by_cases h0 : n = 0
  · have HXZ : Hid (X = 0) := Lib.hid (by have h := FX.out; rw [h0] at h; exact h.symm)
    have H := Lib.hid HXZ.out
    clear h4 HGE HLT FX
    subst h0
    go_enter Tryz.func45, Tryz.ntmps45
    go_wp2_with fail
    refine SA.out.mono ?_; rintro e w1 ⟨rfl, rfl⟩
    go_wp2_with fail
    go_ret2
    exact ⟨⟨fun _ => by rw [HXZ.out]; rfl, fun h => by have := HXZ.out; omega⟩, Below.refl _ _⟩
  · rcases h4 with hcap0 | ⟨ba, oa, rfl, -, hc⟩
    · omega
    have c0 := hc 0 (by omega)
    rw [Nat.add_zero] at c0
    have r0 := HX.out.at (by decide) 0
    by_cases h1 : n = 1
    · have HX1 : Hid (X = xs.getD 0 0) := Lib.hid (by have h := FX.out; rw [h1] at h; simp [vf] at h; simp; omega)
      clear HGE HLT FX hc
      generalize xs.getD 0 0 = x at *
      subst h1
      go_enter Tryz.func45, Tryz.ntmps45
      go_wp2_with fail
      refine SA.out.mono ?_; rintro e w1 ⟨rfl, rfl⟩
      go_wp2_with fail
      go_ret2
      exact ⟨⟨fun _ => by rw [HX1.out]; rfl, fun h => by have := HX1.out; omega⟩, Below.refl _ _⟩
    · have r1 := HX.out.at (by decide) 1
      have c1 := hc 1 (by omega)
      by_cases h2 : n = 2
      · have HX2 : Hid (X = xs.getD 1 0 * 4294967296 + xs.getD 0 0) := Lib.hid (by have h := FX.out; rw [h2] at h; simp [vf] at h; simp; omega)
        clear HGE HLT FX hc
        generalize xs.getD 0 0 = x at *
        generalize xs.getD 1 0 = y at *
        have e1 : IntKind.u64.wrap (y * 4294967296) = y * 4294967296 := IntWalk.u64_in _ (by omega)
        have e2 := hi_lo r1.1 r1.2 r0.1 r0.2
        subst h2
        go_enter Tryz.func45, Tryz.ntmps45
        go_wp2_with fail
        refine SA.out.mono ?_; rintro e w1 ⟨rfl, rfl⟩
        go_wp2_with fail
        go_quiet (fail)
        go_wp2_with fail
        go_ret2
        exact ⟨⟨fun _ => by rw [HX2.out]; rfl, fun h => by have := HX2.out; omega⟩, below_dn (Below.refl _ _) _⟩
      · have HX3 : Hid (18446744073709551616 ≤ X) := Lib.hid (by
          have h := HGE.out (by omega)
          have h3 : (4294967296 : Int) ^ 2 ≤ 4294967296 ^ (n - 1) := ipow_le (by decide) (by omega)
          omega)
        clear HGE HLT FX hc c0 c1 r0 r1
        go_enter Tryz.func45, Tryz.ntmps45
        go_wp2_with fail
        refine SA.out.mono ?_; rintro e w1 ⟨rfl, rfl⟩
        go_wp2_with fail
        go_ret2
        exact ⟨⟨fun h => by have := HX3.out; omega, fun _ => rfl⟩, Below.refl _ _⟩
end Go.Proofs.YtdbkgpakpadloaaGreatDoor
/- Contract of package nat's Div: plain laws and the small cases. Conditions: the words are below 2^32; at most 90000 of them. -/
namespace Go.Proofs.YtdbkgpakpadloaaGreatDoor
open Go.RowKit

theorem win_cons {B : Int} (os : List Int) (off n : Nat) : win B os off (n + 1) = os.getD off 0 + B * win B os (off + 1) n := by
  have h := vf_split (B := B) (fun j => os.getD (off + j) 0) 1 n
  unfold win
  rw [Nat.add_comm n 1, h]
  have e : vf B (fun j => os.getD (off + j) 0) 1 = os.getD off 0 := by simp [vf]
  rw [e, Int.pow_succ, Int.pow_zero, Int.one_mul]
  congr 2
  exact vf_congr n fun i _ => by rw [Nat.add_assoc]
theorem V_win {B : Int} {os os' : List Int} {off n : Nat} (hl : os'.length = os.length) (hon : off + n ≤ os.length) (hs : ∀ j, j < off ∨ off + n ≤ j → os'.getD j 0 = os.getD j 0) :
    V B os' = V B os + (win B os' off n - win B os off n) * B ^ off := by
  obtain ⟨r, hr⟩ : ∃ r, os.length = off + (n + r) := ⟨os.length - off - n, by omega⟩
  unfold V
  rw [hl, hr, vf_split, vf_split (B := B) (fun j => os.getD j 0), vf_split (B := B) (fun j => os'.getD (off + j) 0), vf_split (B := B) (fun j => os.getD (off + j) 0)]
  have e1 : vf B (fun i => os'.getD i 0) off = vf B (fun i => os.getD i 0) off := vf_congr off fun i hi => hs i (.inl hi)
  have e2 : vf B (fun j => os'.getD (off + (n + j)) 0) r = vf B (fun j => os.getD (off + (n + j)) 0) r := vf_congr r fun i _ => hs _ (.inr (by omega))
  rw [e1, e2]
  show _ + B ^ off * (win B os' off n + _) = _ + B ^ off * (win B os off n + _) + _
  generalize vf B (fun j => os.getD (off + (n + j)) 0) r = R
  rw [Int.mul_add, Int.mul_add, Int.sub_mul, Int.mul_comm (B ^ off) (win B os' off n), Int.mul_comm (B ^ off) (win B os off n)]
  omega
/-- a value below a power has no places from there on -/
theorem win_top {os : List Int} (ho : Dig 4294967296 os) {off m : Nat} {D : Int} (hD : D ≤ 4294967296 ^ m) (h : win 4294967296 os off (m + 1) < D) : os.getD (off + m) 0 = 0 ∧ win 4294967296 os off m < D := by
  have e : win 4294967296 os off (m + 1) = win 4294967296 os off m + os.getD (off + m) 0 * 4294967296 ^ m := rfl
  have h0 := (win_bd ho off m).1
  have h1 := (ho.at (by decide) (off + m)).1
  rcases Int.lt_or_le 0 (os.getD (off + m) 0) with h2 | h2
  · have h3 : 1 * 4294967296 ^ m ≤ os.getD (off + m) 0 * 4294967296 ^ m := Int.mul_le_mul_of_nonneg_right (by omega) (Int.le_of_lt (Int.pow_pos (by decide)))
    rw [Int.one_mul] at h3
    omega
  · have h3 : os.getD (off + m) 0 = 0 := by omega
    refine ⟨h3, ?_⟩
    rw [h3, Int.zero_mul] at e
    omega
/-- one word of a division -/
theorem div_step {os os' qs : List Int} {D W Z : Int} {j m : Nat} (hl : os'.length = os.length) (hon : j + m ≤ os.length) (hs : ∀ t, t < j ∨ j + m ≤ t → os'.getD t 0 = os.getD t 0)
    (hW : win 4294967296 os j m = W) (hW' : win 4294967296 os' j m = W % D) (hj : j < qs.length) (hz : qs.getD j 0 = 0) (hv : V 4294967296 os + D * V 4294967296 qs = Z) :
    V 4294967296 os' + D * V 4294967296 (qs.set j (W / D)) = Z := by
  rw [V_win hl hon hs, V_set hj, hz, hW, hW', Int.sub_zero, Int.mul_add, ← hv]
  have e := Int.mul_ediv_add_emod W D
  have e2 : (W % D - W) * 4294967296 ^ j = - (D * (W / D * 4294967296 ^ j)) := by
    rw [← Int.mul_assoc, ← Int.neg_mul]
    congr 1
    omega
  omega
theorem div_end {os qs : List Int} {D Z : Int} {m : Nat} (ho : Dig 4294967296 os) (hm : m ≤ os.length) (hz : ∀ t, m ≤ t → os.getD t 0 = 0) (hlt : win 4294967296 os 0 m < D) (hv : V 4294967296 os + D * V 4294967296 qs = Z) :
    V 4294967296 qs = Z / D ∧ V 4294967296 os = Z % D := by
  have e : V 4294967296 os = win 4294967296 os 0 m := by
    obtain ⟨r, hr⟩ : ∃ r, os.length = m + r := ⟨os.length - m, by omega⟩
    unfold V win
    rw [hr, vf_zero m r fun i h _ => hz i h]
    exact vf_congr m fun i _ => by rw [Nat.zero_add]
  exact small_end (V_bd (by decide) ho).1 (by omega) (by rw [Int.mul_comm]; omega)
theorem div_scale {X Y : Int} {s : Nat} : (X * 2 ^ s) / (Y * 2 ^ s) = X / Y ∧ (X * 2 ^ s) % (Y * 2 ^ s) / 2 ^ s = X % Y := by
  have hp : (0 : Int) < 2 ^ s := Int.pow_pos (by decide)
  refine ⟨Int.mul_ediv_mul_of_pos_left _ _ hp, ?_⟩
  rw [Int.mul_comm X, Int.mul_comm Y, Int.mul_emod_mul_of_pos _ _ hp, Int.mul_ediv_cancel_left _ (by omega)]
theorem bits_range {Y : Int} {b m : Nat} (h : IsBits Y b) (h0 : 4294967296 ^ m ≤ Y) (h1 : Y < 4294967296 ^ (m + 1)) : 32 * m < b ∧ b ≤ 32 * (m + 1) := by
  have e : ∀ m : Nat, (4294967296 : Int) ^ m = 2 ^ (32 * m) := fun m => by rw [Int.pow_mul]; rfl
  have hp : (0 : Int) < 4294967296 ^ m := Int.pow_pos (by decide)
  rcases h with ⟨k1, k2⟩ | ⟨k1, k2, k3⟩
  · omega
  · rw [e] at h0 h1
    constructor
    · rcases Nat.lt_or_ge (32 * m) b with h | h
      · exact h
      · have : (2 : Int) ^ b ≤ 2 ^ (32 * m) := ipow_le (by decide) h
        omega
    · rcases Nat.lt_or_ge (32 * (m + 1)) b with h | h
      · have : (2 : Int) ^ (32 * (m + 1)) ≤ 2 ^ (b - 1) := ipow_le (by decide) (by omega)
        omega
      · exact h
/-- the shifted divisor fills its words -/
theorem shift_fit {Y : Int} {b m s : Nat} (h : IsBits Y b) (h0 : 4294967296 ^ m ≤ Y) (hs : 32 * (m + 1) = b + s) : 4294967296 ^ m ≤ Y * 2 ^ s ∧ Y * 2 ^ s < 4294967296 ^ (m + 1) := by
  have e : ∀ m : Nat, (4294967296 : Int) ^ m = 2 ^ (32 * m) := fun m => by rw [Int.pow_mul]; rfl
  have hp : (1 : Int) ≤ 2 ^ s := Int.pow_pos (by decide)
  have hq : (0 : Int) < 4294967296 ^ m := Int.pow_pos (by decide)
  constructor
  · have := Int.mul_le_mul_of_nonneg_left hp (show 0 ≤ Y by omega)
    omega
  · rcases h with ⟨k1, k2⟩ | ⟨k1, k2, k3⟩
    · omega
    · have : Y * 2 ^ s < 2 ^ b * 2 ^ s := Int.mul_lt_mul_of_pos_right k3 (by omega)
      rw [← Int.pow_add, ← hs, ← e] at this
      exact this

/-- a call's answer: the trim lists of q and r, and true -/
def RetQR (w : World) (q r : Int) (e : Ending) (w' : World) : Prop := ∃ a n c b m d, e = .returned (.tuple #[.slice a n c, .slice b m d, .bool true]) ∧ NatC w' a n c q ∧ NatC w' b m d r ∧ Below w.heap.size w w' ∧ Fresh w.heap.size a ∧ Fresh w.heap.size b

end Go.Proofs.YtdbkgpakpadloaaGreatDoor
/- Contract of package nat's Div: the long division. Conditions: the words are below 2^32; at most 90000 of them. -/
namespace Go.Proofs.YtdbkgpakpadloaaGreatDoor
open Go.RowKit

theorem ArrP.far {k : IntKind} {e : TypeId} {w : World} {g : Nat} {xs : List Int} (h : ArrP k e w g xs) {p : Addr} (hp : p.block ≠ g) (v : Value) : ArrP k e (w.setCell p v) g xs := by
  obtain ⟨r, h⟩ := h
  exact ⟨r, by rw [Below.heap_setCell _ _ _ _ (fun e => hp e.symm)]; exact h⟩
theorem cell_far {w : World} {p q : Addr} {v : Value} (h : q.block ≠ p.block) : (w.setCell p v).cell? q = w.cell? q := World.cell?_of_block (w := w) (Below.heap_setCell _ _ _ _ h)
theorem OwnK.ofArr {k : IntKind} {w : World} {g n : Nat} {e : TypeId} {xs : List Int} (h : Arr k e w g xs) (hl : xs.length = n) (hm : n ≤ maxLen) : OwnK k w g e (.slice (some ⟨g, 0, none⟩) n n) n xs :=
  ⟨by simp [hl], .inr ⟨g, n, _, rfl, Nat.le_refl _, h, Nat.le_refl _, hm, by simp [hl], by simp [hl, List.take_of_length_le]⟩⟩

theorem div_ds {ds : List Int} {k : Nat} {D : Int} (hd : Dig 4294967296 ds) (hl : ds.length = k + 2 + 1) (hv : V 4294967296 ds = D) (h0 : 4294967296 ^ (k + 1) ≤ D) (h1 : D < 4294967296 ^ (k + 2)) :
    (ds.take (k + 2)).length = k + 2 ∧ V 4294967296 (ds.take (k + 2)) = D ∧ 1 ≤ (ds.take (k + 2)).getD (k + 1) 0 := by
  have e0 : win 4294967296 ds 0 (k + 2 + 1) = D := by
    rw [← hv]
    unfold V win
    rw [hl]
    exact vf_congr _ fun i _ => by rw [Nat.zero_add]
  obtain ⟨h2, -⟩ := win_top hd (off := 0) (Int.le_refl _) (by rw [e0]; exact h1)
  rw [Nat.zero_add] at h2
  have hl2 : (ds.take (k + 2)).length = k + 2 := by rw [List.length_take]; omega
  have hv2 : V 4294967296 (ds.take (k + 2)) = D := by
    rw [← hv]
    exact V_take (by omega) fun i h3 h4 => by
      have : i = k + 2 := by omega
      rw [this]; exact h2
  refine ⟨hl2, hv2, ?_⟩
  have h5 := (hd.take (k + 2)).at (by decide) (k + 1)
  rcases Int.lt_or_le 0 ((ds.take (k + 2)).getD (k + 1) 0) with h6 | h6
  · omega
  · have h7 : (ds.take (k + 2)).getD (k + 1) 0 = 0 := by omega
    have h8 : V 4294967296 (ds.take (k + 2)) = vf 4294967296 (fun i => (ds.take (k + 2)).getD i 0) (k + 1) + (ds.take (k + 2)).getD (k + 1) 0 * 4294967296 ^ (k + 1) := by
      unfold V
      rw [hl2]; rfl
    have h9 := vf_bd (B := 4294967296) (by decide) (f := fun i => (ds.take (k + 2)).getD i 0) (k + 1) fun i _ => (hd.take (k + 2)).at (by decide) i
    rw [h7, Int.zero_mul] at h8
    omega
/-- the highest window: its top word is 0 -/
theorem div_start {os : List Int} {n k : Nat} {D : Int} (ho : Dig 4294967296 os) (hl : os.length = n + 1) (hk : k + 2 ≤ n) (h0 : 4294967296 ^ (k + 1) ≤ D) : win 4294967296 (os ++ [0]) (n - k) (k + 2) < D := by
  have h := (win_bd (ho.snoc (Int.le_refl _) (by decide)) (n - k) (k + 1)).2
  have e : win 4294967296 (os ++ [0]) (n - k) (k + 2) = win 4294967296 (os ++ [0]) (n - k) (k + 1) + (os ++ [0]).getD (n - k + (k + 1)) 0 * 4294967296 ^ (k + 1) := rfl
  rw [show n - k + (k + 1) = os.length from by omega, getD_snoc, Int.zero_mul] at e
  omega
theorem div_bound {os : List Int} {j m : Nat} {D : Int} (ho : Dig 4294967296 os) (h : win 4294967296 os (j + 1) m < D) : win 4294967296 os j (m + 1) < D * 4294967296 := by
  rw [win_cons]
  have := ho.at (by decide) j
  have := (win_bd ho (j + 1) m).1
  omega

end Go.Proofs.YtdbkgpakpadloaaGreatDoor
/- Contract of package nat's Root. Conditions: the words are below 2^32; at most 40000 of them. -/
namespace Go.Proofs.YtdbkgpakpadloaaGreatDoor
open Go.RowKit

theorem NatC.len {w : World} {a : Option Addr} {n c k : Nat} {z : Int} (h : NatC w a n c z) (hz : z < 4294967296 ^ k) : n ≤ k := by
  obtain ⟨xs, hr, hd, ht, hv⟩ := h
  rcases Nat.lt_or_ge k n with h | h
  · have h1 := V_ge (B := 4294967296) (by decide) hd ht (fun e => by have := hr.1; rw [e] at this; simp at this; omega)
    have h2 : (4294967296 : Int) ^ k ≤ 4294967296 ^ (xs.length - 1) := ipow_le (by decide) (by have := hr.1; omega)
    omega
  · exact h
theorem NatC.tl {w : World} {a : Option Addr} {n c : Nat} {z : Int} (h : NatC w a n c z) : ∃ xs, RowK .u32 w a n c xs ∧ Dig 4294967296 xs ∧ V 4294967296 xs = z ∧ tl xs = n := by
  obtain ⟨xs, hr, hd, ht, hv⟩ := h
  exact ⟨xs, hr, hd, hv, by rw [tl_of_trim ht, hr.1]⟩
/-- one of Newton's steps from above -/
theorem newton {X x : Int} (hX : 1 ≤ X) (hx : 1 ≤ x) : X < ((x + X / x) / 2 + 1) * ((x + X / x) / 2 + 1) ∧ 1 ≤ (x + X / x) / 2 := by
  have h1 : X < (X / x + 1) * x := Int.lt_ediv_add_one_mul_self X (by omega)
  have h0 : 0 ≤ X / x := Int.ediv_nonneg (by omega) (by omega)
  generalize X / x = q at *
  obtain ⟨y, hy⟩ : ∃ y, (x + q) / 2 = y := ⟨_, rfl⟩
  rw [hy]
  have h2 : x + q + 1 ≤ 2 * (y + 1) := by omega
  have h3 : (x + q + 1) * (x + q + 1) ≤ (2 * (y + 1)) * (2 * (y + 1)) := Int.mul_le_mul h2 h2 (by omega) (by omega)
  have h4 : 4 * ((q + 1) * x) ≤ (x + q + 1) * (x + q + 1) := by
    have h5 : 0 ≤ (x - (q + 1)) * (x - (q + 1)) := by
      rcases Int.lt_or_le (x - (q + 1)) 0 with h | h
      · exact Int.mul_nonneg_of_nonpos_of_nonpos (by omega) (by omega)
      · exact Int.mul_nonneg h h
    have e1 : ∀ p : Int, (x - p) * (x - p) = x * x - 2 * (p * x) + p * p := fun p => by
      rw [Int.sub_mul, Int.mul_sub, Int.mul_sub, Int.mul_comm x p]; omega
    have e2 : ∀ p : Int, (x + p) * (x + p) = x * x + 2 * (p * x) + p * p := fun p => by
      rw [Int.add_mul, Int.mul_add, Int.mul_add, Int.mul_comm x p]; omega
    rw [show x + q + 1 = x + (q + 1) from by omega, e2]
    rw [e1] at h5
    omega
  have e3 : (2 * (y + 1)) * (2 * (y + 1)) = 4 * ((y + 1) * (y + 1)) := by
    rw [Int.mul_assoc, Int.mul_left_comm (y + 1), ← Int.mul_assoc]; omega
  have h6 : X < (y + 1) * (y + 1) := by omega
  refine ⟨h6, ?_⟩
  rcases Int.lt_or_le 0 y with h | h
  · omega
  · have h7 : y = 0 := by omega
    rw [h7] at h6
    omega
theorem newton_end {X x : Int} (hx : 1 ≤ x) (h : x ≤ (x + X / x) / 2) : x * x ≤ X := by
  have h1 : x ≤ X / x := by omega
  exact (Int.le_ediv_iff_mul_le (by omega)).1 h1
theorem root_start {X : Int} {b : Nat} (h : IsBits X b) : X < (4294967296 ^ (b / 64 + 1) + 1) * (4294967296 ^ (b / 64 + 1) + 1) := by
  have e : (4294967296 : Int) ^ (b / 64 + 1) * 4294967296 ^ (b / 64 + 1) = 2 ^ (64 * (b / 64 + 1)) := by
    rw [← Int.pow_add, show (4294967296 : Int) = 2 ^ 32 from rfl, ← Int.pow_mul]
    congr 1
    omega
  have hp : (0 : Int) < 4294967296 ^ (b / 64 + 1) := Int.pow_pos (by decide)
  have h1 : X < 2 ^ (64 * (b / 64 + 1)) := by
    rcases h with ⟨h1, h2⟩ | ⟨h1, h2, h3⟩
    · rw [h1]; exact Int.pow_pos (by decide)
    · have : (2 : Int) ^ b ≤ 2 ^ (64 * (b / 64 + 1)) := ipow_le (by decide) (by omega)
      omega
  rw [Int.add_mul, Int.mul_add, Int.mul_one, Int.one_mul, e]
  omega
theorem pow_sum {z q : Int} {k n : Nat} (hz : z ≤ 4294967296 ^ k) (hq : q < 4294967296 ^ n) : z + q < 4294967296 ^ (k + n + 1) := by
  have h1 : (4294967296 : Int) ^ k ≤ 4294967296 ^ (k + n) := ipow_le (by decide) (by omega)
  have h2 : (4294967296 : Int) ^ n ≤ 4294967296 ^ (k + n) := ipow_le (by decide) (by omega)
  have h3 : (0 : Int) < 4294967296 ^ (k + n) := Int.pow_pos (by decide)
  rw [Int.pow_succ]
  omega
/-- a list of noughts with a 1 at its end -/
theorem one_at (k : Nat) : V 4294967296 ((List.replicate (k + 1) (0 : Int)).set k 1) = 4294967296 ^ k ∧ Dig 4294967296 ((List.replicate (k + 1) (0 : Int)).set k 1) ∧ Trimmed ((List.replicate (k + 1) (0 : Int)).set k 1) := by
  refine ⟨by rw [V_set (by simp), V_replicate, getD_replicate]; omega, (Dig.replicate (by decide) _).set k (by decide) (by decide), .inr ?_⟩
  rw [List.length_set, List.length_replicate, Nat.add_sub_cancel, getD_set_self (by simp)]
  decide

end Go.Proofs.YtdbkgpakpadloaaGreatDoor
/- Contracts of package nat's Shl and Noughts. Conditions: the words are below 2^32; at most 80000 of them. -/
namespace Go.Proofs.YtdbkgpakpadloaaGreatDoor
open Go.RowKit

theorem V_noughts (k : Nat) (os : List Int) : V 4294967296 (List.replicate k 0 ++ os) = 4294967296 ^ k * V 4294967296 os := by
  unfold V
  rw [List.length_append, List.length_replicate, vf_split]
  have e1 : vf 4294967296 (fun i => (List.replicate k (0 : Int) ++ os).getD i 0) k = 0 := by
    have h : ∀ n, n ≤ k → vf 4294967296 (fun i => (List.replicate k (0 : Int) ++ os).getD i 0) n = 0 := by
      intro n
      induction n with
      | zero => intro _; rfl
      | succ n ih =>
        intro hn
        show vf 4294967296 _ n + (List.replicate k (0 : Int) ++ os).getD n 0 * 4294967296 ^ n = 0
        rw [ih (by omega), getD_append_lt (by simp; omega), getD_replicate]
        simp
    exact h k (Nat.le_refl _)
  rw [e1, Int.zero_add]
  congr 1
  exact vf_congr _ fun i _ => by
    rw [List.getD_eq_getElem?_getD, List.getD_eq_getElem?_getD, List.getElem?_append_right (by simp), List.length_replicate, Nat.add_sub_cancel_left]
theorem dig_append {B : Int} {xs ys : List Int} (h : Dig B xs) (k : Dig B ys) : Dig B (xs ++ ys) := fun d hd => by
  rcases List.mem_append.1 hd with h1 | h1
  · exact h d h1
  · exact k d h1

theorem shl_no (a : Option Addr) (n0 c : Nat) (nn : Int) (w : World) (h : nn < 0 ∨ 8192 < nn) :
    Calls Tryz.prog 44 #[.slice a n0 c, .int .i64 nn] w fun e w' => e = .returned (.tuple #[.slice none 0 0, .bool false]) ∧ w = w' := by
  by_cases h0 : nn < 0
  · clear h
    go_enter Tryz.func44, Tryz.ntmps44
    go_wp2_with fail
    go_ret2
    exact ⟨rfl, rfl⟩
  · have h1 : 8192 < nn := by omega
    clear h
    go_enter Tryz.func44, Tryz.ntmps44
    go_wp2_with fail
    go_ret2
    exact ⟨rfl, rfl⟩

set_option maxHeartbeats 1000000 in
theorem shl_any (a : Option Addr) (n0 c N k s : Nat) (xs : List Int) (w : World) (ha : RowK .u32 w a n0 c xs) (hx : Dig 4294967296 xs) (hn0 : n0 ≤ 80000) (hks : N = 32 * k + s) (hs : s ≤ 31) (hN : N ≤ 8192) :
    Calls Tryz.prog 44 #[.slice a n0 c, .int .i64 N] w (RetNatB w (V 4294967296 xs * 2 ^ N)) := by
  have HM := Lib.hid (move_any a n0 c s xs w ha hx (by omega) hs)
  have hn : tl xs ≤ n0 := by have := tl_le xs; rw [ha.1] at this; exact this
  have hk1 : (N : Int) / 32 = (k : Int) := by omega
  have hs1 : (N : Int) % 32 = (s : Int) := by omega
  have HZ : Hid (4294967296 ^ k * (V 4294967296 xs * 2 ^ s) = V 4294967296 xs * 2 ^ N) := Lib.hid (by rw [pow_ks hks, Int.mul_left_comm])
  have hkb : k ≤ 256 := by omega
  clear ha hx hks
  generalize V 4294967296 xs = X at *
  generalize tl xs = n at *
  go_enter Tryz.func44, Tryz.ntmps44
  go_wp2_with fail
  refine HM.out.mono ?_; rintro e w1 ⟨os, rfl, harr, hlo, hdo, hv, hb1⟩
  have HARR := Lib.hid harr
  have HLO := Lib.hid hlo
  have HDO := Lib.hid hdo
  have HV := Lib.hid hv
  have HB1 := Lib.hid hb1
  clear harr hlo hdo hv hb1
  go_wp2_with (at_make; refine make_arr .u32 41 48 4 info_u32 (by decide) Tryz.underlying41 rfl _ _ rfl .i64 .i64 _ _ k _ rfl rfl (by omega) (by omega) (by omega) ?_)
  intro w2 harr2 hb2 hs2
  have HB2 := Lib.hid hb2
  have HOW := Lib.hid (OwnK.ofArr harr2 (List.length_replicate (n := k)) (by unfold maxLen; omega))
  have hfull := HARR.out.full (by rw [HLO.out]; omega)
  rw [HLO.out] at hfull
  have HROW := Lib.hid (hfull.below hb2 (Nat.le_refl _))
  clear harr2 hb2 hfull
  go_wp2_with (at_builtin; refine wpList_append_row .u32 41 48 4 info_u32 (by decide) Tryz.underlying41 rfl _ _ rfl w2 w1.heap.size (.slice (some ⟨w1.heap.size, 0, none⟩) k k) k (List.replicate k 0) (some ⟨w.heap.size, 0, none⟩) (n + 1) (n + 1) os rfl rfl HOW.out HROW.out (fun h => by cases h) (by omega) (by rw [hs2]; omega) ?_)
  intro v3 w3 hown hg hbl
  obtain ⟨p, cap, hv3⟩ := hown.form
  subst hv3
  have hrow := hown.row
  have hfr := hown.fresh
  have hb3 : Below w1.heap.size w1 w3 := hbl w1 HB2.out
  have hdig : Dig 4294967296 (List.replicate k 0 ++ os) := dig_append (Dig.replicate (by decide) k) HDO.out
  have hval : V 4294967296 (List.replicate k 0 ++ os) = X * 2 ^ N := by rw [V_noughts, HV.out, HZ.out]
  generalize List.replicate k 0 ++ os = ls at *
  have hle := tl_le ls
  rw [hrow.1] at hle
  have HS := Lib.hid (size_any p _ cap ls w3 hrow)
  have hcap := hrow.2.1
  have hcm : cap ≤ 9223372036854775807 := by have := hrow.2.2.1; unfold maxLen at this; omega
  have HRET : Hid (RetNatB w (X * 2 ^ N) (.returned (.tuple #[.slice p (tl ls) cap, .bool true])) w3) := Lib.hid
    ⟨p, tl ls, cap, rfl, ⟨ls.take (tl ls), hrow.take hle, hdig.take _, tl_trim ls, by rw [tl_V]; exact hval⟩, HB1.out.trans (hb3.mono HB1.out.size), hfr.mono HB1.out.size⟩
  clear hown hg hbl hrow hfr hb3 hdig hval
  generalize tl ls = t at *
  go_wp2_with fail
  refine HS.out.mono ?_; rintro e w4 ⟨rfl, rfl⟩
  go_wp2_with fail
  go_ret2
  exact HRET.out

/-- r is how often X can be halved -/
def IsHalf (X : Int) (r : Nat) : Prop := (X = 0 ∧ r = 0) ∨ ∃ o : Int, X = 2 ^ r * (2 * o + 1)
theorem half_of {X t rest : Int} {i j : Nat} (hX : X = 4294967296 ^ i * (t + 4294967296 * rest)) (hj : j ≤ 31) (ht : t = t / 2 ^ j * 2 ^ j) (ho : t / 2 ^ j % 2 = 1) : IsHalf X (32 * i + j) := by
  refine .inr ⟨t / 2 ^ j / 2 + 2 ^ (31 - j) * rest, ?_⟩
  have e1 : (4294967296 : Int) = 2 ^ j * (2 * 2 ^ (31 - j)) := by
    rw [Int.mul_comm 2, ← Int.pow_succ, ← Int.pow_add, show j + (31 - j + 1) = 32 from by omega]; rfl
  have e2 : (4294967296 : Int) ^ i = 2 ^ (32 * i) := by rw [Int.pow_mul]; rfl
  rw [hX, e2, Int.pow_add, Int.mul_assoc]
  congr 1
  have e3 : t / 2 ^ j = 2 * (t / 2 ^ j / 2) + 1 := by omega
  generalize t / 2 ^ j = u at *
  rw [ht, e1]
  generalize (2 : Int) ^ (31 - j) = R
  generalize (2 : Int) ^ j = P
  have e4 : u * P = P * (2 * (u / 2) + 1) := by rw [← e3, Int.mul_comm]
  rw [e4, Int.mul_assoc P, ← Int.mul_add]
  congr 1
  rw [Int.mul_add 2, Int.mul_assoc 2]
  omega
theorem IsHalf.unique {X : Int} {b c : Nat} (h : IsHalf X b) (k : IsHalf X c) : b = c := by
  have hne : ∀ (o : Int) (r : Nat), (2 : Int) ^ r * (2 * o + 1) ≠ 0 := fun o r e => by
    rcases Int.mul_eq_zero.1 e with h | h
    · have : (0 : Int) < 2 ^ r := Int.pow_pos (by decide)
      omega
    · omega
  have key : ∀ (b c : Nat) (o p : Int), b < c → (2 : Int) ^ b * (2 * o + 1) ≠ 2 ^ c * (2 * p + 1) := fun b c o p hbc e => by
    obtain ⟨d, rfl⟩ : ∃ d, c = b + (d + 1) := ⟨c - b - 1, by omega⟩
    rw [Int.pow_add, Int.mul_assoc] at e
    have e2 := Int.eq_of_mul_eq_mul_left (by have : (0 : Int) < 2 ^ b := Int.pow_pos (by decide); omega) e
    rw [Int.pow_succ, Int.mul_comm _ 2, Int.mul_assoc] at e2
    omega
  rcases h with ⟨h1, h2⟩ | ⟨o, h1⟩ <;> rcases k with ⟨k1, k2⟩ | ⟨p, k1⟩
  · omega
  · exact absurd (k1.symm.trans h1) (hne p c)
  · exact absurd (h1.symm.trans k1) (hne o b)
  · rcases Nat.lt_trichotomy b c with h | h | h
    · exact absurd (h1.symm.trans k1) (key b c o p h)
    · exact h
    · exact absurd (k1.symm.trans h1) (key c b p o h)
theorem V_from {xs : List Int} {i : Nat} (hi : i < xs.length) (hz : ∀ j, j < i → xs.getD j 0 = 0) : ∃ rest, V 4294967296 xs = 4294967296 ^ i * (xs.getD i 0 + 4294967296 * rest) := by
  obtain ⟨r, hr⟩ : ∃ r, xs.length = i + (1 + r) := ⟨xs.length - i - 1, by omega⟩
  refine ⟨vf 4294967296 (fun j => xs.getD (i + (1 + j)) 0) r, ?_⟩
  unfold V
  rw [hr, vf_split, vf_split (B := 4294967296) (fun j => xs.getD (i + j) 0)]
  have e1 : vf 4294967296 (fun j => xs.getD j 0) i = 0 := by
    have := vf_zero (B := 4294967296) (f := fun j => xs.getD j 0) 0 i (fun j _ h => hz j (by omega))
    rw [Nat.zero_add] at this
    exact this
  have e2 : vf 4294967296 (fun j => xs.getD (i + j) 0) 1 = xs.getD i 0 := by simp [vf]
  rw [e1, e2, Int.zero_add, Int.pow_one]
theorem V_none {xs : List Int} (hz : ∀ j, j < xs.length → xs.getD j 0 = 0) : V 4294967296 xs = 0 := by
  have := vf_zero (B := 4294967296) (f := fun j => xs.getD j 0) 0 xs.length (fun j _ h => hz j (by omega))
  rw [Nat.zero_add] at this
  exact this

set_option maxHeartbeats 1000000 in
theorem noughts_any (a : Option Addr) (n0 c : Nat) (xs : List Int) (w : World) (ha : RowK .u32 w a n0 c xs) (hx : Dig 4294967296 xs) (hn0 : n0 ≤ 100000) :
    Calls Tryz.prog 49 #[.slice a n0 c] w fun e w' => ∃ b : Nat, e = .returned (.int .i64 b) ∧ w = w' ∧ IsHalf (V 4294967296 xs) b := by
  have HA := Lib.hid ha
  have HX := Lib.hid hx
  have HL := Lib.hid ha.1
  clear ha hx
  go_enter Tryz.func49, Tryz.ntmps49
  go_wp2_with fail
  go_loopg [8] n0 (fun k u wr => ∃ i : Nat, u = .int .i64 i ∧ i + k = n0 ∧ (∀ j, j < i → xs.getD j 0 = 0) ∧ w = wr)
  case atStart => exact ⟨0, rfl, by omega, fun j h => by omega, rfl⟩
  case round =>
    obtain ⟨i, rfl, hk, hz, rfl⟩ := hrel
    have HK := Lib.hid hk
    have HZ := Lib.hid hz
    clear hk hz
    by_cases hi : i < n0
    · obtain ⟨-, -, -, h4⟩ := HA.out
      rcases h4 with hcap0 | ⟨ba, oa, rfl, -, hc⟩
      · have := HA.out.2.1; omega
      have hc1 := hc i hi
      have hxr := HX.out.at (by decide) i
      obtain ⟨t, ht⟩ : ∃ d, xs.getD i 0 = d := ⟨_, rfl⟩
      rw [ht] at hc1 hxr
      have HT := Lib.hid ht
      obtain ⟨t0, t1⟩ := hxr
      clear hc ht
      by_cases h0 : t = 0
      · subst h0
        go_wp2_with fail
        go_roundg (gk - 1)
        case measure => have := HK.out; omega
        case rel => exact ⟨i + 1, by go_num, by have := HK.out; omega, fun j hj => (by
          by_cases h : j = i
          · rw [h]; exact HT.out
          · exact HZ.out j (by omega)), rfl⟩
      · have hq : (t == 0) = false := by simpa using h0
        obtain ⟨rest, hrest⟩ := V_from (by rw [HL.out]; exact hi) HZ.out
        rw [HT.out] at hrest
        have HR := Lib.hid hrest
        clear hrest
        go_wp2_with fail
        go_loopg [4, 5] 32 (fun k2 tu nu wi => ∃ j : Nat, tu = .int .u32 (t / 2 ^ j) ∧ nu = .int .i64 ((32 * i + j : Nat) : Int) ∧ j + k2 = 32 ∧ t = t / 2 ^ j * 2 ^ j ∧ w = wi)
        case atStart => exact ⟨0, by simp, by go_num, rfl, by simp, rfl⟩
        case round =>
          obtain ⟨j, rfl, rfl, hk2, htj, rfl⟩ := hrel
          have HK2 := Lib.hid hk2
          have HTJ := Lib.hid htj
          have hp : (0 : Int) < 2 ^ j := Int.pow_pos (by decide)
          have q0 : 0 ≤ t / 2 ^ j := Int.ediv_nonneg t0 (by omega)
          have q1 : t / 2 ^ j ≠ 0 := fun e => by rw [e, Int.zero_mul] at htj; omega
          have hlt : j < 32 := by
            rcases Nat.lt_or_ge j 32 with h | h
            · exact h
            · have h5 : (2 : Int) ^ 32 ≤ 2 ^ j := ipow_le (by decide) h
              have h6 := Int.ediv_eq_zero_of_lt t0 (show t < 2 ^ j by omega)
              exact absurd h6 q1
          have q2 : t / 2 ^ j < 4294967296 := Int.lt_of_le_of_lt (Int.ediv_le_self _ t0) t1
          have HD2 : Hid (t / 2 ^ j / 2 = t / 2 ^ (j + 1)) := Lib.hid (by rw [Int.pow_succ, Int.ediv_ediv_of_nonneg (Int.le_of_lt hp)])
          have HEV : Hid (t / 2 ^ j % 2 = 0 → t = t / 2 ^ (j + 1) * 2 ^ (j + 1)) := Lib.hid fun h => by
            rw [← HD2.out, Int.pow_succ, Int.mul_comm (2 ^ j), ← Int.mul_assoc, show t / 2 ^ j / 2 * 2 = t / 2 ^ j from by omega]
            exact HTJ.out
          have HOD : Hid (t / 2 ^ j % 2 = 1 → IsHalf (V 4294967296 xs) (32 * i + j)) := Lib.hid fun h => half_of HR.out (by omega) HTJ.out h
          clear hk2 htj q1
          obtain ⟨q, hqq⟩ : ∃ q, t / 2 ^ j = q := ⟨_, rfl⟩
          rw [hqq] at q0 q2 HD2 HEV HOD ⊢
          clear hqq hp
          by_cases hev : q % 2 = 0
          · have HE := Lib.hid (HEV.out hev)
            go_wp2_with fail
            go_roundg (gk - 1)
            case measure => have := HK2.out; omega
            case rel => exact ⟨j + 1, congrArg (Value.int .u32) HD2.out, by go_num, by have := HK2.out; omega, HE.out, rfl⟩
          · have HB := Lib.hid (HOD.out (by omega))
            have hev2 : (q % 2 == 0) = false := by simpa using hev
            go_wp2_with fail
            go_ret
            exact ⟨_, rfl, rfl, HB.out⟩
    · have hin : i = n0 := by have := HK.out; omega
      have H0 : Hid (V 4294967296 xs = 0) := Lib.hid (V_none fun j hj => HZ.out j (by rw [HL.out] at hj; omega))
      clear hin
      go_wp2_with fail
      go_ret
      exact ⟨0, rfl, rfl, .inl ⟨H0.out, rfl⟩⟩
end Go.Proofs.YtdbkgpakpadloaaGreatDoor
/- Contracts of package nat's Shl and Shr at any count, a number's bit by its words. Conditions: at most 80000 words. -/
namespace Go.Proofs.YtdbkgpakpadloaaGreatDoor
open Go.RowKit

theorem Arr.new {w : World} {k : IntKind} {e : TypeId} {cs : Array Value} {n : Nat} (xs : List Int) (h : cs = (xs.map (Value.int k)).toArray) (hn : n = w.heap.size) : Arr k e (w.alloc (.cells cs e)) n xs := by
  subst hn
  show (w.alloc _).heap[w.heap.size]? = _
  rw [heap_alloc_new, h]
/-- what the two shifts answer -/
def ShlOut (X : Int) (n : Int) (w : World) (e : Ending) (w' : World) : Prop :=
  ((n < 0 ∨ 8192 < n) ∧ e = .returned (.tuple #[.slice none 0 0, .bool false]) ∧ w = w') ∨ (∃ N : Nat, n = N ∧ N ≤ 8192 ∧ RetNatB w (X * 2 ^ N) e w')
theorem shl_all (a : Option Addr) (n c : Nat) (s : Int) (xs : List Int) (w : World) (ha : RowK .u32 w a n c xs) (hx : Dig 4294967296 xs) (hn0 : n ≤ 80000) :
    Calls Tryz.prog 44 #[.slice a n c, .int .i64 s] w (ShlOut (V 4294967296 xs) s w) := by
  by_cases h : s < 0 ∨ 8192 < s
  · refine (shl_no a n c s w h).mono ?_
    rintro e w' ⟨rfl, rfl⟩
    exact .inl ⟨h, rfl, rfl⟩
  · obtain ⟨N, rfl⟩ : ∃ N : Nat, s = N := ⟨s.toNat, by omega⟩
    refine (shl_any a n c N (N / 32) (N % 32) xs w ha hx hn0 (by omega) (by omega) (by omega)).mono ?_
    intro e w' h1
    exact .inr ⟨N, rfl, by omega, h1⟩
theorem shr_all (a : Option Addr) (n c : Nat) (s : Int) (xs : List Int) (w : World) (ha : RowK .u32 w a n c xs) (hx : Dig 4294967296 xs) (hn0 : n ≤ 80000) (hs : s ≤ 9223372036854775807) :
    Calls Tryz.prog 47 #[.slice a n c, .int .i64 s] w (RetNat w (V 4294967296 xs / 2 ^ s.toNat)) :=
  shr_any a n c s s.toNat (s.toNat / 32) (s.toNat % 32) xs w ha hx (by omega) rfl (by omega) (by omega) hs
/-- a number's bit, by its words -/
theorem bit_at {ks : List Int} {i j : Nat} (hk : Dig 4294967296 ks) (hi : i < ks.length) (hj : j ≤ 31) : ks.getD i 0 / 2 ^ j % 2 = V 4294967296 ks / 2 ^ (32 * i + j) % 2 := by
  obtain ⟨r, hr⟩ : ∃ r, V 4294967296 ks = vf 4294967296 (fun t => ks.getD t 0) i + 4294967296 ^ i * (ks.getD i 0 + 4294967296 * r) := by
    have h : ∀ n, ∃ r, vf 4294967296 (fun t => ks.getD t 0) (i + 1 + n) = vf 4294967296 (fun t => ks.getD t 0) i + 4294967296 ^ i * (ks.getD i 0 + 4294967296 * r) := by
      intro n
      induction n with
      | zero => exact ⟨0, by rw [Int.mul_zero, Int.add_zero, Int.mul_comm]; rfl⟩
      | succ n ih =>
        obtain ⟨r, hr⟩ := ih
        refine ⟨r + ks.getD (i + 1 + n) 0 * 4294967296 ^ n, ?_⟩
        show vf 4294967296 (fun t => ks.getD t 0) (i + 1 + n) + ks.getD (i + 1 + n) 0 * 4294967296 ^ (i + 1 + n) = _
        rw [hr, Int.mul_add 4294967296 r, ← Int.add_assoc, Int.mul_add (4294967296 ^ i) (ks.getD i 0 + _), ← Int.add_assoc]
        congr 1
        rw [Int.pow_add, Int.pow_succ]
        ac_rfl
    obtain ⟨n, hn⟩ : ∃ n, ks.length = i + 1 + n := ⟨ks.length - (i + 1), by omega⟩
    unfold V
    rw [hn]
    exact h n
  have hlo := vf_bd (B := 4294967296) (by decide) (f := fun t => ks.getD t 0) i fun t _ => hk.at (by decide) t
  have e : (2 : Int) ^ (32 * i + j) = 4294967296 ^ i * 2 ^ j := by rw [Int.pow_add, Int.pow_mul]; rfl
  have p : (0 : Int) < 4294967296 ^ i := Int.pow_pos (by decide)
  rw [hr, e, ← Int.ediv_ediv_of_nonneg (Int.le_of_lt p), Int.add_mul_ediv_left _ _ (Int.ne_of_gt p), Int.ediv_eq_zero_of_lt hlo.1 hlo.2, Int.zero_add]
  obtain ⟨q, hq⟩ : ∃ q : Int, 4294967296 = 2 ^ j * (2 * q) := ⟨2 ^ (31 - j), by rw [Int.mul_comm 2, ← Int.pow_succ, ← Int.pow_add, show j + (31 - j + 1) = 32 from by omega]; rfl⟩
  have p2 : (0 : Int) < 2 ^ j := Int.pow_pos (by decide)
  have e2 : (4294967296 : Int) * r = 2 ^ j * (2 * (q * r)) := by rw [← Int.mul_assoc 2, ← Int.mul_assoc, ← hq]
  rw [e2, Int.add_mul_ediv_left _ _ (Int.ne_of_gt p2)]
  omega
end Go.Proofs.YtdbkgpakpadloaaGreatDoor
