/- Contracts of package bushelref02's Same (two lists alike) and of the law's awake. No conditions. -/
import Derived.Test.YtnbhcemgoifkgaaNatR
namespace Go.Proofs.Ytnbhcemgoifkgaa
open Go.RowKit

set_option maxHeartbeats 1000000 in
theorem nsame_yes (a b : Option Addr) (n c d : Nat) (xs : List Int) (w : World) (ha : RowK .u32 w a n c xs) (hb : RowK .u32 w b n d xs) :
    Calls Try.prog 65 #[.slice a n c, .slice b n d] w fun e w' => e = .returned (.bool true) ∧ Below w.heap.size w w' := by
  have HA := Lib.hid ha
  have HB := Lib.hid hb
  have hn : n ≤ 9223372036854775807 := by have := ha.2.1; have := ha.2.2.1; unfold maxLen at this; omega
  clear ha hb
  have hne : ((n : Int) != (n : Int)) = false := by simp
  go_enter Try.func65, Try.ntmps65
  go_wp2_with fail
  go_loopg [5] n (fun k u wr => ∃ i : Nat, u = .int .i64 i ∧ i + k = n ∧ Below w.heap.size w wr)
  case atStart => exact ⟨0, rfl, by omega, Below.refl _ _⟩
  case round =>
    obtain ⟨i, rfl, hk, hbl⟩ := hrel
    have HK := Lib.hid hk
    have HBL := Lib.hid hbl
    clear hk
    by_cases hi : i < n
    · obtain ⟨-, -, -, h4⟩ := HA.out.below hbl (Nat.le_refl _)
      obtain ⟨-, -, -, k4⟩ := HB.out.below hbl (Nat.le_refl _)
      rcases h4 with hcap0 | ⟨ba, oa, rfl, -, hc⟩
      · have := HA.out.2.1; omega
      rcases k4 with hcap0 | ⟨bb, ob, rfl, -, hd⟩
      · have := HB.out.2.1; omega
      have hc1 := hc i hi
      have hd1 := hd i hi
      generalize xs.getD i 0 = x at *
      have hxx : (x != x) = false := by simp
      have g1 : (i : Int) < (n : Int) := by omega
      have g0 : (0 : Int) ≤ (i : Int) := by omega
      clear hc hd hbl
      go_wp2_with fail
      go_quiet (fail)
      go_wp2_with fail
      go_roundg (gk - 1)
      case measure => have := HK.out; omega
      case rel => exact ⟨i + 1, by go_num, by have := HK.out; omega, below_dn HBL.out _⟩
    · have hin : i = n := by have := HK.out; omega
      clear hbl hin
      go_wp2_with fail
      go_ret
      exact ⟨rfl, HBL.out⟩

/-- of two trim lists of one number -/
theorem same_nat {w : World} {a b : Option Addr} {n c m d : Nat} {z : Int} (ha : NatC w a n c z) (hb : NatC w b m d z) : m = n ∧ ∃ xs, RowK .u32 w a n c xs ∧ RowK .u32 w b n d xs := by
  obtain ⟨xs, h1, h2, h3, h4⟩ := ha
  obtain ⟨ys, k1, k2, k3, k4⟩ := hb
  have e := V_inj (B := 4294967296) (by decide) h2 k2 h3 k3 (h4.trans k4.symm)
  subst e
  have hmn : m = n := by rw [← k1.1, h1.1]
  subst hmn
  exact ⟨rfl, xs, h1, k1⟩
theorem two_pow32_text : IsText 4294967296 ⟨#[52, 50, 57, 52, 57, 54, 55, 50, 57, 54]⟩ :=
  ⟨[6, 9, 2, 7, 6, 9, 4, 9, 2, 4], by unfold Dig; decide, .inr (by decide), by decide, by rw [if_neg (by decide)]; rfl⟩
theorem two_pow32_ok : OkText ⟨#[52, 50, 57, 52, 57, 54, 55, 50, 57, 54]⟩ := by
  refine ⟨by decide, by decide, by decide, ?_⟩
  decide
theorem two_pow32_tv : tv ⟨#[52, 50, 57, 52, 57, 54, 55, 50, 57, 54]⟩ 10 = 4294967296 := by decide
theorem root_32 {r : Int} (h0 : 0 ≤ r) (h1 : r * r ≤ 4294967296) (h2 : 4294967296 < (r + 1) * (r + 1)) : r = 65536 := by
  rcases Int.lt_trichotomy r 65536 with h | h | h
  · have := Int.mul_le_mul (show r + 1 ≤ 65536 by omega) (show r + 1 ≤ 65536 by omega) (by omega) (by omega)
    omega
  · exact h
  · have := Int.mul_le_mul (show 65537 ≤ r by omega) (show 65537 ≤ r by omega) (by omega) (by omega)
    omega

theorem Arr.new {w : World} {k : IntKind} {e : TypeId} {cs : Array Value} {n : Nat} (xs : List Int) (h : cs = (xs.map (Value.int k)).toArray) (hn : n = w.heap.size) : Arr k e (w.alloc (.cells cs e)) n xs := by
  subst hn
  show (w.alloc _).heap[w.heap.size]? = _
  rw [heap_alloc_new, h]
theorem dig01 : Dig 4294967296 [0, 1] ∧ Dig 4294967296 [1, 0] ∧ Dig 4294967296 [65536] := by unfold Dig; decide
/-- a list laid out in the text is its number -/
theorem NatC.lit {w : World} {xs : List Int} {n : Nat} {z : Int} (h : Arr .u32 55 w n xs) {m : Nat} (hm : xs.length = m) (hl : m ≤ 8796093022208) (hd : Dig 4294967296 xs) (ht : Trimmed xs) (hv : V 4294967296 xs = z) : NatC w (some ⟨n, 0, none⟩) m m z := by
  subst hm
  exact ⟨xs, h.full hl, hd, ht, hv⟩

set_option maxRecDepth 100000 in
set_option maxHeartbeats 2000000 in
theorem awake_nat (w : World) : Calls Try.prog 16 #[] w fun e w' => e = .returned (.bool true) ∧ Below w.heap.size w w' := by
  go_enter Try.func16, Try.ntmps16
  go_wp2_with fail
  have a1 : Arr .u32 55 ((w.alloc (.cells #[.int .u32 1, .int .u32 0] 55)).alloc (.cells #[.int .u32 0, .int .u32 1] 55)) w.heap.size [1, 0] := (Arr.new [1, 0] rfl rfl).below ((Below.refl _ _).alloc (Nat.le_refl _) _) (by simp)
  have a2 : Arr .u32 55 ((w.alloc (.cells #[.int .u32 1, .int .u32 0] 55)).alloc (.cells #[.int .u32 0, .int .u32 1] 55)) (w.heap.size + 1) [0, 1] := Arr.new [0, 1] rfl (by simp)
  have hb2 : Below w.heap.size w ((w.alloc (.cells #[.int .u32 1, .int .u32 0] 55)).alloc (.cells #[.int .u32 0, .int .u32 1] 55)) := ((Below.refl _ _).alloc (Nat.le_refl _) _).alloc (by simp) _
  have hmul := nmul_any _ _ 2 2 2 2 [1, 0] [0, 1] _ (a1.full (by decide)) (a2.full (by decide)) dig01.2.1 dig01.1 (by decide) (by decide)
  rw [show V 4294967296 [1, 0] * V 4294967296 [0, 1] = 4294967296 from by decide] at hmul
  have HB2 := Lib.hid hb2
  have HMUL := Lib.hid hmul
  clear a1 a2 hb2 hmul
  generalize (w.alloc (.cells #[.int .u32 1, .int .u32 0] 55)).alloc (.cells #[.int .u32 0, .int .u32 1] 55) = w2 at *
  refine HMUL.out.mono ?_; rintro e w3 ⟨am, nm, cm, rfl, hm, hb3, -⟩
  have HM := Lib.hid hm
  have HB3 := Lib.hid (HB2.out.trans (hb3.mono HB2.out.size))
  clear hm hb3
  go_wp2_with fail
  refine (nread_any _ w3 (by decide)).mono ?_; rintro e w4 hro
  obtain ⟨ax, nx, cx, rfl, hx, hb4, -⟩ := hro.1 two_pow32_ok
  rw [show tv ⟨#[52, 50, 57, 52, 57, 54, 55, 50, 57, 54]⟩ (ByteArray.size ⟨#[52, 50, 57, 52, 57, 54, 55, 50, 57, 54]⟩) = 4294967296 from two_pow32_tv] at hx
  have HX := Lib.hid hx
  have HM4 := Lib.hid (HM.out.below hb4 (Nat.le_refl _))
  have HB4 := Lib.hid (HB3.out.trans (hb4.mono HB3.out.size))
  clear hro hx hb4
  go_wp2_with fail
  have hb5 : Below w4.heap.size w4 (w4.alloc (.cells #[.int .u32 0, .int .u32 1] 55)) := (Below.refl _ _).alloc (Nat.le_refl _) _
  have a5 : Arr .u32 55 (w4.alloc (.cells #[.int .u32 0, .int .u32 1] 55)) w4.heap.size [0, 1] := Arr.new [0, 1] rfl rfl
  obtain ⟨h2, zs, hz1, hz2⟩ := same_nat (HM4.out.below hb5 (Nat.le_refl _)) (NatC.lit a5 rfl (by decide) dig01.1 (.inr (by decide)) (by decide))
  subst h2
  have HSM := Lib.hid (nsame_yes _ _ _ _ _ _ _ hz1 hz2)
  have HB5 := Lib.hid (HB4.out.trans (hb5.mono HB4.out.size))
  have HM5 := Lib.hid (HM4.out.below hb5 (Nat.le_refl _))
  have HX5 := Lib.hid (HX.out.below hb5 (Nat.le_refl _))
  clear hb5 a5 hz1 hz2
  generalize w4.alloc (.cells #[.int .u32 0, .int .u32 1] 55) = w5 at *
  refine HSM.out.mono ?_; rintro e w6 ⟨rfl, hb6⟩
  have HB6 := Lib.hid (HB5.out.trans (hb6.mono HB5.out.size))
  have HM6 := Lib.hid (HM5.out.below hb6 (Nat.le_refl _))
  have HX6 := Lib.hid (HX5.out.below hb6 (Nat.le_refl _))
  clear hb6
  go_wp2_with fail
  obtain ⟨ms, hmr, hmd, hmv, -⟩ := HM6.out.tl
  have htx := ntext_any _ _ _ ms w6 hmr hmd (by decide)
  rw [hmv] at htx
  refine htx.mono ?_; rintro e w7 ⟨s, rfl, hst, hb7⟩
  have hse := hst.one two_pow32_text
  subst hse
  have HB7 := Lib.hid (HB6.out.trans (hb7.mono HB6.out.size))
  have HM7 := Lib.hid (HM6.out.below hb7 (Nat.le_refl _))
  have HX7 := Lib.hid (HX6.out.below hb7 (Nat.le_refl _))
  clear hb7 hst htx hmr hmd hmv
  go_wp2_with fail
  obtain ⟨us, hur, hud, huv, -⟩ := HX7.out.tl
  obtain ⟨vs, hvr, hvd, hvv, -⟩ := HM7.out.tl
  have hcm := ncmp_any _ _ _ _ _ _ us vs w7 hur hvr hud hvd
  rw [huv, hvv, cmpZ_eq rfl] at hcm
  refine hcm.mono ?_; rintro e w8 ⟨rfl, hb8⟩
  have HB8 := Lib.hid (HB7.out.trans (hb8.mono HB7.out.size))
  have HM8 := Lib.hid (HM7.out.below hb8 (Nat.le_refl _))
  clear hb8 hcm hur hud huv hvr hvd hvv
  go_wp2_with fail
  obtain ⟨ms, hmr, hmd, hmv, -⟩ := HM8.out.tl
  have hrt := root_any _ _ _ ms w8 hmr hmd (by decide)
  rw [hmv] at hrt
  refine hrt.mono ?_; rintro e w9 ⟨r, hr0, hr1, hr2, ar, nr, cr, rfl, hrn, hb9, -⟩
  have hr := root_32 hr0 hr1 hr2
  subst hr
  have HB9 := Lib.hid (HB8.out.trans (hb9.mono HB8.out.size))
  have HM9 := Lib.hid (HM8.out.below hb9 (Nat.le_refl _))
  have HR9 := Lib.hid hrn
  clear hb9 hrt hmr hmd hmv hr0 hr1 hr2 hrn
  go_wp2_with fail
  have hb10 : Below w9.heap.size w9 (w9.alloc (.cells #[.int .u32 65536] 55)) := (Below.refl _ _).alloc (Nat.le_refl _) _
  have a10 : Arr .u32 55 (w9.alloc (.cells #[.int .u32 65536] 55)) w9.heap.size [65536] := Arr.new [65536] rfl rfl
  obtain ⟨h2, zs, hz1, hz2⟩ := same_nat (HR9.out.below hb10 (Nat.le_refl _)) (NatC.lit a10 rfl (by decide) dig01.2.2 (.inr (by decide)) (by decide))
  subst h2
  have HSM2 := Lib.hid (nsame_yes _ _ _ _ _ _ _ hz1 hz2)
  have HB10 := Lib.hid (HB9.out.trans (hb10.mono HB9.out.size))
  have HM10 := Lib.hid (HM9.out.below hb10 (Nat.le_refl _))
  clear hb10 a10 hz1 hz2
  generalize w9.alloc (.cells #[.int .u32 65536] 55) = w10 at *
  refine HSM2.out.mono ?_; rintro e w11 ⟨rfl, hb11⟩
  have HB11 := Lib.hid (HB10.out.trans (hb11.mono HB10.out.size))
  have HM11 := Lib.hid (HM10.out.below hb11 (Nat.le_refl _))
  clear hb11
  go_wp2_with fail
  obtain ⟨ms, hmr, hmd, hmv, -⟩ := HM11.out.tl
  have hbt := bits_any _ _ _ ms w11 hmr hmd (by decide)
  have hnt := noughts_any _ _ _ ms w11 hmr hmd (by decide)
  rw [hmv] at hbt hnt
  have HNT := Lib.hid hnt
  refine hbt.mono ?_; rintro e w12 ⟨b, rfl, rfl, hbb⟩
  have hb33 := hbb.unique (show IsBits 4294967296 33 from .inr (by decide))
  subst hb33
  clear hbb hbt hnt hmr hmd hmv
  go_wp2_with fail
  refine HNT.out.mono ?_; rintro e w12 ⟨b, rfl, rfl, hbb⟩
  have hb32 := hbb.unique (show IsHalf 4294967296 32 from .inr ⟨0, by decide⟩)
  subst hb32
  clear hbb
  go_wp2_with fail
  go_ret
  exact ⟨rfl, HB11.out⟩
end Go.Proofs.Ytnbhcemgoifkgaa
