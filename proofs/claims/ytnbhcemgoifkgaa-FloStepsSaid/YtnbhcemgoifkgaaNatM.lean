/- Contract of package nat's Div: plain laws and the small cases. Conditions: the words are below 2^32; at most 90000 of them. -/
import Derived.Test.YtnbhcemgoifkgaaNatL
namespace Go.Proofs.Ytnbhcemgoifkgaa
open Go.RowKit

theorem win_cons {B : Int} (os : List Int) (off n : Nat) : win B os off (n + 1) = os.getD off 0 + B * win B os (off + 1) n := by
  have h := vf_split (B := B) (fun j => os.getD (off + j) 0) 1 n
  unfold win
  rw [Nat.add_comm n 1, h]
  have e : vf B (fun j => os.getD (off + j) 0) 1 = os.getD off 0 := by simp [vf]
  rw [e, Int.pow_succ, Int.pow_zero, Int.one_mul]
  congr 2
  exact vf_congr n fun i _ => by rw [Nat.add_assoc]
theorem V_win {B : Int} {os os' : List Int} {off n : Nat} (hl : os'.length = os.length) (hon : off + n ≤ os.length) (hs : ∀ j, j < off ∨ off + n ≤ j → os'.getD j 0 = os.getD j 0) :
    V B os' = V B os + (win B os' off n - win B os off n) * B ^ off := by
  obtain ⟨r, hr⟩ : ∃ r, os.length = off + (n + r) := ⟨os.length - off - n, by omega⟩
  unfold V
  rw [hl, hr, vf_split, vf_split (B := B) (fun j => os.getD j 0), vf_split (B := B) (fun j => os'.getD (off + j) 0), vf_split (B := B) (fun j => os.getD (off + j) 0)]
  have e1 : vf B (fun i => os'.getD i 0) off = vf B (fun i => os.getD i 0) off := vf_congr off fun i hi => hs i (.inl hi)
  have e2 : vf B (fun j => os'.getD (off + (n + j)) 0) r = vf B (fun j => os.getD (off + (n + j)) 0) r := vf_congr r fun i _ => hs _ (.inr (by omega))
  rw [e1, e2]
  show _ + B ^ off * (win B os' off n + _) = _ + B ^ off * (win B os off n + _) + _
  generalize vf B (fun j => os.getD (off + (n + j)) 0) r = R
  rw [Int.mul_add, Int.mul_add, Int.sub_mul, Int.mul_comm (B ^ off) (win B os' off n), Int.mul_comm (B ^ off) (win B os off n)]
  omega
/-- a value below a power has no places from there on -/
theorem win_top {os : List Int} (ho : Dig 4294967296 os) {off m : Nat} {D : Int} (hD : D ≤ 4294967296 ^ m) (h : win 4294967296 os off (m + 1) < D) : os.getD (off + m) 0 = 0 ∧ win 4294967296 os off m < D := by
  have e : win 4294967296 os off (m + 1) = win 4294967296 os off m + os.getD (off + m) 0 * 4294967296 ^ m := rfl
  have h0 := (win_bd ho off m).1
  have h1 := (ho.at (by decide) (off + m)).1
  rcases Int.lt_or_le 0 (os.getD (off + m) 0) with h2 | h2
  · have h3 : 1 * 4294967296 ^ m ≤ os.getD (off + m) 0 * 4294967296 ^ m := Int.mul_le_mul_of_nonneg_right (by omega) (Int.le_of_lt (Int.pow_pos (by decide)))
    rw [Int.one_mul] at h3
    omega
  · have h3 : os.getD (off + m) 0 = 0 := by omega
    refine ⟨h3, ?_⟩
    rw [h3, Int.zero_mul] at e
    omega
/-- one word of a division -/
theorem div_step {os os' qs : List Int} {D W Z : Int} {j m : Nat} (hl : os'.length = os.length) (hon : j + m ≤ os.length) (hs : ∀ t, t < j ∨ j + m ≤ t → os'.getD t 0 = os.getD t 0)
    (hW : win 4294967296 os j m = W) (hW' : win 4294967296 os' j m = W % D) (hj : j < qs.length) (hz : qs.getD j 0 = 0) (hv : V 4294967296 os + D * V 4294967296 qs = Z) :
    V 4294967296 os' + D * V 4294967296 (qs.set j (W / D)) = Z := by
  rw [V_win hl hon hs, V_set hj, hz, hW, hW', Int.sub_zero, Int.mul_add, ← hv]
  have e := Int.mul_ediv_add_emod W D
  have e2 : (W % D - W) * 4294967296 ^ j = - (D * (W / D * 4294967296 ^ j)) := by
    rw [← Int.mul_assoc, ← Int.neg_mul]
    congr 1
    omega
  omega
theorem div_end {os qs : List Int} {D Z : Int} {m : Nat} (ho : Dig 4294967296 os) (hm : m ≤ os.length) (hz : ∀ t, m ≤ t → os.getD t 0 = 0) (hlt : win 4294967296 os 0 m < D) (hv : V 4294967296 os + D * V 4294967296 qs = Z) :
    V 4294967296 qs = Z / D ∧ V 4294967296 os = Z % D := by
  have e : V 4294967296 os = win 4294967296 os 0 m := by
    obtain ⟨r, hr⟩ : ∃ r, os.length = m + r := ⟨os.length - m, by omega⟩
    unfold V win
    rw [hr, vf_zero m r fun i h _ => hz i h]
    exact vf_congr m fun i _ => by rw [Nat.zero_add]
  exact small_end (V_bd (by decide) ho).1 (by omega) (by rw [Int.mul_comm]; omega)
theorem div_scale {X Y : Int} {s : Nat} : (X * 2 ^ s) / (Y * 2 ^ s) = X / Y ∧ (X * 2 ^ s) % (Y * 2 ^ s) / 2 ^ s = X % Y := by
  have hp : (0 : Int) < 2 ^ s := Int.pow_pos (by decide)
  refine ⟨Int.mul_ediv_mul_of_pos_left _ _ hp, ?_⟩
  rw [Int.mul_comm X, Int.mul_comm Y, Int.mul_emod_mul_of_pos _ _ hp, Int.mul_ediv_cancel_left _ (by omega)]
theorem bits_range {Y : Int} {b m : Nat} (h : IsBits Y b) (h0 : 4294967296 ^ m ≤ Y) (h1 : Y < 4294967296 ^ (m + 1)) : 32 * m < b ∧ b ≤ 32 * (m + 1) := by
  have e : ∀ m : Nat, (4294967296 : Int) ^ m = 2 ^ (32 * m) := fun m => by rw [Int.pow_mul]; rfl
  have hp : (0 : Int) < 4294967296 ^ m := Int.pow_pos (by decide)
  rcases h with ⟨k1, k2⟩ | ⟨k1, k2, k3⟩
  · omega
  · rw [e] at h0 h1
    constructor
    · rcases Nat.lt_or_ge (32 * m) b with h | h
      · exact h
      · have : (2 : Int) ^ b ≤ 2 ^ (32 * m) := ipow_le (by decide) h
        omega
    · rcases Nat.lt_or_ge (32 * (m + 1)) b with h | h
      · have : (2 : Int) ^ (32 * (m + 1)) ≤ 2 ^ (b - 1) := ipow_le (by decide) (by omega)
        omega
      · exact h
/-- the shifted divisor fills its words -/
theorem shift_fit {Y : Int} {b m s : Nat} (h : IsBits Y b) (h0 : 4294967296 ^ m ≤ Y) (hs : 32 * (m + 1) = b + s) : 4294967296 ^ m ≤ Y * 2 ^ s ∧ Y * 2 ^ s < 4294967296 ^ (m + 1) := by
  have e : ∀ m : Nat, (4294967296 : Int) ^ m = 2 ^ (32 * m) := fun m => by rw [Int.pow_mul]; rfl
  have hp : (1 : Int) ≤ 2 ^ s := Int.pow_pos (by decide)
  have hq : (0 : Int) < 4294967296 ^ m := Int.pow_pos (by decide)
  constructor
  · have := Int.mul_le_mul_of_nonneg_left hp (show 0 ≤ Y by omega)
    omega
  · rcases h with ⟨k1, k2⟩ | ⟨k1, k2, k3⟩
    · omega
    · have : Y * 2 ^ s < 2 ^ b * 2 ^ s := Int.mul_lt_mul_of_pos_right k3 (by omega)
      rw [← Int.pow_add, ← hs, ← e] at this
      exact this

/-- a call's answer: the trim lists of q and r, and true -/
def RetQR (w : World) (q r : Int) (e : Ending) (w' : World) : Prop := ∃ a n c b m d, e = .returned (.tuple #[.slice a n c, .slice b m d, .bool true]) ∧ NatC w' a n c q ∧ NatC w' b m d r ∧ Below w.heap.size w w' ∧ Fresh w.heap.size a ∧ Fresh w.heap.size b

theorem ndiv_no (a b : Option Addr) (n0 c m0 d : Nat) (ys : List Int) (w : World) (hb : RowK .u32 w b m0 d ys) (hy : Dig 4294967296 ys) (h0 : V 4294967296 ys = 0) :
    Calls Try.prog 18 #[.slice a n0 c, .slice b m0 d] w fun e w' => e = .returned (.tuple #[.slice none 0 0, .slice none 0 0, .bool false]) ∧ w = w' := by
  have SB := Lib.hid (size_any b m0 d ys w hb)
  rw [(tl_pos (by decide) hy).1 h0] at SB
  clear hb
  go_enter Try.func18, Try.ntmps18
  go_wp2_with fail
  refine SB.out.mono ?_; rintro e w1 ⟨rfl, rfl⟩
  go_wp2_with fail
  go_ret3
  exact ⟨rfl, rfl⟩

theorem ndiv_less (a b : Option Addr) (n0 c m0 d : Nat) (xs ys : List Int) (w : World) (ha : RowK .u32 w a n0 c xs) (hb : RowK .u32 w b m0 d ys) (hx : Dig 4294967296 xs) (hy : Dig 4294967296 ys) (hn : n0 ≤ 90000) (h0 : V 4294967296 xs < V 4294967296 ys) :
    Calls Try.prog 18 #[.slice a n0 c, .slice b m0 d] w (RetQR w 0 (V 4294967296 xs)) := by
  have SB := Lib.hid (size_any b m0 d ys w hb)
  have HC := Lib.hid (ncmp_any a b n0 c m0 d xs ys w ha hb hx hy)
  rw [cmpZ_lt h0] at HC
  have HT := Lib.hid (fun w1 (h : Below w.heap.size w w1) => trim_any a n0 c xs w1 (ha.below h (Nat.le_refl _)) hx (by omega))
  have hm : tl ys ≠ 0 := by
    intro h
    have h1 := (tl_pos (by decide) hy).2 h
    have h2 := (V_bd (B := 4294967296) (by decide) hx).1
    omega
  have hml : tl ys ≤ m0 := by have := tl_le ys; rw [hb.1] at this; exact this
  have hmb : m0 ≤ 9223372036854775807 := by have := hb.2.1; have := hb.2.2.1; unfold maxLen at this; omega
  clear ha hb h0
  generalize tl ys = m at *
  generalize V 4294967296 xs = X at *
  go_enter Try.func18, Try.ntmps18
  go_wp2_with fail
  refine SB.out.mono ?_; rintro e w1 ⟨rfl, rfl⟩
  go_wp2_with fail
  refine HC.out.mono ?_; rintro e w1 ⟨rfl, hb1⟩
  go_wp2_with fail
  refine (HT.out w1 hb1).mono ?_; rintro e w2 h
  have HB1 := Lib.hid hb1
  obtain ⟨a2, n2, c2, rfl, h1⟩ := h
  have H1 := Lib.hid h1
  clear hb1 h1
  go_wp2_with fail
  go_ret3
  obtain ⟨h1, h2, h3⟩ := H1.out
  exact ⟨none, 0, 0, a2, n2, c2, rfl, ⟨[], RowK.nil, Dig.nil, .inl rfl, rfl⟩, h1, HB1.out.trans (h2.mono HB1.out.size), Fresh.nil, h3.mono HB1.out.size⟩

theorem ndiv_one (a b : Option Addr) (n0 c m0 d : Nat) (xs ys : List Int) (w : World) (ha : RowK .u32 w a n0 c xs) (hb : RowK .u32 w b m0 d ys) (hx : Dig 4294967296 xs) (hy : Dig 4294967296 ys) (hn : n0 ≤ 90000) (h0 : V 4294967296 ys ≤ V 4294967296 xs) (h1 : tl ys = 1) :
    Calls Try.prog 18 #[.slice a n0 c, .slice b m0 d] w (RetQR w (V 4294967296 xs / V 4294967296 ys) (V 4294967296 xs % V 4294967296 ys)) := by
  have SB := Lib.hid (size_any b m0 d ys w hb)
  have HC := Lib.hid (ncmp_any a b n0 c m0 d xs ys w ha hb hx hy)
  have hcz := cmpZ_ge h0
  have hml : tl ys ≤ m0 := by have := tl_le ys; rw [hb.1] at this; exact this
  have hmb : m0 ≤ 9223372036854775807 := by have := hb.2.1; have := hb.2.2.1; unfold maxLen at this; omega
  obtain ⟨t0, t1, t2⟩ := tl_word hy (m := 0) h1
  rw [Int.pow_zero, Int.mul_one] at t0 t1
  have hYE : V 4294967296 ys = ys.getD 0 0 := by omega
  have r0 := hy.at (by decide) 0
  rw [h1] at SB hml
  rw [hYE]
  have HT := Lib.hid (fun w1 (h : Below w.heap.size w w1) => small_any a n0 c (ys.getD 0 0) xs w1 (ha.below h (Nat.le_refl _)) hx (by omega) (by omega) r0.2)
  have HB := Lib.hid hb
  obtain ⟨-, -, -, h4⟩ := hb
  rcases h4 with hcap0 | ⟨bb, ob, rfl, hbb, hc⟩
  · have := HB.out.2.1; omega
  have c0 := hc 0 (by omega)
  rw [Nat.add_zero] at c0
  have hcz' : ¬ (cmpZ (V 4294967296 xs) (V 4294967296 ys) < 0) := by omega
  clear ha h0 hc t0 t1 hYE h1
  generalize cmpZ (V 4294967296 xs) (V 4294967296 ys) = cz at *
  generalize ys.getD 0 0 = y at *
  generalize V 4294967296 xs = X at *
  obtain ⟨y0, y1⟩ := r0
  have m0' := Int.emod_nonneg X (show y ≠ 0 by omega)
  have m1' := Int.emod_lt_of_pos X (show 0 < y by omega)
  obtain ⟨r, hr⟩ : ∃ r, X % y = r := ⟨_, rfl⟩
  obtain ⟨q, hq⟩ : ∃ q, X / y = q := ⟨_, rfl⟩
  rw [hr, hq] at HT ⊢
  rw [hr] at m0' m1'
  clear hr hq
  go_enter Try.func18, Try.ntmps18
  go_wp2_with fail
  refine SB.out.mono ?_; rintro e w1 ⟨rfl, rfl⟩
  go_wp2_with fail
  refine HC.out.mono ?_; rintro e w1 ⟨rfl, hb1⟩
  have c1 : w1.cell? ⟨bb, ob, none⟩ = some (.int .u32 y) := by rw [(bcell hb1).1 _ _ hbb]; exact c0
  go_wp2_with fail
  refine (HT.out w1 hb1).mono ?_; rintro e w2 ⟨a2, n2, c2, rfl, hN2, hb2, hf2⟩
  have HB1 := Lib.hid hb1
  have HB2 := Lib.hid hb2
  have HN2 := Lib.hid hN2
  have HF2 := Lib.hid hf2
  clear hb1 hb2 hN2 hf2 c1 c0
  go_wp2_with fail
  refine (nof_any r w2 m0' (by omega)).mono ?_; rintro e w3 ⟨a3, n3, c3, rfl, hN3, hb3, hf3⟩
  have HB3 := Lib.hid hb3
  have HN3 := Lib.hid hN3
  have HF3 := Lib.hid hf3
  clear hb3 hN3 hf3
  go_wp2_with fail
  go_ret3
  have s2 := HB2.out.size
  have s1 := HB1.out.size
  exact ⟨a2, n2, c2, a3, n3, c3, rfl, HN2.out.below HB3.out (Nat.le_refl _), HN3.out, (HB1.out.trans (HB2.out.mono s1)).trans (HB3.out.mono (by omega)), HF2.out.mono s1, HF3.out.mono (by omega)⟩
end Go.Proofs.Ytnbhcemgoifkgaa
