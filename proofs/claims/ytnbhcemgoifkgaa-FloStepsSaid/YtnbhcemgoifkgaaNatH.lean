/- Contracts of package nat's take and give: both change one block in place. Conditions: the words are below 2^32. -/
import Derived.Test.YtnbhcemgoifkgaaNatG
namespace Go.Proofs.Ytnbhcemgoifkgaa
open Go.RowKit

/-- nothing but block g has changed -/
structure Only (g : Nat) (w w' : World) : Prop where
  os : w'.os = w.os
  tape : w'.tape = w.tape
  output : w'.output = w.output
  size : w'.heap.size = w.heap.size
  block : ∀ k, k ≠ g → w'.heap[k]? = w.heap[k]?
theorem Only.refl (g : Nat) (w : World) : Only g w w := ⟨rfl, rfl, rfl, rfl, fun _ _ => rfl⟩
theorem Only.trans {g : Nat} {a b c : World} (h : Only g a b) (k : Only g b c) : Only g a c :=
  ⟨k.os.trans h.os, k.tape.trans h.tape, k.output.trans h.output, k.size.trans h.size, fun i hi => (k.block i hi).trans (h.block i hi)⟩
theorem Only.below {g B : Nat} {w w' : World} (h : Only g w w') (hB : B ≤ g) : Below B w w' := ⟨h.os, h.tape, h.output, Nat.le_of_eq h.size.symm, fun k hk => h.block k (by omega)⟩
theorem Only.dn {g : Nat} {a w : World} (h : Only g a w) (n : Nat) : Only g a (w.drewN n) := ⟨h.os, h.tape, h.output, h.size, h.block⟩
theorem Only.setCell {g : Nat} {a w : World} (h : Only g a w) (i : Nat) (v : Value) : Only g a (w.setCell ⟨g, i, none⟩ v) := by
  have hb := (Below.refl w.heap.size w).setCell (p := ⟨w.heap.size, i, none⟩) (Nat.le_refl _) v
  refine ⟨h.os, h.tape, h.output, ?_, fun k hk => ?_⟩
  · rw [← h.size]; simp [World.setCell]
  · rw [Below.heap_setCell _ _ _ _ hk]; exact h.block k hk
theorem Only.cell {g : Nat} {w w' : World} (h : Only g w w') {p : Addr} (hp : p.block ≠ g) : w'.cell? p = w.cell? p := by
  simp only [World.cell?, h.block _ hp]
theorem Only.arr {g gd : Nat} {w w' : World} {k : IntKind} {e : TypeId} {xs : List Int} (h : Only g w w') (ha : Arr k e w gd xs) (hg : gd ≠ g) : Arr k e w' gd xs := by
  show w'.heap[gd]? = _
  rw [h.block _ hg]; exact ha

/-- block g begins with the numbers xs of kind k; what follows is anything -/
def ArrP (k : IntKind) (e : TypeId) (w : World) (g : Nat) (xs : List Int) : Prop := ∃ r : List Value, w.heap[g]? = some (.cells (xs.map (Value.int k) ++ r).toArray e (0, 0))
theorem Arr.part {k : IntKind} {e : TypeId} {w : World} {g : Nat} {xs : List Int} (h : Arr k e w g xs) : ArrP k e w g xs := ⟨[], by rw [List.append_nil]; exact h⟩
theorem ArrP.lt {k : IntKind} {e : TypeId} {w : World} {g : Nat} {xs : List Int} (h : ArrP k e w g xs) : g < w.heap.size := (Array.getElem?_eq_some_iff.1 h.choose_spec).1
theorem ArrP.cell {k : IntKind} {e : TypeId} {w : World} {g : Nat} {xs : List Int} (h : ArrP k e w g xs) {i : Nat} (hi : i < xs.length) : w.cell? ⟨g, i, none⟩ = some (.int k (xs.getD i 0)) := by
  obtain ⟨r, h⟩ := h
  rw [cell_of_row w g i _ e (0, 0) h]
  rw [List.getElem?_toArray, List.getElem?_append_left (by simpa using hi)]
  simp [hi]
theorem ArrP.frozen {k : IntKind} {e : TypeId} {w : World} {g : Nat} {xs : List Int} (h : ArrP k e w g xs) (i : Nat) : w.frozen? ⟨g, i, none⟩ = false := by
  obtain ⟨r, h⟩ := h
  simp [World.frozen?, h]
theorem ArrP.set {k : IntKind} {e : TypeId} {w : World} {g : Nat} {xs : List Int} (h : ArrP k e w g xs) {i : Nat} (hi : i < xs.length) (d : Int) : ArrP k e (w.setCell ⟨g, i, none⟩ (.int k d)) g (xs.set i d) := by
  obtain ⟨r, h⟩ := h
  refine ⟨r, ?_⟩
  show (w.setCell ⟨g, i, none⟩ (.int k d)).heap[g]? = _
  simp [World.setCell, Array.getElem?_modify, h, List.map_set]
  rw [List.set_append_left _ _ (by simpa using hi)]
theorem ArrP.below {k : IntKind} {e : TypeId} {w w' : World} {g B : Nat} {xs : List Int} (h : ArrP k e w g xs) (hb : Below B w w') (hB : g < B) : ArrP k e w' g xs := by
  obtain ⟨r, h⟩ := h
  exact ⟨r, by rw [hb.block g hB]; exact h⟩
theorem ArrP.row {k : IntKind} {e : TypeId} {w : World} {g : Nat} {xs : List Int} (h : ArrP k e w g xs) {n cap : Nat} (hl : xs.length = n) (hn : n ≤ cap) (hc : cap ≤ maxLen) : RowK k w (some ⟨g, 0, none⟩) n cap xs :=
  ⟨hl, hn, hc, .inr ⟨g, 0, rfl, h.lt, fun i hi => by rw [Nat.zero_add, h.cell (by omega)]⟩⟩
theorem OwnK.part {k : IntKind} {w : World} {B g n cap : Nat} {e : TypeId} {xs : List Int} (h : OwnK k w B e (.slice (some ⟨g, 0, none⟩) n cap) n xs) : ArrP k e w g xs := by
  rcases h.2 with ⟨h1, _⟩ | ⟨g', cap', cur, h1, hg, hh, h3, h4, h5, h6⟩
  · cases h1
  · cases h1
    refine ⟨cur.toList.drop (n * 1), ?_⟩
    rw [hh, ← h6, List.take_append_drop]

/-- the value of n places from off on -/
def win (B : Int) (os : List Int) (off n : Nat) : Int := vf B (fun j => os.getD (off + j) 0) n

theorem take_word {x p bo : Int} (hx0 : 0 ≤ x) (hx1 : x < 4294967296) (hb0 : 0 ≤ bo) (hb1 : bo ≤ 1) :
    IntKind.u64.wrap (IntKind.u64.wrap (x - p % 4294967296) - bo) % 4294967296 = (x - p % 4294967296 - bo) % 4294967296 ∧
    IntKind.u64.wrap (IntKind.u64.wrap (x - p % 4294967296) - bo) / 9223372036854775808 = -((x - p % 4294967296 - bo) / 4294967296) := by
  have h2 := Int.emod_lt_of_pos p (show (0 : Int) < 4294967296 by decide)
  have h3 := Int.emod_nonneg p (show (4294967296 : Int) ≠ 0 by decide)
  generalize p % 4294967296 = y at *
  simp only [IntKind.wrap, IntKind.bits, IntKind.signed]
  simp
  omega

/-- one place of 'q times d taken away' -/
theorem take_step {B x d q cy bo p s : Int} {W : Int} {f g : Nat → Int} {i : Nat} (hv : W = vf B f i - (q * vf B g i - cy * B ^ i) + bo * B ^ i) (hx : f i = x) (hd : g i = d) (hp : p = cy + q * d) (hs : s = x - p % B - bo) :
    W + s % B * B ^ i = vf B f (i + 1) - (q * vf B g (i + 1) - p / B * B ^ (i + 1)) + -(s / B) * B ^ (i + 1) := by
  have e1 : vf B f (i + 1) = vf B f i + x * B ^ i := by rw [← hx]; rfl
  have e2 : q * vf B g (i + 1) = q * vf B g i + q * d * B ^ i := by rw [← hd, Int.mul_assoc, ← Int.mul_add]; rfl
  have e3 : p / B * B ^ (i + 1) + p % B * B ^ i = cy * B ^ i + q * d * B ^ i := by
    rw [Int.pow_succ, Int.mul_comm (B ^ i) B, ← Int.mul_assoc, ← Int.add_mul, ← Int.add_mul]
    congr 1
    rw [Int.mul_comm, ← hp]
    exact Int.mul_ediv_add_emod _ _
  have e4 : -(s / B) * B ^ (i + 1) = s % B * B ^ i - s * B ^ i := by
    have h : s / B * B ^ (i + 1) + s % B * B ^ i = s * B ^ i := by
      rw [Int.pow_succ, Int.mul_comm (B ^ i) B, ← Int.mul_assoc, ← Int.add_mul]
      congr 1
      rw [Int.mul_comm]
      exact Int.mul_ediv_add_emod _ _
    rw [Int.neg_mul]; omega
  have e5 : s * B ^ i = x * B ^ i - p % B * B ^ i - bo * B ^ i := by rw [hs, Int.sub_mul, Int.sub_mul]
  omega

theorem win_set {B : Int} {os : List Int} {off i : Nat} {d : Int} (h : off + i < os.length) : win B (os.set (off + i) d) off (i + 1) = win B os off i + d * B ^ i := by
  show vf B _ i + (os.set (off + i) d).getD (off + i) 0 * B ^ i = _
  rw [getD_set_self h]
  congr 1
  exact vf_congr i fun j hj => getD_set_ne (by omega)
theorem mask32 {p : Int} (h0 : 0 ≤ p) (h1 : p < 18446744073709551616) : bits .and .u64 p 4294967295 = p % 4294967296 := by
  have e : bits .and .u64 p 4294967295 = IntKind.u64.wrap ((((p % 18446744073709551616).toNat &&& ((4294967295 : Int) % 18446744073709551616).toNat) : Nat) : Int) := by
    show IntKind.u64.wrap ((BitVec.ofInt 64 p &&& BitVec.ofInt 64 4294967295).toNat : Int) = _
    rw [BitVec.toNat_and, BitVec.toNat_ofInt, BitVec.toNat_ofInt]
    rfl
  rw [e, Int.emod_eq_of_lt h0 h1, show ((4294967295 : Int) % 18446744073709551616).toNat = 2 ^ 32 - 1 from by decide, Nat.and_two_pow_sub_one_eq_mod]
  rw [IntWalk.u64_in _ (by omega)]
  omega

set_option maxHeartbeats 1000000 in
theorem take_any (g gd off n c m cd : Nat) (os ds : List Int) (q : Int) (w : World) (hx : ArrP .u32 55 w g os) (hd : ∀ j, j < m → w.cell? ⟨gd, j, none⟩ = some (.int .u32 (ds.getD j 0))) (hm : ds.length = m) (hg : gd ≠ g)
    (hon : off + n ≤ os.length) (ho : Dig 4294967296 os) (hds : Dig 4294967296 ds) (hn : n ≤ 200000) (hmn : m ≤ n) (hq0 : 0 ≤ q) (hq1 : q < 4294967296) :
    Calls Try.prog 88 #[.slice (some ⟨g, off, none⟩) n c, .slice (some ⟨gd, 0, none⟩) m cd, .int .u64 q] w fun e w' => ∃ (os' : List Int) (bo cy : Int), e = .returned (.bool (decide (bo = 0))) ∧ 0 ≤ bo ∧ bo ≤ 1 ∧ 0 ≤ cy ∧
      ArrP .u32 55 w' g os' ∧ os'.length = os.length ∧ Dig 4294967296 os' ∧ (∀ j, j < off ∨ off + n ≤ j → os'.getD j 0 = os.getD j 0) ∧ Only g w w' ∧
      (m < n → cy = 0) ∧ win 4294967296 os' off n = win 4294967296 os off n - (q * V 4294967296 ds - cy * 4294967296 ^ n) + bo * 4294967296 ^ n := by
  have HX := Lib.hid hx
  have HD := Lib.hid hd
  have HM := Lib.hid hm
  have HON := Lib.hid hon
  have HO := Lib.hid ho
  have HDS := Lib.hid hds
  have FD : Hid (vf 4294967296 (fun i => ds.getD i 0) n = V 4294967296 ds) := Lib.hid (vf_ext (by omega))
  clear hx hd hm hon ho hds
  go_enter Try.func88, Try.ntmps88
  go_wp2_with fail
  go_loopg [14, 7, 8] n (fun k u cu bu wr => ∃ (i : Nat) (cy bo : Int) (os' : List Int), u = .int .i64 i ∧ cu = .int .u64 cy ∧ bu = .int .u64 bo ∧ i + k = n ∧ 0 ≤ cy ∧ cy < 4294967296 ∧ 0 ≤ bo ∧ bo ≤ 1 ∧ ArrP .u32 55 wr g os' ∧ os'.length = os.length ∧ Dig 4294967296 os' ∧
    (∀ j, j < off ∨ off + i ≤ j → os'.getD j 0 = os.getD j 0) ∧ Only g w wr ∧ (m < i → cy = 0) ∧ win 4294967296 os' off i = win 4294967296 os off i - (q * vf 4294967296 (fun i => ds.getD i 0) i - cy * 4294967296 ^ i) + bo * 4294967296 ^ i)
  case atStart => exact ⟨0, 0, 0, os, rfl, rfl, rfl, by omega, by omega, by omega, by omega, by omega, HX.out, rfl, HO.out, fun _ _ => rfl, Only.refl _ _, fun _ => rfl, by simp [win, vf]⟩
  case round =>
    obtain ⟨i, cy, bo, os2, rfl, rfl, rfl, hk, hc0, hc1, hb0, hb1, harr, hlo, hdo, hsame, hon, hcz, hv⟩ := hrel
    have HK := Lib.hid hk
    have HARR := Lib.hid harr
    have HLO := Lib.hid hlo
    have HDO := Lib.hid hdo
    have HSAME := Lib.hid hsame
    have HONLY := Lib.hid hon
    have HCZ := Lib.hid hcz
    have HV := Lib.hid hv
    clear hk harr hlo hdo hsame hon hcz hv
    by_cases hi : i < n
    · have hxr := HDO.out.at (by decide) (off + i)
      have hco := HARR.out.cell (i := off + i) (by rw [HLO.out]; have := HON.out; omega)
      have hfo := HARR.out.frozen (off + i)
      obtain ⟨x, hxx⟩ : ∃ d, os2.getD (off + i) 0 = d := ⟨_, rfl⟩
      rw [hxx] at hco hxr
      have HXX : Hid (os.getD (off + i) 0 = x) := Lib.hid (by rw [← hxx]; exact (HSAME.out _ (.inr (Nat.le_refl _))).symm)
      obtain ⟨hx0, hx1⟩ := hxr
      by_cases him : i < m
      · have hcd : wr.cell? ⟨gd, i, none⟩ = some (.int .u32 (ds.getD i 0)) := by rw [HONLY.out.cell hg]; exact HD.out i him
        have hdr := HDS.out.at (by decide) i
        obtain ⟨d, hdd⟩ : ∃ d, ds.getD i 0 = d := ⟨_, rfl⟩
        rw [hdd] at hcd hdr
        have HDD := Lib.hid hdd
        obtain ⟨hp0, hp1⟩ := prod_bd (A := 4294967295) (B := 4294967295) hq0 hdr.1 (by omega) (by omega)
        have e1 : IntKind.u64.wrap (q * d) = q * d := IntWalk.u64_in _ (by omega)
        have e2 : IntKind.u64.wrap (cy + q * d) = cy + q * d := IntWalk.u64_in _ (by omega)
        have e3 := mask32 (p := cy + q * d) (by omega) (by omega)
        obtain ⟨tw1, tw2⟩ := take_word (p := cy + q * d) hx0 hx1 hb0 hb1
        have hb1' : -4294967296 ≤ x - (cy + q * d) % 4294967296 - bo := by omega
        clear hxx hdd
        go_wp2_with fail
        go_roundg (gk - 1)
        case measure => have := HK.out; omega
        case rel => exact ⟨i + 1, (cy + q * d) / 4294967296, -((x - (cy + q * d) % 4294967296 - bo) / 4294967296), os2.set (off + i) ((x - (cy + q * d) % 4294967296 - bo) % 4294967296), by go_num, rfl, rfl, by have := HK.out; omega, by omega, by omega, by omega, by omega, HARR.out.set (by rw [HLO.out]; have := HON.out; omega) _, by rw [List.length_set]; exact HLO.out, HDO.out.set _ (by omega) (by omega),
          fun j hj => by rw [getD_set_ne (by omega)]; exact HSAME.out j (by omega), HONLY.out.setCell _ _, fun h => by omega, by
            rw [win_set (by rw [HLO.out]; have := HON.out; omega)]
            exact take_step (d := d) HV.out HXX.out HDD.out rfl rfl⟩
      · have hdz : ds.getD i 0 = 0 := getD_ge (by rw [HM.out]; omega)
        have HDZ := Lib.hid hdz
        have e3 := mask32 (p := cy) (by omega) (by omega)
        have hcy : cy % 4294967296 = cy := by omega
        obtain ⟨tw1, tw2⟩ := take_word (p := cy) hx0 hx1 hb0 hb1
        rw [hcy] at tw1 tw2 e3
        clear hxx hdz
        go_wp2_with fail
        go_roundg (gk - 1)
        case measure => have := HK.out; omega
        case rel => exact ⟨i + 1, cy / 4294967296, -((x - cy - bo) / 4294967296), os2.set (off + i) ((x - cy - bo) % 4294967296), by go_num, rfl, rfl, by have := HK.out; omega, by omega, by omega, by omega, by omega, HARR.out.set (by rw [HLO.out]; have := HON.out; omega) _, by rw [List.length_set]; exact HLO.out, HDO.out.set _ (by omega) (by omega),
          fun j hj => by rw [getD_set_ne (by omega)]; exact HSAME.out j (by omega), HONLY.out.setCell _ _, fun h => by omega, by
            rw [win_set (by rw [HLO.out]; have := HON.out; omega)]
            exact take_step (d := 0) HV.out HXX.out HDZ.out (by rw [Int.mul_zero, Int.add_zero]) (by omega)⟩
    · have HIN : Hid (i = n) := Lib.hid (by have := HK.out; omega)
      go_wp2_with fail
      go_ret
      have e := HIN.out
      subst e
      exact ⟨os2, bo, cy, rfl, hb0, hb1, hc0, HARR.out, HLO.out, HDO.out, HSAME.out, HONLY.out, HCZ.out, by rw [HV.out, FD.out]⟩
/-- one place of a sum laid over the first number -/
theorem give_step {B x d cy s : Int} {W : Int} {f g : Nat → Int} {i : Nat} (hv : W = vf B f i + vf B g i - cy * B ^ i) (hx : f i = x) (hd : g i = d) (hs : s = x + cy + d) :
    W + s % B * B ^ i = vf B f (i + 1) + vf B g (i + 1) - s / B * B ^ (i + 1) := by
  have e1 : vf B f (i + 1) = vf B f i + x * B ^ i := by rw [← hx]; rfl
  have e2 : vf B g (i + 1) = vf B g i + d * B ^ i := by rw [← hd]; rfl
  have e3 : s / B * B ^ (i + 1) + s % B * B ^ i = x * B ^ i + cy * B ^ i + d * B ^ i := by
    rw [Int.pow_succ, Int.mul_comm (B ^ i) B, ← Int.mul_assoc, ← Int.add_mul, ← Int.add_mul, ← Int.add_mul]
    congr 1
    rw [Int.mul_comm, ← hs]
    exact Int.mul_ediv_add_emod _ _
  omega

set_option maxHeartbeats 1000000 in
theorem give_any (g gd off n c m cd : Nat) (os ds : List Int) (w : World) (hx : ArrP .u32 55 w g os) (hd : ∀ j, j < m → w.cell? ⟨gd, j, none⟩ = some (.int .u32 (ds.getD j 0))) (hm : ds.length = m) (hg : gd ≠ g)
    (hon : off + n ≤ os.length) (ho : Dig 4294967296 os) (hds : Dig 4294967296 ds) (hn : n ≤ 200000) (hmn : m ≤ n) :
    Calls Try.prog 89 #[.slice (some ⟨g, off, none⟩) n c, .slice (some ⟨gd, 0, none⟩) m cd] w fun e w' => ∃ (os' : List Int) (cy : Int), e = .returned (.tuple #[]) ∧ 0 ≤ cy ∧ cy ≤ 1 ∧
      ArrP .u32 55 w' g os' ∧ os'.length = os.length ∧ Dig 4294967296 os' ∧ (∀ j, j < off ∨ off + n ≤ j → os'.getD j 0 = os.getD j 0) ∧ Only g w w' ∧
      win 4294967296 os' off n = win 4294967296 os off n + V 4294967296 ds - cy * 4294967296 ^ n := by
  have HX := Lib.hid hx
  have HD := Lib.hid hd
  have HM := Lib.hid hm
  have HON := Lib.hid hon
  have HO := Lib.hid ho
  have HDS := Lib.hid hds
  have FD : Hid (vf 4294967296 (fun i => ds.getD i 0) n = V 4294967296 ds) := Lib.hid (vf_ext (by omega))
  clear hx hd hm hon ho hds
  go_enter Try.func89, Try.ntmps89
  go_wp2_with fail
  go_loopg [9, 4] n (fun k u cu wr => ∃ (i : Nat) (cy : Int) (os' : List Int), u = .int .i64 i ∧ cu = .int .u64 cy ∧ i + k = n ∧ 0 ≤ cy ∧ cy ≤ 1 ∧ ArrP .u32 55 wr g os' ∧ os'.length = os.length ∧ Dig 4294967296 os' ∧
    (∀ j, j < off ∨ off + i ≤ j → os'.getD j 0 = os.getD j 0) ∧ Only g w wr ∧ win 4294967296 os' off i = win 4294967296 os off i + vf 4294967296 (fun i => ds.getD i 0) i - cy * 4294967296 ^ i)
  case atStart => exact ⟨0, 0, os, rfl, rfl, by omega, by omega, by omega, HX.out, rfl, HO.out, fun _ _ => rfl, Only.refl _ _, by simp [win, vf]⟩
  case round =>
    obtain ⟨i, cy, os2, rfl, rfl, hk, hc0, hc1, harr, hlo, hdo, hsame, hon, hv⟩ := hrel
    have HK := Lib.hid hk
    have HARR := Lib.hid harr
    have HLO := Lib.hid hlo
    have HDO := Lib.hid hdo
    have HSAME := Lib.hid hsame
    have HONLY := Lib.hid hon
    have HV := Lib.hid hv
    clear hk harr hlo hdo hsame hon hv
    by_cases hi : i < n
    · have hxr := HDO.out.at (by decide) (off + i)
      have hco := HARR.out.cell (i := off + i) (by rw [HLO.out]; have := HON.out; omega)
      have hfo := HARR.out.frozen (off + i)
      obtain ⟨x, hxx⟩ : ∃ d, os2.getD (off + i) 0 = d := ⟨_, rfl⟩
      rw [hxx] at hco hxr
      have HXX : Hid (os.getD (off + i) 0 = x) := Lib.hid (by rw [← hxx]; exact (HSAME.out _ (.inr (Nat.le_refl _))).symm)
      obtain ⟨hx0, hx1⟩ := hxr
      by_cases him : i < m
      · have hcd : wr.cell? ⟨gd, i, none⟩ = some (.int .u32 (ds.getD i 0)) := by rw [HONLY.out.cell hg]; exact HD.out i him
        have hdr := HDS.out.at (by decide) i
        obtain ⟨d, hdd⟩ : ∃ d, ds.getD i 0 = d := ⟨_, rfl⟩
        rw [hdd] at hcd hdr
        have HDD := Lib.hid hdd
        obtain ⟨hd0, hd1⟩ := hdr
        clear hxx hdd
        go_wp2_with fail
        go_roundg (gk - 1)
        case measure => have := HK.out; omega
        case rel => exact ⟨i + 1, (x + cy + d) / 4294967296, os2.set (off + i) ((x + cy + d) % 4294967296), by go_num, rfl, by have := HK.out; omega, by omega, by omega, HARR.out.set (by rw [HLO.out]; have := HON.out; omega) _, by rw [List.length_set]; exact HLO.out, HDO.out.set _ (by omega) (by omega),
          fun j hj => by rw [getD_set_ne (by omega)]; exact HSAME.out j (by omega), HONLY.out.setCell _ _, by
            rw [win_set (by rw [HLO.out]; have := HON.out; omega)]
            exact give_step (d := d) HV.out HXX.out HDD.out rfl⟩
      · have hdz : ds.getD i 0 = 0 := getD_ge (by rw [HM.out]; omega)
        have HDZ := Lib.hid hdz
        clear hxx hdz
        go_wp2_with fail
        go_roundg (gk - 1)
        case measure => have := HK.out; omega
        case rel => exact ⟨i + 1, (x + cy) / 4294967296, os2.set (off + i) ((x + cy) % 4294967296), by go_num, rfl, by have := HK.out; omega, by omega, by omega, HARR.out.set (by rw [HLO.out]; have := HON.out; omega) _, by rw [List.length_set]; exact HLO.out, HDO.out.set _ (by omega) (by omega),
          fun j hj => by rw [getD_set_ne (by omega)]; exact HSAME.out j (by omega), HONLY.out.setCell _ _, by
            rw [win_set (by rw [HLO.out]; have := HON.out; omega)]
            exact give_step (d := 0) HV.out HXX.out HDZ.out (by omega)⟩
    · have HIN : Hid (i = n) := Lib.hid (by have := HK.out; omega)
      go_wp2_with fail
      go_end0
      have e := HIN.out
      subst e
      exact ⟨os2, cy, rfl, hc0, hc1, HARR.out, HLO.out, HDO.out, HSAME.out, HONLY.out, by rw [HV.out, FD.out]⟩
end Go.Proofs.Ytnbhcemgoifkgaa
