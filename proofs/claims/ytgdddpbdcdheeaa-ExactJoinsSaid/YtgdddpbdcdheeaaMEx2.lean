/- Contract of package exact's Bytes. Conditions: below 2^2240 units. -/
import Derived.Test.YtgdddpbdcdheeaaMEx1
import Derived.Test.YtgdddpbdcdheeaaNatQ
import Derived.Test.YtgdddpbdcdheeaaMReg
import Derived.BigRegion
namespace Go.Proofs.Ytgdddpbdcdheeaa
open Go.RowKit Ieee

theorem info_u8e : (Try.prog.info? 5).map (fun i => (i.zero, i.size, i.bytes)) = some (some (.int .u8 0), 1, 1) := by kernel_rfl
theorem append4 (k : IntKind) (t e : TypeId) (bytes : Nat) (hinfo : (Try.prog.info? e).map (fun i => (i.zero, i.size, i.bytes)) = some (some (.int k 0), 1, bytes)) (hb8 : bytes ≤ 8) (ht : Try.prog.underlying t = some (.slice e))
    {ops : Array Oper} {rest : List Oper} {o : Oper} {a : Act} {Q : Exit → Act → World → Prop} (hgd : o.guard = none) (s x : Operand)
    (ho : o.op = .call { callee := .builtin .append, args := #[s, x], argTypes := #[t, t] }) (B : Nat) (wr : World) (v : Value) (n : Nat) (xs : List Int) (d0 d1 d2 d3 : Int)
    (hs : a.eval s = v) (hx : a.eval x = .slice (some ⟨wr.heap.size, 0, none⟩) 4 4) (hown : OwnK k wr B e v n xs) (hn : n ≤ 8796093022208) (hB : B ≤ wr.heap.size)
    (h : ∀ g cap w', OwnK k w' B e (.slice (some ⟨g, 0, none⟩) (n + 4) cap) (n + 4) (xs ++ [d0, d1, d2, d3]) → wr.grownBy w' v.ownBlock → (∀ w0, Below B w0 wr → Below B w0 w') → (v.ownBlock = some g ∨ wr.heap.size ≤ g) → wpList Try.prog ops Q rest (a.put o.dst (.slice (some ⟨g, 0, none⟩) (n + 4) cap)) w') :
    wpList Try.prog ops Q (o :: rest) a (wr.alloc (.cells #[.int k d0, .int k d1, .int k d2, .int k d3] e)) := by
  obtain ⟨i0, hi, hz0, hz1, hz2⟩ := info_parts hinfo
  refine wpList_append_lies _ hgd s x t ho B e i0 (.int k 0) 1 bytes ht hi hz0 hz1 hz2 rfl (by decide) v n _ hs (World.ownsRow.alloc hown _) ⟨wr.heap.size, 0, none⟩ 4 4 [.int k d0, .int k d1, .int k d2, .int k d3] hx rfl ?c1 ?c2 (by decide) ?c3 ?c4 ?c5 _ rfl ?_
  case c1 =>
    intro j u hj
    match j, hj with
    | 0, hj => simp at hj; subst hj; simp [Addr.add]
    | 1, hj => simp at hj; subst hj; simp [Addr.add]
    | 2, hj => simp at hj; subst hj; simp [Addr.add]
    | 3, hj => simp at hj; subst hj; simp [Addr.add]
  case c2 => intro u hu; simp at hu; rcases hu with rfl | rfl | rfl | rfl <;> rfl
  case c3 => unfold maxLen; omega
  case c4 =>
    have : (n + 4) * bytes ≤ (n + 4) * 8 := Nat.mul_le_mul_left _ hb8
    omega
  case c5 => simp; omega
  intro g cap w' h1 h2 h4 _
  have h3 := grown_alloc h2
  refine h g cap w' (by unfold OwnK; rw [List.map_append]; exact h1) h3 (fun w0 hb => hb.grown h3 hB fun k hk => (World.ownsRow.lt hown k hk).1) ?_
  rcases h4 with h4 | h4
  · exact .inl h4
  · right; simp at h4; omega
theorem OwnK.three (k : IntKind) (w : World) (e : TypeId) (d0 d1 d2 : Int) : OwnK k (w.alloc (.cells #[.int k d0, .int k d1, .int k d2] e)) w.heap.size e (.slice (some ⟨w.heap.size, 0, none⟩) 3 3) 3 [d0, d1, d2] := by
  refine ⟨rfl, .inr ⟨w.heap.size, 3, #[.int k d0, .int k d1, .int k d2], rfl, Nat.le_refl _, heap_alloc_new w _, Nat.le_refl _, by unfold maxLen; omega, by simp, by simp⟩⟩

/-- a word's bytes, the highest first -/
def be4 (x : Int) : List Int := [x / 16777216, x / 65536 % 256, x / 256 % 256, x % 256]
/-- the bytes of the highest j words -/
def tailB (xs : List Int) : Nat → List Int
  | 0 => []
  | j + 1 => tailB xs j ++ be4 (xs.getD (xs.length - 1 - j) 0)
/-- how many words at the beginning are 0 -/
def LowW (xs : List Int) (l : Nat) : Prop := l ≤ xs.length ∧ (∀ j, j < l → xs.getD j 0 = 0) ∧ (l < xs.length → xs.getD l 0 ≠ 0)
theorem LowW.one {xs : List Int} {l m : Nat} (h : LowW xs l) (k : LowW xs m) : l = m := by
  obtain ⟨h1, h2, h3⟩ := h
  obtain ⟨k1, k2, k3⟩ := k
  rcases Nat.lt_trichotomy l m with h4 | h4 | h4
  · exact absurd (k2 l h4) (h3 (by omega))
  · exact h4
  · exact absurd (h2 m h4) (k3 (by omega))
def IsBytes (b : Nat) (z : Int) (bs : List Int) : Prop :=
  ∃ xs l, Dig 4294967296 xs ∧ Trimmed xs ∧ V 4294967296 xs = ((z.natAbs : Nat) : Int) ∧ LowW xs l ∧ bs = [((b + (if z < 0 then 32 else 0) : Nat) : Int), (l : Int), ((xs.length - l : Nat) : Int)] ++ tailB xs (xs.length - l)
theorem IsBytes.one {b : Nat} {z : Int} {bs cs : List Int} (h : IsBytes b z bs) (k : IsBytes b z cs) : bs = cs := by
  obtain ⟨xs, l, h1, h2, h3, h4, h5⟩ := h
  obtain ⟨ys, m, k1, k2, k3, k4, k5⟩ := k
  obtain rfl := V_inj (B := 4294967296) (by decide) h1 k1 h2 k2 (by rw [h3, k3])
  obtain rfl := h4.one k4
  rw [h5, k5]
theorem tailB_len (xs : List Int) : ∀ j, (tailB xs j).length = 4 * j
  | 0 => rfl
  | j + 1 => by
    show (tailB xs j ++ be4 _).length = _
    rw [List.length_append, tailB_len xs j]
    rfl
def RBytes (b : Nat) (z : Int) (w : World) (e : Ending) (w' : World) : Prop := ∃ a n c bs, e = .returned (.slice a n c) ∧ RowK .u8 w' a n c bs ∧ IsBytes b z bs ∧ Below w.heap.size w w' ∧ Fresh w.heap.size a

theorem no_bits {x : Int} (h0 : 0 ≤ x) (n : Nat) : x < 2 ^ n → (∀ j, j < n → x / 2 ^ j % 2 = 0) → x = 0 := by
  induction n with
  | zero => intro h _; rw [Int.pow_zero] at h; omega
  | succ n ih =>
    intro h hb
    refine ih ?_ (fun j hj => hb j (by omega))
    have h1 := hb n (by omega)
    have hp : (0 : Int) < 2 ^ n := Int.pow_pos (by decide)
    have h2 : x / 2 ^ n < 2 := Int.ediv_lt_of_lt_mul hp (by rw [Int.mul_comm, ← Int.pow_succ]; exact h)
    have h3 : 0 ≤ x / 2 ^ n := Int.ediv_nonneg h0 (by omega)
    have h4 : x / 2 ^ n = 0 := by omega
    have h5 := Int.mul_ediv_add_emod x (2 ^ n)
    rw [h4, Int.mul_zero, Int.zero_add] at h5
    rw [← h5]
    exact Int.emod_lt_of_pos _ hp
theorem half_bits {X o : Int} {r : Nat} (h : X = 2 ^ r * (2 * o + 1)) : (∀ p, p < r → X / 2 ^ p % 2 = 0) ∧ X / 2 ^ r % 2 = 1 := by
  constructor
  · intro p hp
    obtain ⟨d, hd⟩ : ∃ d, r = p + (d + 1) := ⟨r - p - 1, by omega⟩
    have e : X = 2 ^ p * (2 * (2 ^ d * (2 * o + 1))) := by
      rw [h, hd, Int.pow_add, Int.pow_succ, Int.mul_assoc, Int.mul_comm (2 ^ d) 2, Int.mul_assoc]
    rw [e, Int.mul_ediv_cancel_left _ (Int.ne_of_gt (Int.pow_pos (by decide)))]
    omega
  · rw [h, Int.mul_ediv_cancel_left _ (Int.ne_of_gt (Int.pow_pos (by decide)))]
    omega
/-- the low words that are 0, by the number of noughts -/
theorem low_noughts {xs : List Int} {r : Nat} (hd : Dig 4294967296 xs) (ht : Trimmed xs) (h : IsHalf (V 4294967296 xs) r) : LowW xs (r / 32) := by
  have hp := V_pos (B := 4294967296) (by decide) hd ht
  rcases h with ⟨h1, h2⟩ | ⟨o, ho⟩
  · have hx : xs = [] := Decidable.byContradiction fun hne => by
      have := hp.2 hne
      omega
    subst hx
    subst h2
    exact ⟨by simp, by simp, by simp⟩
  · obtain ⟨b1, b2⟩ := half_bits ho
    have hz : ∀ i, i < r / 32 → i < xs.length → xs.getD i 0 = 0 := fun i hi hl => by
      have hx := hd.at (by decide) i
      refine no_bits hx.1 32 hx.2 (fun j hj => ?_)
      rw [bit_at hd hl (by omega)]
      exact b1 _ (by omega)
    have hne : xs ≠ [] := by
      intro e
      rw [e, V_nil] at ho
      have h3 : (2 : Int) ^ r ≠ 0 := Int.ne_of_gt (Int.pow_pos (by decide))
      rcases Int.mul_eq_zero.1 ho.symm with h4 | h4
      · exact h3 h4
      · omega
    have hlen : 0 < xs.length := List.length_pos_iff.2 hne
    have hlt : r / 32 < xs.length := by
      rcases Nat.lt_or_ge (r / 32) xs.length with h4 | h4
      · exact h4
      · rcases ht with h5 | h5
        · exact absurd h5 hne
        · exact absurd (hz (xs.length - 1) (by omega) (by omega)) h5
    refine ⟨by omega, fun j hj => hz j hj (by omega), fun _ h0 => ?_⟩
    have h5 := bit_at (j := r % 32) hd hlt (by omega)
    rw [show 32 * (r / 32) + r % 32 = r from by omega, b2, h0] at h5
    rw [Int.zero_ediv] at h5
    omega
end Go.Proofs.Ytgdddpbdcdheeaa
/- Contract of package exact's Bytes. Conditions: below 2^2240 units. -/
namespace Go.Proofs.Ytgdddpbdcdheeaa
open Go.RowKit Ieee

theorem wrap_u8 {x y : Int} (h : x % 256 = y) : IntKind.u8.wrap x = y := by
  simp only [IntKind.wrap, IntKind.bits, IntKind.signed]
  simp
  omega
theorem or_32 : ∀ b, b < 32 → b ||| 32 = b + 32 := by decide
theorem tail_more {xs : List Int} {j : Nat} {h : List Int} {x : Int} (hx : xs.getD (xs.length - 1 - j) 0 = x) : h ++ tailB xs j ++ be4 x = h ++ tailB xs (j + 1) := by
  rw [List.append_assoc, ← hx]; rfl

set_option maxRecDepth 100000 in
set_option maxHeartbeats 8000000 in
theorem sumbytes_any (w : World) (g b : Nat) (z : Int) (hs : SumAt w g b z) (hz : z.natAbs < ROOM) (hb : b < 32) :
    Calls Try.prog 21 #[.pointer (some ⟨g, 0, none⟩)] w (RBytes b z w) := by
  have HI := Lib.hid (sumis_any w g b z hs)
  obtain ⟨a, n, c, hk, hN⟩ := hs
  have hl := hN.words hz
  obtain ⟨xs, hr, hd, ht, hv⟩ := hN
  have hlen : xs.length = n := hr.1
  have HNT := Lib.hid (noughts_any a n c xs w hr hd (by omega))
  have HLW : Hid (∀ r, IsHalf (V 4294967296 xs) r → LowW xs (r / 32)) := Lib.hid (fun r h => low_noughts hd ht h)
  have HR := Lib.hid hr
  have HD := Lib.hid hd
  have HT := Lib.hid ht
  have HV := Lib.hid hv
  have HLEN := Lib.hid hlen
  have HK := Lib.hid hk
  have hg : g < w.heap.size := hk.lt
  have c1 : w.cell? ⟨g, 1, none⟩ = some (.int .u8 (b : Int)) := hk.cell 1
  have c2 : w.cell? ⟨g, 2, none⟩ = some (.bool (decide (z < 0))) := hk.cell 2
  have c3 : w.cell? ⟨g, 3, none⟩ = some (.slice a n c) := hk.cell 3
  have o32 : bits .or .u8 (b : Int) 32 = ((b + 32 : Nat) : Int) := by rw [← or_32 b hb]; exact bits_or_u8 (b := 32) (by omega) (by omega)
  obtain ⟨fl, hfl⟩ : ∃ fl : Nat, b + (if z < 0 then 32 else 0) = fl := ⟨_, rfl⟩
  have HFL := Lib.hid hfl
  have hneg : (decide (z < 0) = true ∧ fl = b + 32) ∨ (decide (z < 0) = false ∧ fl = b) := by
    rw [← hfl]
    by_cases h : z < 0
    · left; rw [if_pos h]; exact ⟨decide_eq_true h, rfl⟩
    · right; rw [if_neg h]; exact ⟨decide_eq_false h, rfl⟩
  clear hk hr hd ht hv hz hfl hlen
  rcases hneg with ⟨hn1, hn2⟩ | ⟨hn1, hn2⟩
  all_goals
    rw [hn1] at c2
    have HN2 := Lib.hid hn2
    clear hn1 hn2
    go_enter Try.func21, Try.ntmps21
    go_wp2_with fail
    refine HI.out.mono ?_; rintro e w1 ⟨rfl, rfl⟩
    go_wp2_with fail
    refine HNT.out.mono ?_; rintro e w1 ⟨r, rfl, rfl, hh⟩
    have hlow := HLW.out r hh
    obtain ⟨l, hl0⟩ : ∃ l, r / 32 = l := ⟨_, rfl⟩
    rw [hl0] at hlow
    have hrl : (r : Int) / 32 = (l : Int) := by omega
    have HLOW := Lib.hid hlow
    have hln : l ≤ n := by have := hlow.1; have := HLEN.out; omega
    have hw1 : IntKind.u8.wrap (l : Int) = (l : Int) := wrap_u8 (by omega)
    have hw2 : IntKind.u8.wrap ((n : Int) - (l : Int)) = ((n - l : Nat) : Int) := wrap_u8 (by omega)
    have hw3 : IntKind.u8.wrap (fl : Int) = (fl : Int) := wrap_u8 (by have := HN2.out; omega)
    clear hh hlow hl0
    go_wp2_with fail
  · have hown0 := OwnK.three .u8 w 5 ((b : Int) + 32) (l : Int) ((n - l : Nat) : Int)
    have hb0 : Below w.heap.size w (w.alloc (.cells #[.int .u8 ((b : Int) + 32), .int .u8 (l : Int), .int .u8 ((n - l : Nat) : Int)] 5)) := (Below.refl _ _).alloc (Nat.le_refl _) _
    have HOW0 := Lib.hid hown0
    have HB0 := Lib.hid hb0
    have hsz0 : w.heap.size ≤ (w.alloc (.cells #[.int .u8 ((b : Int) + 32), .int .u8 (l : Int), .int .u8 ((n - l : Nat) : Int)] 5)).heap.size := hb0.size
    generalize (w.alloc (.cells #[.int .u8 ((b : Int) + 32), .int .u8 (l : Int), .int .u8 ((n - l : Nat) : Int)] 5)) = w0 at *
    clear hown0 hb0 c1 c2 c3 hw1 hw2 hw3 o32
    generalize hhd : [((b : Int) + 32), (l : Int), ((n - l : Nat) : Int)] = hd at *
    have HHD := Lib.hid hhd
    clear hhd
    go_loopg [5, 6] (n - l) (fun gg out i wr => ∃ (j : Nat), i = .int .i64 ((n : Int) - 1 - (j : Int)) ∧ j + gg = n - l ∧ OwnK .u8 wr w.heap.size 5 out (3 + 4 * j) (hd ++ tailB xs j) ∧ Below w.heap.size w wr)
    case atStart => exact ⟨0, congrArg (Value.int .i64) (by omega), by omega, by have h := HOW0.out; unfold tailB; rw [List.append_nil]; exact h, HB0.out⟩
    case round =>
      obtain ⟨j, rfl, hj, how, hbl⟩ := hrel
      have HOW := Lib.hid how
      have HBL := Lib.hid hbl
      have hk1 := HK.out.below hbl hg
      have c3 : wr.cell? ⟨g, 3, none⟩ = some (.slice a n c) := hk1.cell 3
      have hbsz : w.heap.size ≤ wr.heap.size := hbl.size
      have hg2 : g < wr.heap.size := by omega
      have hrow := HR.out.below hbl (Nat.le_refl _)
      clear how hk1 hbl
      by_cases hlt : j < n - l
      · obtain ⟨i, hi⟩ : ∃ i : Nat, (n : Int) - 1 - (j : Int) = (i : Int) := ⟨n - 1 - j, by omega⟩
        obtain ⟨-, hcap, -, hcc⟩ := hrow
        rcases hcc with h0 | ⟨ba, oa, rfl, hba, hcell⟩
        · omega
        have hii : i < n := by omega
        have cx := hcell i hii
        have hxr := HD.out.at (by decide) i
        obtain ⟨x, hx⟩ : ∃ x, xs.getD i 0 = x := ⟨_, rfl⟩
        rw [hx] at cx hxr
        obtain ⟨x1, x2⟩ := hxr
        have hx' : xs.getD (xs.length - 1 - j) 0 = x := by rw [← hx, HLEN.out]; congr 1; omega
        have HX := Lib.hid hx'
        have hx3 : x ≤ 4294967295 := by omega
        have q0 : (l : Int) ≤ (i : Int) := by omega
        have q1 : (0 : Int) ≤ (i : Int) := by omega
        have q2 : (i : Int) < (n : Int) := by omega
        have hw1 : IntKind.u8.wrap (x / 16777216) = x / 16777216 := wrap_u8 (by omega)
        have hw2 : IntKind.u8.wrap (x / 65536) = x / 65536 % 256 := wrap_u8 (by omega)
        have hw3 : IntKind.u8.wrap (x / 256) = x / 256 % 256 := wrap_u8 (by omega)
        have hw4 : IntKind.u8.wrap x = x % 256 := wrap_u8 (by omega)
        rw [hi]
        have HII := Lib.hid hi
        have HJ := Lib.hid hj
        have hj8 : j ≤ 70 := by omega
        have hg1 : 1 ≤ gk := by omega
        clear hcell hx hx' hi hj hlt x2
        go_wp2_with (at_builtin; refine append4 .u8 41 5 1 info_u8e (by decide) Try.underlying41 rfl _ _ rfl w.heap.size wr u5 (3 + 4 * j) (hd ++ tailB xs j) (x / 16777216) (x / 65536 % 256) (x / 256 % 256) (x % 256) rfl rfl HOW.out (by omega) hbsz ?_)
        intro g3 cap3 w3 hown3 hgr3 hbl3 hg3
        have HOW3 : Hid (OwnK .u8 w3 w.heap.size 5 (.slice (some ⟨g3, 0, none⟩) (3 + 4 * j + 4) cap3) (3 + 4 * (j + 1)) (hd ++ tailB xs (j + 1))) := Lib.hid (by rw [← tail_more HX.out, List.append_assoc]; exact hown3)
        have HB3 := Lib.hid (hbl3 w HBL.out)
        clear hown3 hgr3 hbl3 hg3
        go_wp2_with fail
        go_roundg (gk - 1)
        case measure => have := HJ.out; omega
        case rel => exact ⟨j + 1, congrArg (Value.int .i64) (by have := HII.out; omega), by have := HJ.out; omega, HOW3.out, HB3.out⟩
      · have hje : j = n - l := by omega
        have HJE := Lib.hid hje
        have hq : decide ((l : Int) ≤ (n : Int) - 1 - (j : Int)) = false := by simp; omega
        obtain ⟨a5, c5, hu5⟩ := HOW.out.form
        subst hu5
        have HEQ : Hid (hd ++ tailB xs j = [((b + (if z < 0 then 32 else 0) : Nat) : Int), (l : Int), ((xs.length - l : Nat) : Int)] ++ tailB xs (xs.length - l)) := Lib.hid (by
          rw [← HHD.out, hje, HLEN.out, HFL.out, HN2.out]; try rfl)
        clear hlt hje hj
        go_wp2_with fail
        go_ret
        exact ⟨a5, _, c5, _, rfl, HOW.out.row, ⟨xs, l, HD.out, HT.out, HV.out, HLOW.out, HEQ.out⟩, HBL.out, HOW.out.fresh⟩
  · have hown0 := OwnK.three .u8 w 5 (b : Int) (l : Int) ((n - l : Nat) : Int)
    have hb0 : Below w.heap.size w (w.alloc (.cells #[.int .u8 (b : Int), .int .u8 (l : Int), .int .u8 ((n - l : Nat) : Int)] 5)) := (Below.refl _ _).alloc (Nat.le_refl _) _
    have HOW0 := Lib.hid hown0
    have HB0 := Lib.hid hb0
    have hsz0 : w.heap.size ≤ (w.alloc (.cells #[.int .u8 (b : Int), .int .u8 (l : Int), .int .u8 ((n - l : Nat) : Int)] 5)).heap.size := hb0.size
    generalize (w.alloc (.cells #[.int .u8 (b : Int), .int .u8 (l : Int), .int .u8 ((n - l : Nat) : Int)] 5)) = w0 at *
    clear hown0 hb0 c1 c2 c3 hw1 hw2 hw3 o32
    generalize hhd : [(b : Int), (l : Int), ((n - l : Nat) : Int)] = hd at *
    have HHD := Lib.hid hhd
    clear hhd
    go_loopg [5, 6] (n - l) (fun gg out i wr => ∃ (j : Nat), i = .int .i64 ((n : Int) - 1 - (j : Int)) ∧ j + gg = n - l ∧ OwnK .u8 wr w.heap.size 5 out (3 + 4 * j) (hd ++ tailB xs j) ∧ Below w.heap.size w wr)
    case atStart => exact ⟨0, congrArg (Value.int .i64) (by omega), by omega, by have h := HOW0.out; unfold tailB; rw [List.append_nil]; exact h, HB0.out⟩
    case round =>
      obtain ⟨j, rfl, hj, how, hbl⟩ := hrel
      have HOW := Lib.hid how
      have HBL := Lib.hid hbl
      have hk1 := HK.out.below hbl hg
      have c3 : wr.cell? ⟨g, 3, none⟩ = some (.slice a n c) := hk1.cell 3
      have hbsz : w.heap.size ≤ wr.heap.size := hbl.size
      have hg2 : g < wr.heap.size := by omega
      have hrow := HR.out.below hbl (Nat.le_refl _)
      clear how hk1 hbl
      by_cases hlt : j < n - l
      · obtain ⟨i, hi⟩ : ∃ i : Nat, (n : Int) - 1 - (j : Int) = (i : Int) := ⟨n - 1 - j, by omega⟩
        obtain ⟨-, hcap, -, hcc⟩ := hrow
        rcases hcc with h0 | ⟨ba, oa, rfl, hba, hcell⟩
        · omega
        have hii : i < n := by omega
        have cx := hcell i hii
        have hxr := HD.out.at (by decide) i
        obtain ⟨x, hx⟩ : ∃ x, xs.getD i 0 = x := ⟨_, rfl⟩
        rw [hx] at cx hxr
        obtain ⟨x1, x2⟩ := hxr
        have hx' : xs.getD (xs.length - 1 - j) 0 = x := by rw [← hx, HLEN.out]; congr 1; omega
        have HX := Lib.hid hx'
        have hx3 : x ≤ 4294967295 := by omega
        have q0 : (l : Int) ≤ (i : Int) := by omega
        have q1 : (0 : Int) ≤ (i : Int) := by omega
        have q2 : (i : Int) < (n : Int) := by omega
        have hw1 : IntKind.u8.wrap (x / 16777216) = x / 16777216 := wrap_u8 (by omega)
        have hw2 : IntKind.u8.wrap (x / 65536) = x / 65536 % 256 := wrap_u8 (by omega)
        have hw3 : IntKind.u8.wrap (x / 256) = x / 256 % 256 := wrap_u8 (by omega)
        have hw4 : IntKind.u8.wrap x = x % 256 := wrap_u8 (by omega)
        rw [hi]
        have HII := Lib.hid hi
        have HJ := Lib.hid hj
        have hj8 : j ≤ 70 := by omega
        have hg1 : 1 ≤ gk := by omega
        clear hcell hx hx' hi hj hlt x2
        go_wp2_with (at_builtin; refine append4 .u8 41 5 1 info_u8e (by decide) Try.underlying41 rfl _ _ rfl w.heap.size wr u5 (3 + 4 * j) (hd ++ tailB xs j) (x / 16777216) (x / 65536 % 256) (x / 256 % 256) (x % 256) rfl rfl HOW.out (by omega) hbsz ?_)
        intro g3 cap3 w3 hown3 hgr3 hbl3 hg3
        have HOW3 : Hid (OwnK .u8 w3 w.heap.size 5 (.slice (some ⟨g3, 0, none⟩) (3 + 4 * j + 4) cap3) (3 + 4 * (j + 1)) (hd ++ tailB xs (j + 1))) := Lib.hid (by rw [← tail_more HX.out, List.append_assoc]; exact hown3)
        have HB3 := Lib.hid (hbl3 w HBL.out)
        clear hown3 hgr3 hbl3 hg3
        go_wp2_with fail
        go_roundg (gk - 1)
        case measure => have := HJ.out; omega
        case rel => exact ⟨j + 1, congrArg (Value.int .i64) (by have := HII.out; omega), by have := HJ.out; omega, HOW3.out, HB3.out⟩
      · have hje : j = n - l := by omega
        have HJE := Lib.hid hje
        have hq : decide ((l : Int) ≤ (n : Int) - 1 - (j : Int)) = false := by simp; omega
        obtain ⟨a5, c5, hu5⟩ := HOW.out.form
        subst hu5
        have HEQ : Hid (hd ++ tailB xs j = [((b + (if z < 0 then 32 else 0) : Nat) : Int), (l : Int), ((xs.length - l : Nat) : Int)] ++ tailB xs (xs.length - l)) := Lib.hid (by
          rw [← HHD.out, hje, HLEN.out, HFL.out, HN2.out]; try rfl)
        clear hlt hje hj
        go_wp2_with fail
        go_ret
        exact ⟨a5, _, c5, _, rfl, HOW.out.row, ⟨xs, l, HD.out, HT.out, HV.out, HLOW.out, HEQ.out⟩, HBL.out, HOW.out.fresh⟩
end Go.Proofs.Ytgdddpbdcdheeaa
/- Contract of package exact's Join. Conditions: both below 2^2240 units. -/
namespace Go.Proofs.Ytgdddpbdcdheeaa
open Go.RowKit Ieee

theorem signU_abs (y : Int) : signU (decide (y < 0)) y.natAbs = y := by
  unfold signU
  by_cases h : y < 0
  · rw [decide_eq_true h, if_pos rfl]; omega
  · rw [decide_eq_false h, if_neg (by decide)]; omega
theorem SumAt.came {w : World} {g b : Nat} {z : Int} (h : SumAt w g b z) : w.cell? ⟨g, 1, none⟩ = some (.int .u8 (b : Int)) ∧ ∀ o, w.frozen? ⟨g, o, none⟩ = false := by
  obtain ⟨a, n, c, h1, -⟩ := h
  exact ⟨h1.cell 1, fun o => h1.frozen o⟩
theorem SumAt.sameb {w : World} {g b d : Nat} {z y : Int} (h : SumAt w g b z) (k : SumAt w g d y) : b = d := by
  have h1 := h.came.1
  rw [k.came.1] at h1
  injection h1 with h1
  injection h1 with _ h1
  omega
def joinF (b d : Nat) (z y : Int) : Nat := if (z + y).natAbs < ROOM then b ||| d else b
def RSJoin (g b d : Nat) (z y : Int) (w : World) (e : Ending) (w' : World) : Prop := e = .returned (.bool (decide ((z + y).natAbs < ROOM))) ∧ SumAt w' g (joinF b d z y) (putZ z y) ∧ But g w w'

set_option maxRecDepth 100000 in
set_option maxHeartbeats 8000000 in
theorem sumjoin_any (w : World) (g k b d : Nat) (z y : Int) (hs : SumAt w g b z) (ho : SumAt w k d y) (hz : z.natAbs < ROOM) (hy : y.natAbs < ROOM) (hb : b < 32) (hd : d < 32) :
    Calls Try.prog 20 #[.pointer (some ⟨g, 0, none⟩), .pointer (some ⟨k, 0, none⟩)] w (RSJoin g b d z y w) := by
  have HI1 := Lib.hid (fun w h => sumis_any w g b z h)
  have HI2 := Lib.hid (fun w h => sumis_any w k d y h)
  have HSD := Lib.hid (hs.below ((Below.refl w.heap.size w).drew) (Nat.le_refl _))
  have HOD := Lib.hid (ho.below ((Below.refl w.heap.size w).drew) (Nat.le_refl _))
  have HSN := Lib.hid hs
  have HON := Lib.hid ho
  obtain ⟨a, n, c, hk, hN⟩ := ho
  have hNd := hN.below ((Below.refl w.heap.size w).drew) (Nat.le_refl _)
  have HPT := Lib.hid (put_any w.drew g b z (decide (y < 0)) a n c y.natAbs HSD.out hNd hz hy (fun h => by have := of_decide_eq_true h; omega))
  rw [signU_abs] at HPT
  have c2 : w.cell? ⟨k, 2, none⟩ = some (.bool (decide (y < 0))) := hk.cell 2
  have c3 : w.cell? ⟨k, 3, none⟩ = some (.slice a n c) := hk.cell 3
  have HBD : Hid (But g w w.drew) := Lib.hid (But.of ((Below.refl w.heap.size w).drew))
  have HKL := Lib.hid hk.lt
  have or1 : bits .or .u8 (b : Int) (d : Int) = ((b ||| d : Nat) : Int) := bits_or_u8 (by omega) (by omega)
  clear hs hk hN hNd hz hy
  by_cases hok : (z + y).natAbs < ROOM
  · have HOK := Lib.hid hok
    go_enter Try.func20, Try.ntmps20
    go_wp2_with fail
    refine wp_regionN (fun w' => w'.cell? ⟨k, 2, none⟩ = some (.bool (decide (y < 0))) ∧ w'.cell? ⟨k, 3, none⟩ = some (.slice a n c)) [18, 19, 20] (by kernel_rfl) (by exact ⟨c2, c3⟩) (fun hHeld => ?_)
    refine wpAnyN_take (i := 0) (oi := ⟨some 5, _, _, _, _, _⟩) (v := ?_) rfl (by kernel_rfl) (by kernel_rfl) (by kernel_rfl) (by kernel_rfl) (by kernel_rfl) (fun _ _ _ h => h) (Or.inl ⟨by rfl, ?_⟩) (by assumption) ?_
    rotate_left 1
    · (intro w hSw; (try dsimp only at hSw); go_simp; try with_reducible rfl)
    try simp only [Act.put, List.setIfInBounds_toArray, List.set_cons_zero, List.set_cons_succ]
    refine wpAnyN_one (i := 1) (o := ⟨some 6, _, _, _, _, _⟩) (by kernel_rfl) rfl (fun K hK => ?_)
    go_simp
    refine (HI1.out _ HSD.out).mono ?_
    rintro e w' ⟨rfl, rfl⟩
    refine hK.out _ _ (by exact ⟨c2, c3⟩) ?_
    clear hK K hHeld
    intro hHeld
    try simp only [Act.put, List.setIfInBounds_toArray, List.set_cons_zero, List.set_cons_succ]
    refine wpAnyN_take (i := 2) (oi := ⟨some 7, _, _, _, _, _⟩) (v := ?_) rfl (by kernel_rfl) (by kernel_rfl) (by kernel_rfl) (by kernel_rfl) (by kernel_rfl) (fun _ _ _ h => h) (Or.inl ⟨by rfl, ?_⟩) (by assumption) ?_
    rotate_left 1
    · (intro w hSw; (try dsimp only at hSw); go_simp; try with_reducible rfl)
    try simp only [Act.put, List.setIfInBounds_toArray, List.set_cons_zero, List.set_cons_succ]
    refine wpAnyN_take (i := 3) (oi := ⟨some 8, _, _, _, _, _⟩) (v := ?_) rfl (by kernel_rfl) (by kernel_rfl) (by kernel_rfl) (by kernel_rfl) (by kernel_rfl) (fun _ _ _ h => h) (Or.inl ⟨by rfl, ?_⟩) (by assumption) ?_
    rotate_left 1
    · (intro w hSw; (try dsimp only at hSw); go_simp; try with_reducible rfl)
    try simp only [Act.put, List.setIfInBounds_toArray, List.set_cons_zero, List.set_cons_succ]
    refine wpAnyN_take (i := 4) (oi := ⟨some 9, _, _, _, _, _⟩) (v := ?_) rfl (by kernel_rfl) (by kernel_rfl) (by kernel_rfl) (by kernel_rfl) (by kernel_rfl) (fun _ _ _ h => h) (Or.inl ⟨by rfl, ?_⟩) (by assumption) ?_
    rotate_left 1
    · (intro w hSw; (try dsimp only at hSw); go_simp; try with_reducible rfl)
    try simp only [Act.put, List.setIfInBounds_toArray, List.set_cons_zero, List.set_cons_succ]
    refine wpAnyN_one (i := 5) (o := ⟨some 10, _, _, _, _, _⟩) (by kernel_rfl) rfl (fun K hK => ?_)
    go_simp
    refine (HI2.out _ HOD.out).mono ?_
    rintro e w' ⟨rfl, rfl⟩
    refine hK.out _ _ (by exact ⟨c2, c3⟩) ?_
    clear hK K hHeld
    intro hHeld
    try simp only [Act.put, List.setIfInBounds_toArray, List.set_cons_zero, List.set_cons_succ]
    refine wpAnyN_take (i := 6) (oi := ⟨some 11, _, _, _, _, _⟩) (v := ?_) rfl (by kernel_rfl) (by kernel_rfl) (by kernel_rfl) (by kernel_rfl) (by kernel_rfl) (fun _ _ _ h => h) (Or.inl ⟨by rfl, ?_⟩) (by assumption) ?_
    rotate_left 1
    · (intro w hSw; (try dsimp only at hSw); go_simp; try with_reducible rfl)
    try simp only [Act.put, List.setIfInBounds_toArray, List.set_cons_zero, List.set_cons_succ]
    refine wpAnyN_take (i := 7) (oi := ⟨some 12, _, _, _, _, _⟩) (v := ?_) rfl (by kernel_rfl) (by kernel_rfl) (by kernel_rfl) (by kernel_rfl) (by kernel_rfl) (fun _ _ _ h => h) (Or.inl ⟨by rfl, ?_⟩) (by assumption) ?_
    rotate_left 1
    · (intro w hSw; (try dsimp only at hSw); go_simp; try with_reducible rfl)
    try simp only [Act.put, List.setIfInBounds_toArray, List.set_cons_zero, List.set_cons_succ]
    refine wpAnyN_take (i := 8) (oi := ⟨some 13, _, _, _, _, _⟩) (v := ?_) rfl (by kernel_rfl) (by kernel_rfl) (by kernel_rfl) (by kernel_rfl) (by kernel_rfl) (fun _ _ _ h => h) (Or.inl ⟨by rfl, ?_⟩) (by assumption) ?_
    rotate_left 1
    · (intro w hSw; (try dsimp only at hSw); go_simp; try with_reducible rfl)
    try simp only [Act.put, List.setIfInBounds_toArray, List.set_cons_zero, List.set_cons_succ]
    refine wpAnyN_take (i := 9) (oi := ⟨some 14, _, _, _, _, _⟩) (v := ?_) rfl (by kernel_rfl) (by kernel_rfl) (by kernel_rfl) (by kernel_rfl) (by kernel_rfl) (fun _ _ _ h => h) (Or.inl ⟨by rfl, ?_⟩) (by assumption) ?_
    rotate_left 1
    · (intro w hSw; (try dsimp only at hSw); go_simp; try with_reducible rfl)
    try simp only [Act.put, List.setIfInBounds_toArray, List.set_cons_zero, List.set_cons_succ]
    refine wpAnyN_take (i := 10) (oi := ⟨some 15, _, _, _, _, _⟩) (v := ?_) rfl (by kernel_rfl) (by kernel_rfl) (by kernel_rfl) (by kernel_rfl) (by kernel_rfl) (fun _ _ _ h => h) (Or.inl ⟨by rfl, ?_⟩) (by assumption) ?_
    rotate_left 1
    · (intro w hSw; (try dsimp only at hSw); go_simp; try with_reducible rfl)
    try simp only [Act.put, List.setIfInBounds_toArray, List.set_cons_zero, List.set_cons_succ]
    refine wpAnyN_take (i := 11) (oi := ⟨some 16, _, _, _, _, _⟩) (v := ?_) rfl (by kernel_rfl) (by kernel_rfl) (by kernel_rfl) (by kernel_rfl) (by kernel_rfl) (fun _ _ _ h => h) (Or.inl ⟨by rfl, ?_⟩) (by assumption) ?_
    rotate_left 1
    · (intro w hSw; (try dsimp only at hSw); go_simp; try with_reducible rfl)
    try simp only [Act.put, List.setIfInBounds_toArray, List.set_cons_zero, List.set_cons_succ]
    refine wpAnyN_take (i := 12) (oi := ⟨some 17, _, _, _, _, _⟩) (v := ?_) rfl (by kernel_rfl) (by kernel_rfl) (by kernel_rfl) (by kernel_rfl) (by kernel_rfl) (fun _ _ _ h => h) (Or.inl ⟨by rfl, ?_⟩) (by assumption) ?_
    rotate_left 1
    · (intro w hSw; (try dsimp only at hSw); go_simp; try with_reducible rfl)
    try simp only [Act.put, List.setIfInBounds_toArray, List.set_cons_zero, List.set_cons_succ]
    refine wpAnyN_take (i := 13) (oi := ⟨some 18, _, _, _, _, _⟩) (v := ?_) rfl (by kernel_rfl) (by kernel_rfl) (by kernel_rfl) (by kernel_rfl) (by kernel_rfl) (fun _ _ _ h => h) (Or.inl ⟨by rfl, ?_⟩) (by assumption) ?_
    rotate_left 1
    · (intro w hSw; (try dsimp only at hSw); go_simp; try with_reducible rfl)
    try simp only [Act.put, List.setIfInBounds_toArray, List.set_cons_zero, List.set_cons_succ]
    refine wpAnyN_take (i := 14) (oi := ⟨some 19, _, _, _, _, _⟩) (v := ?_) rfl (by kernel_rfl) (by kernel_rfl) (by kernel_rfl) (by kernel_rfl) (by kernel_rfl) (fun _ _ _ h => h) (Or.inl ⟨by rfl, ?_⟩) (by assumption) ?_
    rotate_left 1
    · (intro w hSw; (try dsimp only at hSw); go_simp; try with_reducible rfl)
    try simp only [Act.put, List.setIfInBounds_toArray, List.set_cons_zero, List.set_cons_succ]
    refine wpAnyN_take (i := 15) (oi := ⟨some 20, _, _, _, _, _⟩) (v := ?_) rfl (by kernel_rfl) (by kernel_rfl) (by kernel_rfl) (by kernel_rfl) (by kernel_rfl) (fun _ _ _ h => h) (Or.inl ⟨by rfl, ?_⟩) (by assumption) ?_
    rotate_left 1
    · (intro w hSw; (try dsimp only at hSw); go_simp; try with_reducible rfl)
    try simp only [Act.put, List.setIfInBounds_toArray, List.set_cons_zero, List.set_cons_succ]
    refine wpAnyN_take (i := 16) (oi := ⟨some 21, _, _, _, _, _⟩) (v := ?_) rfl (by kernel_rfl) (by kernel_rfl) (by kernel_rfl) (by kernel_rfl) (by kernel_rfl) (fun _ _ _ h => h) (Or.inl ⟨by rfl, ?_⟩) (by assumption) ?_
    rotate_left 1
    · (intro w hSw; (try dsimp only at hSw); go_simp; try with_reducible rfl)
    try simp only [Act.put, List.setIfInBounds_toArray, List.set_cons_zero, List.set_cons_succ]
    refine wpAnyN_take (i := 17) (oi := ⟨some 22, _, _, _, _, _⟩) (v := ?_) rfl (by kernel_rfl) (by kernel_rfl) (by kernel_rfl) (by kernel_rfl) (by kernel_rfl) (fun _ _ _ h => h) (Or.inl ⟨by rfl, ?_⟩) (by assumption) ?_
    rotate_left 1
    · (intro w hSw; (try dsimp only at hSw); go_simp; try with_reducible rfl)
    try simp only [Act.put, List.setIfInBounds_toArray, List.set_cons_zero, List.set_cons_succ]
    clear hHeld
    refine wpAnyN_late (i := 18) (o := ⟨some 23, _, _, _, _, _⟩) (by kernel_rfl) (by kernel_rfl) rfl (fun K hK => ?_)
    go_simp
    refine HPT.out.mono ?_
    rintro e w3 ⟨rfl, hs3, hb3⟩
    rw [decide_eq_true hok]
    refine hK.out _ _ ?_
    clear hK K
    try simp only [Act.put, List.setIfInBounds_toArray, List.set_cons_zero, List.set_cons_succ]
    refine wpAnyN_late (i := 19) (o := ⟨some 24, _, _, _, _, _⟩) (by kernel_rfl) (by kernel_rfl) rfl (fun K hK => ?_)
    go_simp
    refine hK.out _ _ ?_
    clear hK K
    try simp only [Act.put, List.setIfInBounds_toArray, List.set_cons_zero, List.set_cons_succ]
    refine wpAnyN_late (i := 20) (o := ⟨some 25, _, _, _, _, _⟩) (by kernel_rfl) (by kernel_rfl) rfl (fun K hK => ?_)
    go_simp
    refine hK.out _ _ ?_
    clear hK K
    try simp only [Act.put, List.setIfInBounds_toArray, List.set_cons_zero, List.set_cons_succ]
    refine wpAnyN_end (by kernel_rfl) ?_
    have HB3 := Lib.hid (HBD.out.trans hb3)
    have HS3 := Lib.hid hs3
    obtain ⟨d1, df⟩ := hs3.came
    have d2 : w3.cell? ⟨k, 1, none⟩ = some (.int .u8 (d : Int)) := by
      by_cases hg : k = g
      · have : b = d := by
          have h := HSN.out
          rw [← hg] at h
          exact h.sameb HON.out
        rw [hg, ← this]
        exact d1
      · rw [HB3.out.cell HKL.out hg]
        exact HON.out.came.1
    clear hs3 hb3 hok c2 c3
    go_wp2_with fail
    go_region
    all_goals
      go_wp2_with fail
      go_ret
      refine ⟨ret_bool (by rw [decide_eq_true HOK.out]), ?_, (HB3.out.trans (But.of ((Below.refl w3.heap.size w3).drew))).setCell _ _⟩
      unfold joinF
      rw [if_pos HOK.out]
      exact (HS3.out.below ((Below.refl w3.heap.size w3).drew) (Nat.le_refl _)).flag
  · have HOK := Lib.hid hok
    go_enter Try.func20, Try.ntmps20
    go_wp2_with fail
    refine wp_regionN (fun w' => w'.cell? ⟨k, 2, none⟩ = some (.bool (decide (y < 0))) ∧ w'.cell? ⟨k, 3, none⟩ = some (.slice a n c)) [18, 19, 20] (by kernel_rfl) (by exact ⟨c2, c3⟩) (fun hHeld => ?_)
    refine wpAnyN_take (i := 0) (oi := ⟨some 5, _, _, _, _, _⟩) (v := ?_) rfl (by kernel_rfl) (by kernel_rfl) (by kernel_rfl) (by kernel_rfl) (by kernel_rfl) (fun _ _ _ h => h) (Or.inl ⟨by rfl, ?_⟩) (by assumption) ?_
    rotate_left 1
    · (intro w hSw; (try dsimp only at hSw); go_simp; try with_reducible rfl)
    try simp only [Act.put, List.setIfInBounds_toArray, List.set_cons_zero, List.set_cons_succ]
    refine wpAnyN_one (i := 1) (o := ⟨some 6, _, _, _, _, _⟩) (by kernel_rfl) rfl (fun K hK => ?_)
    go_simp
    refine (HI1.out _ HSD.out).mono ?_
    rintro e w' ⟨rfl, rfl⟩
    refine hK.out _ _ (by exact ⟨c2, c3⟩) ?_
    clear hK K hHeld
    intro hHeld
    try simp only [Act.put, List.setIfInBounds_toArray, List.set_cons_zero, List.set_cons_succ]
    refine wpAnyN_take (i := 2) (oi := ⟨some 7, _, _, _, _, _⟩) (v := ?_) rfl (by kernel_rfl) (by kernel_rfl) (by kernel_rfl) (by kernel_rfl) (by kernel_rfl) (fun _ _ _ h => h) (Or.inl ⟨by rfl, ?_⟩) (by assumption) ?_
    rotate_left 1
    · (intro w hSw; (try dsimp only at hSw); go_simp; try with_reducible rfl)
    try simp only [Act.put, List.setIfInBounds_toArray, List.set_cons_zero, List.set_cons_succ]
    refine wpAnyN_take (i := 3) (oi := ⟨some 8, _, _, _, _, _⟩) (v := ?_) rfl (by kernel_rfl) (by kernel_rfl) (by kernel_rfl) (by kernel_rfl) (by kernel_rfl) (fun _ _ _ h => h) (Or.inl ⟨by rfl, ?_⟩) (by assumption) ?_
    rotate_left 1
    · (intro w hSw; (try dsimp only at hSw); go_simp; try with_reducible rfl)
    try simp only [Act.put, List.setIfInBounds_toArray, List.set_cons_zero, List.set_cons_succ]
    refine wpAnyN_take (i := 4) (oi := ⟨some 9, _, _, _, _, _⟩) (v := ?_) rfl (by kernel_rfl) (by kernel_rfl) (by kernel_rfl) (by kernel_rfl) (by kernel_rfl) (fun _ _ _ h => h) (Or.inl ⟨by rfl, ?_⟩) (by assumption) ?_
    rotate_left 1
    · (intro w hSw; (try dsimp only at hSw); go_simp; try with_reducible rfl)
    try simp only [Act.put, List.setIfInBounds_toArray, List.set_cons_zero, List.set_cons_succ]
    refine wpAnyN_one (i := 5) (o := ⟨some 10, _, _, _, _, _⟩) (by kernel_rfl) rfl (fun K hK => ?_)
    go_simp
    refine (HI2.out _ HOD.out).mono ?_
    rintro e w' ⟨rfl, rfl⟩
    refine hK.out _ _ (by exact ⟨c2, c3⟩) ?_
    clear hK K hHeld
    intro hHeld
    try simp only [Act.put, List.setIfInBounds_toArray, List.set_cons_zero, List.set_cons_succ]
    refine wpAnyN_take (i := 6) (oi := ⟨some 11, _, _, _, _, _⟩) (v := ?_) rfl (by kernel_rfl) (by kernel_rfl) (by kernel_rfl) (by kernel_rfl) (by kernel_rfl) (fun _ _ _ h => h) (Or.inl ⟨by rfl, ?_⟩) (by assumption) ?_
    rotate_left 1
    · (intro w hSw; (try dsimp only at hSw); go_simp; try with_reducible rfl)
    try simp only [Act.put, List.setIfInBounds_toArray, List.set_cons_zero, List.set_cons_succ]
    refine wpAnyN_take (i := 7) (oi := ⟨some 12, _, _, _, _, _⟩) (v := ?_) rfl (by kernel_rfl) (by kernel_rfl) (by kernel_rfl) (by kernel_rfl) (by kernel_rfl) (fun _ _ _ h => h) (Or.inl ⟨by rfl, ?_⟩) (by assumption) ?_
    rotate_left 1
    · (intro w hSw; (try dsimp only at hSw); go_simp; try with_reducible rfl)
    try simp only [Act.put, List.setIfInBounds_toArray, List.set_cons_zero, List.set_cons_succ]
    refine wpAnyN_take (i := 8) (oi := ⟨some 13, _, _, _, _, _⟩) (v := ?_) rfl (by kernel_rfl) (by kernel_rfl) (by kernel_rfl) (by kernel_rfl) (by kernel_rfl) (fun _ _ _ h => h) (Or.inl ⟨by rfl, ?_⟩) (by assumption) ?_
    rotate_left 1
    · (intro w hSw; (try dsimp only at hSw); go_simp; try with_reducible rfl)
    try simp only [Act.put, List.setIfInBounds_toArray, List.set_cons_zero, List.set_cons_succ]
    refine wpAnyN_take (i := 9) (oi := ⟨some 14, _, _, _, _, _⟩) (v := ?_) rfl (by kernel_rfl) (by kernel_rfl) (by kernel_rfl) (by kernel_rfl) (by kernel_rfl) (fun _ _ _ h => h) (Or.inl ⟨by rfl, ?_⟩) (by assumption) ?_
    rotate_left 1
    · (intro w hSw; (try dsimp only at hSw); go_simp; try with_reducible rfl)
    try simp only [Act.put, List.setIfInBounds_toArray, List.set_cons_zero, List.set_cons_succ]
    refine wpAnyN_take (i := 10) (oi := ⟨some 15, _, _, _, _, _⟩) (v := ?_) rfl (by kernel_rfl) (by kernel_rfl) (by kernel_rfl) (by kernel_rfl) (by kernel_rfl) (fun _ _ _ h => h) (Or.inl ⟨by rfl, ?_⟩) (by assumption) ?_
    rotate_left 1
    · (intro w hSw; (try dsimp only at hSw); go_simp; try with_reducible rfl)
    try simp only [Act.put, List.setIfInBounds_toArray, List.set_cons_zero, List.set_cons_succ]
    refine wpAnyN_take (i := 11) (oi := ⟨some 16, _, _, _, _, _⟩) (v := ?_) rfl (by kernel_rfl) (by kernel_rfl) (by kernel_rfl) (by kernel_rfl) (by kernel_rfl) (fun _ _ _ h => h) (Or.inl ⟨by rfl, ?_⟩) (by assumption) ?_
    rotate_left 1
    · (intro w hSw; (try dsimp only at hSw); go_simp; try with_reducible rfl)
    try simp only [Act.put, List.setIfInBounds_toArray, List.set_cons_zero, List.set_cons_succ]
    refine wpAnyN_take (i := 12) (oi := ⟨some 17, _, _, _, _, _⟩) (v := ?_) rfl (by kernel_rfl) (by kernel_rfl) (by kernel_rfl) (by kernel_rfl) (by kernel_rfl) (fun _ _ _ h => h) (Or.inl ⟨by rfl, ?_⟩) (by assumption) ?_
    rotate_left 1
    · (intro w hSw; (try dsimp only at hSw); go_simp; try with_reducible rfl)
    try simp only [Act.put, List.setIfInBounds_toArray, List.set_cons_zero, List.set_cons_succ]
    refine wpAnyN_take (i := 13) (oi := ⟨some 18, _, _, _, _, _⟩) (v := ?_) rfl (by kernel_rfl) (by kernel_rfl) (by kernel_rfl) (by kernel_rfl) (by kernel_rfl) (fun _ _ _ h => h) (Or.inl ⟨by rfl, ?_⟩) (by assumption) ?_
    rotate_left 1
    · (intro w hSw; (try dsimp only at hSw); go_simp; try with_reducible rfl)
    try simp only [Act.put, List.setIfInBounds_toArray, List.set_cons_zero, List.set_cons_succ]
    refine wpAnyN_take (i := 14) (oi := ⟨some 19, _, _, _, _, _⟩) (v := ?_) rfl (by kernel_rfl) (by kernel_rfl) (by kernel_rfl) (by kernel_rfl) (by kernel_rfl) (fun _ _ _ h => h) (Or.inl ⟨by rfl, ?_⟩) (by assumption) ?_
    rotate_left 1
    · (intro w hSw; (try dsimp only at hSw); go_simp; try with_reducible rfl)
    try simp only [Act.put, List.setIfInBounds_toArray, List.set_cons_zero, List.set_cons_succ]
    refine wpAnyN_take (i := 15) (oi := ⟨some 20, _, _, _, _, _⟩) (v := ?_) rfl (by kernel_rfl) (by kernel_rfl) (by kernel_rfl) (by kernel_rfl) (by kernel_rfl) (fun _ _ _ h => h) (Or.inl ⟨by rfl, ?_⟩) (by assumption) ?_
    rotate_left 1
    · (intro w hSw; (try dsimp only at hSw); go_simp; try with_reducible rfl)
    try simp only [Act.put, List.setIfInBounds_toArray, List.set_cons_zero, List.set_cons_succ]
    refine wpAnyN_take (i := 16) (oi := ⟨some 21, _, _, _, _, _⟩) (v := ?_) rfl (by kernel_rfl) (by kernel_rfl) (by kernel_rfl) (by kernel_rfl) (by kernel_rfl) (fun _ _ _ h => h) (Or.inl ⟨by rfl, ?_⟩) (by assumption) ?_
    rotate_left 1
    · (intro w hSw; (try dsimp only at hSw); go_simp; try with_reducible rfl)
    try simp only [Act.put, List.setIfInBounds_toArray, List.set_cons_zero, List.set_cons_succ]
    refine wpAnyN_take (i := 17) (oi := ⟨some 22, _, _, _, _, _⟩) (v := ?_) rfl (by kernel_rfl) (by kernel_rfl) (by kernel_rfl) (by kernel_rfl) (by kernel_rfl) (fun _ _ _ h => h) (Or.inl ⟨by rfl, ?_⟩) (by assumption) ?_
    rotate_left 1
    · (intro w hSw; (try dsimp only at hSw); go_simp; try with_reducible rfl)
    try simp only [Act.put, List.setIfInBounds_toArray, List.set_cons_zero, List.set_cons_succ]
    clear hHeld
    refine wpAnyN_late (i := 18) (o := ⟨some 23, _, _, _, _, _⟩) (by kernel_rfl) (by kernel_rfl) rfl (fun K hK => ?_)
    go_simp
    refine HPT.out.mono ?_
    rintro e w3 ⟨rfl, hs3, hb3⟩
    rw [decide_eq_false hok]
    refine hK.out _ _ ?_
    clear hK K
    try simp only [Act.put, List.setIfInBounds_toArray, List.set_cons_zero, List.set_cons_succ]
    refine wpAnyN_late (i := 19) (o := ⟨some 24, _, _, _, _, _⟩) (by kernel_rfl) (by kernel_rfl) rfl (fun K hK => ?_)
    go_simp
    refine hK.out _ _ ?_
    clear hK K
    try simp only [Act.put, List.setIfInBounds_toArray, List.set_cons_zero, List.set_cons_succ]
    refine wpAnyN_late (i := 20) (o := ⟨some 25, _, _, _, _, _⟩) (by kernel_rfl) (by kernel_rfl) rfl (fun K hK => ?_)
    go_simp
    refine hK.out _ _ ?_
    clear hK K
    try simp only [Act.put, List.setIfInBounds_toArray, List.set_cons_zero, List.set_cons_succ]
    refine wpAnyN_end (by kernel_rfl) ?_
    have HB3 := Lib.hid (HBD.out.trans hb3)
    have HS3 := Lib.hid hs3
    clear hs3 hb3 hok c2 c3
    go_wp2_with fail
    go_ret
    refine ⟨ret_bool (by rw [decide_eq_false HOK.out]), ?_, HB3.out⟩
    unfold joinF
    rw [if_neg HOK.out]
    exact HS3.out
end Go.Proofs.Ytgdddpbdcdheeaa
/- Contracts of package exact's methods of a sum that is none: nil, or one that New did not make. No conditions. -/
namespace Go.Proofs.Ytgdddpbdcdheeaa
open Go.RowKit Ieee

def Bad (w : World) (v : Value) : Prop := v = .pointer none ∨ ∃ g, v = .pointer (some ⟨g, 0, none⟩) ∧ w.cell? ⟨g, 0, none⟩ = some (.bool false) ∧ g < w.heap.size
theorem Bad.below {w w' : World} {v : Value} {B : Nat} (h : Bad w v) (hb : Below B w w') (hB : w.heap.size ≤ B) : Bad w' v := by
  rcases h with h | ⟨g, h1, h2, h3⟩
  · exact .inl h
  · exact .inr ⟨g, h1, by rw [(bcell hb).1 _ _ (by omega)]; exact h2, by have := hb.size; omega⟩
theorem is_bad (w : World) (v : Value) (h : Bad w v) : Calls Try.prog 46 #[v] w fun e w' => e = .returned (.bool false) ∧ w = w' := by
  rcases h with rfl | ⟨g, rfl, h2, -⟩
  · exact sumis_nil w
  · exact sumis_not w g h2
theorem add_bad (w : World) (v : Value) (x : Nat) (h : Bad w v) : Calls Try.prog 15 #[v, .float .f64 x] w fun e w' => e = .returned (.bool false) ∧ w = w' := by
  have HI := Lib.hid (is_bad w v h)
  clear h
  go_enter Try.func15, Try.ntmps15
  go_wp2_with fail
  refine HI.out.mono ?_; rintro e w1 ⟨rfl, rfl⟩
  go_wp2_with fail
  go_ret
  exact ⟨rfl, rfl⟩
theorem val_bad (w : World) (v : Value) (h : Bad w v) : Calls Try.prog 22 #[v] w fun e w' => e = .returned (.float .f64 0) ∧ w = w' := by
  have HI := Lib.hid (is_bad w v h)
  clear h
  go_enter Try.func22, Try.ntmps22
  go_wp2_with fail
  refine HI.out.mono ?_; rintro e w1 ⟨rfl, rfl⟩
  go_wp2_with fail
  go_ret
  exact ⟨rfl, rfl⟩
theorem bytes_bad (w : World) (v : Value) (h : Bad w v) : Calls Try.prog 21 #[v] w fun e w' => e = .returned (.slice none 0 0) ∧ w = w' := by
  have HI := Lib.hid (is_bad w v h)
  clear h
  go_enter Try.func21, Try.ntmps21
  go_wp2_with fail
  refine HI.out.mono ?_; rintro e w1 ⟨rfl, rfl⟩
  go_wp2_with fail
  go_ret
  exact ⟨rfl, rfl⟩
theorem mean_bad (w : World) (v : Value) (h : Bad w v) : Calls Try.prog 38 #[v, .int .i64 1] w fun e w' => e = .returned (.float .f64 0) ∧ w = w' := by
  have HI := Lib.hid (is_bad w v h)
  have HV := Lib.hid (val_bad w v h)
  have HK := Lib.hid (fkind_any 0 w (by decide))
  rw [show kindZ 0 = 0 from by decide] at HK
  clear h
  go_enter Try.func38, Try.ntmps38
  go_wp2_with fail
  refine HV.out.mono ?_; rintro e w1 ⟨rfl, rfl⟩
  go_wp2_with fail
  refine HK.out.mono ?_; rintro e w1 ⟨rfl, rfl⟩
  go_wp2_with fail
  refine HI.out.mono ?_; rintro e w1 ⟨rfl, rfl⟩
  go_wp2_with fail
  go_ret
  exact ⟨rfl, rfl⟩
set_option maxRecDepth 100000 in
set_option maxHeartbeats 4000000 in
theorem join_bad1 (w : World) (v u : Value) (h : Bad w v) : Calls Try.prog 20 #[v, u] w fun e w' => e = .returned (.bool false) ∧ Below w.heap.size w w' := by
  have HI := Lib.hid (fun w h => is_bad w v h)
  have HBD := Lib.hid (h.below ((Below.refl w.heap.size w).drew) (Nat.le_refl _))
  clear h
  go_enter Try.func20, Try.ntmps20
  go_wp2_with fail
  refine wp_regionN (fun _ => True) [20] (by kernel_rfl) trivial (fun hHeld => ?_)
  refine wpAnyN_take (i := 0) (oi := ⟨some 5, _, _, _, _, _⟩) (v := ?_) rfl (by kernel_rfl) (by kernel_rfl) (by kernel_rfl) (by kernel_rfl) (by kernel_rfl) (fun _ _ _ h => h) (Or.inl ⟨by rfl, ?_⟩) (by assumption) ?_
  rotate_left 1
  · (intro w hSw; (try dsimp only at hSw); go_simp; try with_reducible rfl)
  try simp only [Act.put, List.setIfInBounds_toArray, List.set_cons_zero, List.set_cons_succ]
  refine wpAnyN_one (i := 1) (o := ⟨some 6, _, _, _, _, _⟩) (by kernel_rfl) rfl (fun K hK => ?_)
  go_simp
  refine (HI.out _ HBD.out).mono ?_
  rintro e w' ⟨rfl, rfl⟩
  refine hK.out _ _ (by trivial) ?_
  clear hK K hHeld
  intro hHeld
  try simp only [Act.put, List.setIfInBounds_toArray, List.set_cons_zero, List.set_cons_succ]
  refine wpAnyN_take (i := 2) (oi := ⟨some 7, _, _, _, _, _⟩) (v := ?_) rfl (by kernel_rfl) (by kernel_rfl) (by kernel_rfl) (by kernel_rfl) (by kernel_rfl) (fun _ _ _ h => h) (Or.inl ⟨by rfl, ?_⟩) (by assumption) ?_
  rotate_left 1
  · (intro w hSw; (try dsimp only at hSw); go_simp; try with_reducible rfl)
  try simp only [Act.put, List.setIfInBounds_toArray, List.set_cons_zero, List.set_cons_succ]
  refine wpAnyN_take (i := 3) (oi := ⟨some 8, _, _, _, _, _⟩) (v := ?_) rfl (by kernel_rfl) (by kernel_rfl) (by kernel_rfl) (by kernel_rfl) (by kernel_rfl) (fun _ _ _ h => h) (Or.inl ⟨by rfl, ?_⟩) (by assumption) ?_
  rotate_left 1
  · (intro w hSw; (try dsimp only at hSw); go_simp; try with_reducible rfl)
  try simp only [Act.put, List.setIfInBounds_toArray, List.set_cons_zero, List.set_cons_succ]
  refine wpAnyN_take (i := 4) (oi := ⟨some 9, _, _, _, _, _⟩) (v := undef) rfl (by kernel_rfl) (by kernel_rfl) (by kernel_rfl) (by kernel_rfl) (by kernel_rfl) (fun _ _ _ h => h) (Or.inr ⟨by rfl, rfl⟩) (by assumption) ?_
  try simp only [Act.put, List.setIfInBounds_toArray, List.set_cons_zero, List.set_cons_succ]
  refine wpAnyN_take (i := 5) (oi := ⟨some 10, _, _, _, _, _⟩) (v := undef) rfl (by kernel_rfl) (by kernel_rfl) (by kernel_rfl) (by kernel_rfl) (by kernel_rfl) (fun _ _ _ h => h) (Or.inr ⟨by rfl, rfl⟩) (by assumption) ?_
  try simp only [Act.put, List.setIfInBounds_toArray, List.set_cons_zero, List.set_cons_succ]
  refine wpAnyN_take (i := 6) (oi := ⟨some 11, _, _, _, _, _⟩) (v := undef) rfl (by kernel_rfl) (by kernel_rfl) (by kernel_rfl) (by kernel_rfl) (by kernel_rfl) (fun _ _ _ h => h) (Or.inr ⟨by rfl, rfl⟩) (by assumption) ?_
  try simp only [Act.put, List.setIfInBounds_toArray, List.set_cons_zero, List.set_cons_succ]
  refine wpAnyN_take (i := 7) (oi := ⟨some 12, _, _, _, _, _⟩) (v := ?_) rfl (by kernel_rfl) (by kernel_rfl) (by kernel_rfl) (by kernel_rfl) (by kernel_rfl) (fun _ _ _ h => h) (Or.inl ⟨by rfl, ?_⟩) (by assumption) ?_
  rotate_left 1
  · (intro w hSw; (try dsimp only at hSw); go_simp; try with_reducible rfl)
  try simp only [Act.put, List.setIfInBounds_toArray, List.set_cons_zero, List.set_cons_succ]
  refine wpAnyN_take (i := 8) (oi := ⟨some 13, _, _, _, _, _⟩) (v := ?_) rfl (by kernel_rfl) (by kernel_rfl) (by kernel_rfl) (by kernel_rfl) (by kernel_rfl) (fun _ _ _ h => h) (Or.inl ⟨by rfl, ?_⟩) (by assumption) ?_
  rotate_left 1
  · (intro w hSw; (try dsimp only at hSw); go_simp; try with_reducible rfl)
  try simp only [Act.put, List.setIfInBounds_toArray, List.set_cons_zero, List.set_cons_succ]
  refine wpAnyN_take (i := 9) (oi := ⟨some 14, _, _, _, _, _⟩) (v := undef) rfl (by kernel_rfl) (by kernel_rfl) (by kernel_rfl) (by kernel_rfl) (by kernel_rfl) (fun _ _ _ h => h) (Or.inr ⟨by rfl, rfl⟩) (by assumption) ?_
  try simp only [Act.put, List.setIfInBounds_toArray, List.set_cons_zero, List.set_cons_succ]
  refine wpAnyN_take (i := 10) (oi := ⟨some 15, _, _, _, _, _⟩) (v := undef) rfl (by kernel_rfl) (by kernel_rfl) (by kernel_rfl) (by kernel_rfl) (by kernel_rfl) (fun _ _ _ h => h) (Or.inr ⟨by rfl, rfl⟩) (by assumption) ?_
  try simp only [Act.put, List.setIfInBounds_toArray, List.set_cons_zero, List.set_cons_succ]
  refine wpAnyN_take (i := 11) (oi := ⟨some 16, _, _, _, _, _⟩) (v := undef) rfl (by kernel_rfl) (by kernel_rfl) (by kernel_rfl) (by kernel_rfl) (by kernel_rfl) (fun _ _ _ h => h) (Or.inr ⟨by rfl, rfl⟩) (by assumption) ?_
  try simp only [Act.put, List.setIfInBounds_toArray, List.set_cons_zero, List.set_cons_succ]
  refine wpAnyN_take (i := 12) (oi := ⟨some 17, _, _, _, _, _⟩) (v := undef) rfl (by kernel_rfl) (by kernel_rfl) (by kernel_rfl) (by kernel_rfl) (by kernel_rfl) (fun _ _ _ h => h) (Or.inr ⟨by rfl, rfl⟩) (by assumption) ?_
  try simp only [Act.put, List.setIfInBounds_toArray, List.set_cons_zero, List.set_cons_succ]
  refine wpAnyN_take (i := 13) (oi := ⟨some 18, _, _, _, _, _⟩) (v := undef) rfl (by kernel_rfl) (by kernel_rfl) (by kernel_rfl) (by kernel_rfl) (by kernel_rfl) (fun _ _ _ h => h) (Or.inr ⟨by rfl, rfl⟩) (by assumption) ?_
  try simp only [Act.put, List.setIfInBounds_toArray, List.set_cons_zero, List.set_cons_succ]
  refine wpAnyN_take (i := 14) (oi := ⟨some 19, _, _, _, _, _⟩) (v := undef) rfl (by kernel_rfl) (by kernel_rfl) (by kernel_rfl) (by kernel_rfl) (by kernel_rfl) (fun _ _ _ h => h) (Or.inr ⟨by rfl, rfl⟩) (by assumption) ?_
  try simp only [Act.put, List.setIfInBounds_toArray, List.set_cons_zero, List.set_cons_succ]
  refine wpAnyN_take (i := 15) (oi := ⟨some 20, _, _, _, _, _⟩) (v := undef) rfl (by kernel_rfl) (by kernel_rfl) (by kernel_rfl) (by kernel_rfl) (by kernel_rfl) (fun _ _ _ h => h) (Or.inr ⟨by rfl, rfl⟩) (by assumption) ?_
  try simp only [Act.put, List.setIfInBounds_toArray, List.set_cons_zero, List.set_cons_succ]
  refine wpAnyN_take (i := 16) (oi := ⟨some 21, _, _, _, _, _⟩) (v := undef) rfl (by kernel_rfl) (by kernel_rfl) (by kernel_rfl) (by kernel_rfl) (by kernel_rfl) (fun _ _ _ h => h) (Or.inr ⟨by rfl, rfl⟩) (by assumption) ?_
  try simp only [Act.put, List.setIfInBounds_toArray, List.set_cons_zero, List.set_cons_succ]
  refine wpAnyN_take (i := 17) (oi := ⟨some 22, _, _, _, _, _⟩) (v := undef) rfl (by kernel_rfl) (by kernel_rfl) (by kernel_rfl) (by kernel_rfl) (by kernel_rfl) (fun _ _ _ h => h) (Or.inr ⟨by rfl, rfl⟩) (by assumption) ?_
  try simp only [Act.put, List.setIfInBounds_toArray, List.set_cons_zero, List.set_cons_succ]
  refine wpAnyN_take (i := 18) (oi := ⟨some 23, _, _, _, _, _⟩) (v := undef) rfl (by kernel_rfl) (by kernel_rfl) (by kernel_rfl) (by kernel_rfl) (by kernel_rfl) (fun _ _ _ h => h) (Or.inr ⟨by rfl, rfl⟩) (by assumption) ?_
  try simp only [Act.put, List.setIfInBounds_toArray, List.set_cons_zero, List.set_cons_succ]
  refine wpAnyN_take (i := 19) (oi := ⟨some 24, _, _, _, _, _⟩) (v := undef) rfl (by kernel_rfl) (by kernel_rfl) (by kernel_rfl) (by kernel_rfl) (by kernel_rfl) (fun _ _ _ h => h) (Or.inr ⟨by rfl, rfl⟩) (by assumption) ?_
  try simp only [Act.put, List.setIfInBounds_toArray, List.set_cons_zero, List.set_cons_succ]
  refine wpAnyN_late (i := 20) (o := ⟨some 25, _, _, _, _, _⟩) (by kernel_rfl) (by kernel_rfl) rfl (fun K hK => ?_)
  go_simp
  refine hK.out _ _ ?_
  clear hK K
  try simp only [Act.put, List.setIfInBounds_toArray, List.set_cons_zero, List.set_cons_succ]
  refine wpAnyN_end (by kernel_rfl) ?_
  go_wp2_with fail
  go_ret
  exact ⟨rfl, (Below.refl _ _).drew⟩
set_option maxRecDepth 100000 in
set_option maxHeartbeats 4000000 in
theorem join_bad2 (w : World) (g b : Nat) (z : Int) (u : Value) (hs : SumAt w g b z) (h : Bad w u) : Calls Try.prog 20 #[.pointer (some ⟨g, 0, none⟩), u] w fun e w' => e = .returned (.bool false) ∧ Below w.heap.size w w' := by
  have HI := Lib.hid (fun w h => is_bad w u h)
  have HBD := Lib.hid (h.below ((Below.refl w.heap.size w).drew) (Nat.le_refl _))
  have HG := Lib.hid (fun w h => sumis_any w g b z h)
  have HGD := Lib.hid (hs.below ((Below.refl w.heap.size w).drew) (Nat.le_refl _))
  clear h hs
  go_enter Try.func20, Try.ntmps20
  go_wp2_with fail
  refine wp_regionN (fun _ => True) [20] (by kernel_rfl) trivial (fun hHeld => ?_)
  refine wpAnyN_take (i := 0) (oi := ⟨some 5, _, _, _, _, _⟩) (v := ?_) rfl (by kernel_rfl) (by kernel_rfl) (by kernel_rfl) (by kernel_rfl) (by kernel_rfl) (fun _ _ _ h => h) (Or.inl ⟨by rfl, ?_⟩) (by assumption) ?_
  rotate_left 1
  · (intro w hSw; (try dsimp only at hSw); go_simp; try with_reducible rfl)
  try simp only [Act.put, List.setIfInBounds_toArray, List.set_cons_zero, List.set_cons_succ]
  refine wpAnyN_one (i := 1) (o := ⟨some 6, _, _, _, _, _⟩) (by kernel_rfl) rfl (fun K hK => ?_)
  go_simp
  refine (HG.out _ HGD.out).mono ?_
  rintro e w' ⟨rfl, rfl⟩
  refine hK.out _ _ (by trivial) ?_
  clear hK K hHeld
  intro hHeld
  try simp only [Act.put, List.setIfInBounds_toArray, List.set_cons_zero, List.set_cons_succ]
  refine wpAnyN_take (i := 2) (oi := ⟨some 7, _, _, _, _, _⟩) (v := ?_) rfl (by kernel_rfl) (by kernel_rfl) (by kernel_rfl) (by kernel_rfl) (by kernel_rfl) (fun _ _ _ h => h) (Or.inl ⟨by rfl, ?_⟩) (by assumption) ?_
  rotate_left 1
  · (intro w hSw; (try dsimp only at hSw); go_simp; try with_reducible rfl)
  try simp only [Act.put, List.setIfInBounds_toArray, List.set_cons_zero, List.set_cons_succ]
  refine wpAnyN_take (i := 3) (oi := ⟨some 8, _, _, _, _, _⟩) (v := ?_) rfl (by kernel_rfl) (by kernel_rfl) (by kernel_rfl) (by kernel_rfl) (by kernel_rfl) (fun _ _ _ h => h) (Or.inl ⟨by rfl, ?_⟩) (by assumption) ?_
  rotate_left 1
  · (intro w hSw; (try dsimp only at hSw); go_simp; try with_reducible rfl)
  try simp only [Act.put, List.setIfInBounds_toArray, List.set_cons_zero, List.set_cons_succ]
  refine wpAnyN_take (i := 4) (oi := ⟨some 9, _, _, _, _, _⟩) (v := ?_) rfl (by kernel_rfl) (by kernel_rfl) (by kernel_rfl) (by kernel_rfl) (by kernel_rfl) (fun _ _ _ h => h) (Or.inl ⟨by rfl, ?_⟩) (by assumption) ?_
  rotate_left 1
  · (intro w hSw; (try dsimp only at hSw); go_simp; try with_reducible rfl)
  try simp only [Act.put, List.setIfInBounds_toArray, List.set_cons_zero, List.set_cons_succ]
  refine wpAnyN_one (i := 5) (o := ⟨some 10, _, _, _, _, _⟩) (by kernel_rfl) rfl (fun K hK => ?_)
  go_simp
  refine (HI.out _ HBD.out).mono ?_
  rintro e w' ⟨rfl, rfl⟩
  refine hK.out _ _ (by trivial) ?_
  clear hK K hHeld
  intro hHeld
  try simp only [Act.put, List.setIfInBounds_toArray, List.set_cons_zero, List.set_cons_succ]
  refine wpAnyN_take (i := 6) (oi := ⟨some 11, _, _, _, _, _⟩) (v := ?_) rfl (by kernel_rfl) (by kernel_rfl) (by kernel_rfl) (by kernel_rfl) (by kernel_rfl) (fun _ _ _ h => h) (Or.inl ⟨by rfl, ?_⟩) (by assumption) ?_
  rotate_left 1
  · (intro w hSw; (try dsimp only at hSw); go_simp; try with_reducible rfl)
  try simp only [Act.put, List.setIfInBounds_toArray, List.set_cons_zero, List.set_cons_succ]
  refine wpAnyN_take (i := 7) (oi := ⟨some 12, _, _, _, _, _⟩) (v := ?_) rfl (by kernel_rfl) (by kernel_rfl) (by kernel_rfl) (by kernel_rfl) (by kernel_rfl) (fun _ _ _ h => h) (Or.inl ⟨by rfl, ?_⟩) (by assumption) ?_
  rotate_left 1
  · (intro w hSw; (try dsimp only at hSw); go_simp; try with_reducible rfl)
  try simp only [Act.put, List.setIfInBounds_toArray, List.set_cons_zero, List.set_cons_succ]
  refine wpAnyN_take (i := 8) (oi := ⟨some 13, _, _, _, _, _⟩) (v := ?_) rfl (by kernel_rfl) (by kernel_rfl) (by kernel_rfl) (by kernel_rfl) (by kernel_rfl) (fun _ _ _ h => h) (Or.inl ⟨by rfl, ?_⟩) (by assumption) ?_
  rotate_left 1
  · (intro w hSw; (try dsimp only at hSw); go_simp; try with_reducible rfl)
  try simp only [Act.put, List.setIfInBounds_toArray, List.set_cons_zero, List.set_cons_succ]
  refine wpAnyN_take (i := 9) (oi := ⟨some 14, _, _, _, _, _⟩) (v := undef) rfl (by kernel_rfl) (by kernel_rfl) (by kernel_rfl) (by kernel_rfl) (by kernel_rfl) (fun _ _ _ h => h) (Or.inr ⟨by rfl, rfl⟩) (by assumption) ?_
  try simp only [Act.put, List.setIfInBounds_toArray, List.set_cons_zero, List.set_cons_succ]
  refine wpAnyN_take (i := 10) (oi := ⟨some 15, _, _, _, _, _⟩) (v := undef) rfl (by kernel_rfl) (by kernel_rfl) (by kernel_rfl) (by kernel_rfl) (by kernel_rfl) (fun _ _ _ h => h) (Or.inr ⟨by rfl, rfl⟩) (by assumption) ?_
  try simp only [Act.put, List.setIfInBounds_toArray, List.set_cons_zero, List.set_cons_succ]
  refine wpAnyN_take (i := 11) (oi := ⟨some 16, _, _, _, _, _⟩) (v := undef) rfl (by kernel_rfl) (by kernel_rfl) (by kernel_rfl) (by kernel_rfl) (by kernel_rfl) (fun _ _ _ h => h) (Or.inr ⟨by rfl, rfl⟩) (by assumption) ?_
  try simp only [Act.put, List.setIfInBounds_toArray, List.set_cons_zero, List.set_cons_succ]
  refine wpAnyN_take (i := 12) (oi := ⟨some 17, _, _, _, _, _⟩) (v := undef) rfl (by kernel_rfl) (by kernel_rfl) (by kernel_rfl) (by kernel_rfl) (by kernel_rfl) (fun _ _ _ h => h) (Or.inr ⟨by rfl, rfl⟩) (by assumption) ?_
  try simp only [Act.put, List.setIfInBounds_toArray, List.set_cons_zero, List.set_cons_succ]
  refine wpAnyN_take (i := 13) (oi := ⟨some 18, _, _, _, _, _⟩) (v := undef) rfl (by kernel_rfl) (by kernel_rfl) (by kernel_rfl) (by kernel_rfl) (by kernel_rfl) (fun _ _ _ h => h) (Or.inr ⟨by rfl, rfl⟩) (by assumption) ?_
  try simp only [Act.put, List.setIfInBounds_toArray, List.set_cons_zero, List.set_cons_succ]
  refine wpAnyN_take (i := 14) (oi := ⟨some 19, _, _, _, _, _⟩) (v := undef) rfl (by kernel_rfl) (by kernel_rfl) (by kernel_rfl) (by kernel_rfl) (by kernel_rfl) (fun _ _ _ h => h) (Or.inr ⟨by rfl, rfl⟩) (by assumption) ?_
  try simp only [Act.put, List.setIfInBounds_toArray, List.set_cons_zero, List.set_cons_succ]
  refine wpAnyN_take (i := 15) (oi := ⟨some 20, _, _, _, _, _⟩) (v := undef) rfl (by kernel_rfl) (by kernel_rfl) (by kernel_rfl) (by kernel_rfl) (by kernel_rfl) (fun _ _ _ h => h) (Or.inr ⟨by rfl, rfl⟩) (by assumption) ?_
  try simp only [Act.put, List.setIfInBounds_toArray, List.set_cons_zero, List.set_cons_succ]
  refine wpAnyN_take (i := 16) (oi := ⟨some 21, _, _, _, _, _⟩) (v := undef) rfl (by kernel_rfl) (by kernel_rfl) (by kernel_rfl) (by kernel_rfl) (by kernel_rfl) (fun _ _ _ h => h) (Or.inr ⟨by rfl, rfl⟩) (by assumption) ?_
  try simp only [Act.put, List.setIfInBounds_toArray, List.set_cons_zero, List.set_cons_succ]
  refine wpAnyN_take (i := 17) (oi := ⟨some 22, _, _, _, _, _⟩) (v := undef) rfl (by kernel_rfl) (by kernel_rfl) (by kernel_rfl) (by kernel_rfl) (by kernel_rfl) (fun _ _ _ h => h) (Or.inr ⟨by rfl, rfl⟩) (by assumption) ?_
  try simp only [Act.put, List.setIfInBounds_toArray, List.set_cons_zero, List.set_cons_succ]
  refine wpAnyN_take (i := 18) (oi := ⟨some 23, _, _, _, _, _⟩) (v := undef) rfl (by kernel_rfl) (by kernel_rfl) (by kernel_rfl) (by kernel_rfl) (by kernel_rfl) (fun _ _ _ h => h) (Or.inr ⟨by rfl, rfl⟩) (by assumption) ?_
  try simp only [Act.put, List.setIfInBounds_toArray, List.set_cons_zero, List.set_cons_succ]
  refine wpAnyN_take (i := 19) (oi := ⟨some 24, _, _, _, _, _⟩) (v := undef) rfl (by kernel_rfl) (by kernel_rfl) (by kernel_rfl) (by kernel_rfl) (by kernel_rfl) (fun _ _ _ h => h) (Or.inr ⟨by rfl, rfl⟩) (by assumption) ?_
  try simp only [Act.put, List.setIfInBounds_toArray, List.set_cons_zero, List.set_cons_succ]
  refine wpAnyN_late (i := 20) (o := ⟨some 25, _, _, _, _, _⟩) (by kernel_rfl) (by kernel_rfl) rfl (fun K hK => ?_)
  go_simp
  refine hK.out _ _ ?_
  clear hK K
  try simp only [Act.put, List.setIfInBounds_toArray, List.set_cons_zero, List.set_cons_succ]
  refine wpAnyN_end (by kernel_rfl) ?_
  go_wp2_with fail
  go_ret
  exact ⟨rfl, (Below.refl _ _).drew⟩
end Go.Proofs.Ytgdddpbdcdheeaa
