/- Contracts of package nat's size, Trim, Cmp. Condition: the words of the lists are below 2^32. -/
import Derived.Test.YtnbhcemgoifkgaaRef01u
import Derived.Test.YtnbhcemgoifkgaaRef01g
namespace Go.Proofs.Ytnbhcemgoifkgaa
open Go.RowKit

/-- how many of the first n places are left without noughts at their end -/
def tlF (xs : List Int) : Nat → Nat
  | 0 => 0
  | n + 1 => if xs.getD n 0 = 0 then tlF xs n else n + 1
def tl (xs : List Int) : Nat := tlF xs xs.length
theorem tlF_le (xs : List Int) : ∀ n, tlF xs n ≤ n
  | 0 => Nat.le_refl _
  | n + 1 => by
    unfold tlF
    split
    · have := tlF_le xs n; omega
    · omega
theorem tl_le (xs : List Int) : tl xs ≤ xs.length := tlF_le xs _
theorem tlF_zero (xs : List Int) : ∀ n i, tlF xs n ≤ i → i < n → xs.getD i 0 = 0
  | 0, i, _, h => by omega
  | n + 1, i, h1, h2 => by
    unfold tlF at h1
    split at h1
    · rename_i h0
      by_cases e : i = n
      · rw [e]; exact h0
      · exact tlF_zero xs n i h1 (by omega)
    · omega
theorem tl_zero {xs : List Int} {i : Nat} (h : tl xs ≤ i) : xs.getD i 0 = 0 := by
  by_cases hi : i < xs.length
  · exact tlF_zero xs _ i h hi
  · exact getD_ge (by omega)
theorem tlF_top (xs : List Int) : ∀ n, tlF xs n = 0 ∨ xs.getD (tlF xs n - 1) 0 ≠ 0
  | 0 => .inl rfl
  | n + 1 => by
    unfold tlF
    split
    · exact tlF_top xs n
    · rename_i h; exact .inr h
theorem tl_top (xs : List Int) : tl xs = 0 ∨ xs.getD (tl xs - 1) 0 ≠ 0 := tlF_top xs _
theorem tl_V {B : Int} (xs : List Int) : V B (xs.take (tl xs)) = V B xs := V_take (tl_le xs) fun _ h _ => tl_zero h
theorem tl_trim (xs : List Int) : Trimmed (xs.take (tl xs)) := trimmed_take (tl_le xs) (tl_top xs)
theorem tl_len (xs : List Int) : (xs.take (tl xs)).length = tl xs := by rw [List.length_take]; have := tl_le xs; omega
theorem tl_of_trim {xs : List Int} (h : Trimmed xs) : tl xs = xs.length := by
  unfold tl
  rcases h with rfl | h
  · rfl
  · cases e : xs.length with
    | zero => rfl
    | succ n =>
      rw [e] at h
      unfold tlF
      rw [if_neg (by simpa using h)]
/-- a number's size tells how great it is -/
theorem tl_bd {B : Int} (hB : 0 < B) {xs : List Int} (h : Dig B xs) : V B xs < B ^ tl xs := by
  rw [← tl_V, ← congrArg (B ^ ·) (tl_len xs)]
  exact (V_bd hB (h.take _)).2
theorem tl_ge {B : Int} (hB : 0 < B) {xs : List Int} (h : Dig B xs) (h0 : 0 < tl xs) : B ^ (tl xs - 1) ≤ V B xs := by
  have h1 := V_ge hB (h.take (tl xs)) (tl_trim xs) (fun e => by have := congrArg List.length e; rw [tl_len] at this; simp at this; omega)
  rwa [tl_len, tl_V] at h1
theorem tl_lt {B : Int} (hB : 0 < B) {xs ys : List Int} (hx : Dig B xs) (hy : Dig B ys) (h : tl xs < tl ys) : V B xs < V B ys := by
  have h1 := tl_bd hB hx
  have h2 := tl_ge hB hy (by omega)
  have h3 : B ^ tl xs ≤ B ^ (tl ys - 1) := ipow_le hB (by omega)
  omega
theorem tl_pos {B : Int} (hB : 0 < B) {xs : List Int} (h : Dig B xs) : V B xs = 0 ↔ tl xs = 0 := by
  constructor
  · intro h0
    rcases Nat.eq_zero_or_pos (tl xs) with e | e
    · exact e
    · have h1 := tl_ge hB h e
      have h2 : 0 < B ^ (tl xs - 1) := Int.pow_pos hB
      omega
  · intro h0
    rw [← tl_V, h0]; rfl

theorem wf_u32 {n : Int} (h : (Lit.int .u32 n).wf = true) : 0 ≤ n ∧ n < 4294967296 := by
  simp [Lit.wf, IntKind.min, IntKind.max, IntKind.signed, IntKind.bits] at h; omega
theorem IsRow.dig {w : World} {a : Option Addr} {n c : Nat} {zs : List Int} (h : IsRow .u32 w a n c zs) : Dig 4294967296 (zs.take n) := by
  intro d hd
  rcases h with ⟨_, _, _, rfl⟩ | ⟨x, _, _, _, _, _, hw⟩
  · simp at hd
  · exact wf_u32 (hw d (List.mem_of_mem_take hd))

theorem size_any (a : Option Addr) (n cap : Nat) (xs : List Int) (w : World) (h : RowK .u32 w a n cap xs) :
    Calls Try.prog 66 #[.slice a n cap] w fun e w' => e = .returned (.int .i64 (tl xs)) ∧ w = w' := by
  have H := Lib.hid h
  have hn : n ≤ 9223372036854775807 := by have := h.2.1; have := h.2.2.1; unfold maxLen at this; omega
  have HL := Lib.hid h.1
  obtain ⟨t, ht⟩ : ∃ t, tl xs = t := ⟨_, rfl⟩
  have HT : Hid (tlF xs n = t) := Lib.hid (by rw [← h.1]; exact ht)
  clear h
  rw [ht]
  clear ht
  go_enter Try.func66, Try.ntmps66
  go_wp2_with fail
  go_loopg [3] n (fun k u wr => w = wr ∧ u = .int .i64 k ∧ k ≤ n ∧ tlF xs k = t)
  case atStart => exact ⟨rfl, rfl, Nat.le_refl _, HT.out⟩
  case round =>
    obtain ⟨rfl, rfl, hk, htl⟩ := hrel
    have HTL := Lib.hid htl
    clear htl
    by_cases h0 : gk = 0
    · subst h0
      have HZ : Hid (t = 0) := Lib.hid HTL.out.symm
      go_wp2_with fail
      go_ret
      exact ⟨ret_int (by rw [HZ.out]; try rfl), rfl⟩
    · obtain ⟨j, hj⟩ : ∃ j, gk = j + 1 := ⟨gk - 1, by omega⟩
      subst hj
      obtain ⟨-, -, -, h4⟩ := H.out
      rcases h4 with hcap0 | ⟨b, off, rfl, hb, hc⟩
      · have := H.out.2.1; omega
      have hc1 := hc j (by omega)
      obtain ⟨d, hd⟩ : ∃ d, xs.getD j 0 = d := ⟨_, rfl⟩
      rw [hd] at hc1
      have HD := Lib.hid hd
      clear hc hd hb h0
      by_cases hd0 : d = 0
      · subst hd0
        have HT2 : Hid (tlF xs j = t) := by
          have h := HTL.out
          rw [tlF, if_pos HD.out] at h
          exact Lib.hid h
        go_wp2_with fail
        go_roundg j
        case measure => omega
        case rel => exact ⟨rfl, congrArg (Value.int .i64) (by omega), by omega, HT2.out⟩
      · have hq : (d == 0) = false := by simpa using hd0
        have HZ : Hid (t = j + 1) := by
          have h := HTL.out
          rw [tlF, if_neg (by rw [HD.out]; exact hd0)] at h
          exact Lib.hid h.symm
        clear hd0
        go_wp2_with fail
        go_ret
        exact ⟨ret_int (by rw [HZ.out]), rfl⟩

/-- a trim number z -/
def NatC (w : World) (a : Option Addr) (n c : Nat) (z : Int) : Prop := ∃ xs, RowK .u32 w a n c xs ∧ Dig 4294967296 xs ∧ Trimmed xs ∧ V 4294967296 xs = z
theorem NatC.below {w w' : World} {a : Option Addr} {n c : Nat} {z : Int} {B : Nat} (h : NatC w a n c z) (hb : Below B w w') (hB : w.heap.size ≤ B) : NatC w' a n c z := by
  obtain ⟨xs, h1, h2⟩ := h
  exact ⟨xs, h1.below hb hB, h2⟩
/-- a call's answer: the trim list of z, in memory of its own; nothing that was there has changed -/
def RetNat (w : World) (z : Int) (e : Ending) (w' : World) : Prop := ∃ a n c, e = .returned (.slice a n c) ∧ NatC w' a n c z ∧ Below w.heap.size w w' ∧ Fresh w.heap.size a
theorem info_u32 : (Try.prog.info? 55).map (fun i => (i.zero, i.size, i.bytes)) = some (some (.int .u32 0), 1, 4) := by kernel_rfl

theorem trim_any (a : Option Addr) (n cap : Nat) (xs : List Int) (w : World) (h : RowK .u32 w a n cap xs) (hd : Dig 4294967296 xs) (hn : n ≤ 1000000) :
    Calls Try.prog 21 #[.slice a n cap] w (RetNat w (V 4294967296 xs)) := by
  have HS := Lib.hid (size_any a n cap xs w h)
  have hle := tl_le xs
  rw [h.1] at hle
  have hcap : n ≤ cap := h.2.1
  have hcm : cap ≤ 9223372036854775807 := by have := h.2.2.1; unfold maxLen at this; omega
  have HR := Lib.hid (h.take hle)
  have HD := Lib.hid (hd.take (tl xs))
  have HT := Lib.hid (tl_trim xs)
  have HV := Lib.hid (tl_V (B := 4294967296) xs)
  have HTL := Lib.hid (tl_len xs)
  generalize tl xs = t at *
  generalize V 4294967296 xs = z at *
  clear h hd
  go_enter Try.func21, Try.ntmps21
  go_wp2_with fail
  refine HS.out.mono ?_; rintro e w1 ⟨rfl, rfl⟩
  go_wp2_with (at_builtin; refine wpList_append_row .u32 22 55 4 info_u32 (by decide) Try.underlying22 rfl _ _ rfl w w.heap.size (.slice none 0 0) 0 [] a t cap (xs.take t) rfl rfl (OwnK.nil _ _ _ _) HR.out HR.out.none' (by omega) (Nat.le_refl _) ?_)
  intro v2 w2 hown hg hbl
  obtain ⟨p, c, hv⟩ := hown.form
  subst hv
  go_wp2_with fail
  go_ret
  have h := hown.row
  have hf := hown.fresh
  exact ⟨p, t, c, rfl, ⟨xs.take t, h, HD.out, HT.out, HV.out⟩, hbl w (Below.refl _ _), hf⟩
end Go.Proofs.Ytnbhcemgoifkgaa
