/- The contract of package derive's Real, and the chapter's example of derive. No conditions but those stated. -/
import Derived.Test.YtdbkgpakpadloaaDerD
namespace Go.Proofs.Ytdbkgpakpadloaa
open Go.RowKit Ieee

theorem near_dv {p q t k K : Nat} (hK : K = t + k) (hq : 0 < q) (h1 : p * 2 ^ k < q * 9007199254740992) (h2 : t = 0 ∨ q * 4503599627370496 ≤ p * 2 ^ k) : IsNear (p * 2 ^ K) q (min (t * B52 + rne (p * 2 ^ k) q) INF) := by
  have e1 : p * 2 ^ K = p * 2 ^ k * 2 ^ t := by rw [hK, Nat.pow_add]; ac_rfl
  refine ⟨t, ⟨hq, ?_, ?_⟩, ?_⟩
  · rw [e1, Nat.add_comm t, Nat.pow_add 2 53, ← Nat.mul_assoc]
    exact Nat.mul_lt_mul_of_pos_right h1 (Nat.two_pow_pos t)
  · rcases h2 with h2 | h2
    · exact .inl h2
    · right
      rw [e1, Nat.add_comm t, Nat.pow_add 2 52, ← Nat.mul_assoc]
      exact Nat.mul_le_mul_right _ h2
  · rw [e1, rne_scale (Nat.two_pow_pos t)]
theorem mean32 {z : Nat} (h : IsMean 3 2 z) : z = 4609434218613702656 := by
  rcases h with ⟨h1, -, -⟩ | ⟨-, -, h⟩
  · omega
  · rcases h with ⟨h1, -, -⟩ | ⟨-, h1, -⟩ | ⟨h1, -, -⟩ | ⟨-, -, y, h3, h4⟩
    · exact absurd h1 (by decide)
    · exact absurd h1 (by decide)
    · exact absurd h1 (by decide)
    · rw [show ((3 : Int)).natAbs = 3 from rfl, show ((2 : Int)).natAbs = 2 from rfl] at h3
      rw [h4, IsNear.one (D := 2) (N := 3 * 2 ^ K1074) h3 (near_dv (t := 1022) (k := 52) (by decide) (by decide) (by decide) (.inr (by decide)))]
      decide
theorem mean36 {z : Nat} (h : IsMean 3 6 z) : z = 4602678819172646912 := by
  rcases h with ⟨h1, -, -⟩ | ⟨-, -, h⟩
  · omega
  · rcases h with ⟨h1, -, -⟩ | ⟨-, h1, -⟩ | ⟨h1, -, -⟩ | ⟨-, -, y, h3, h4⟩
    · exact absurd h1 (by decide)
    · exact absurd h1 (by decide)
    · exact absurd h1 (by decide)
    · rw [show ((3 : Int)).natAbs = 3 from rfl, show ((6 : Int)).natAbs = 6 from rfl] at h3
      rw [h4, IsNear.one (D := 6) (N := 3 * 2 ^ K1074) h3 (near_dv (t := 1021) (k := 53) (by decide) (by decide) (by decide) (.inr (by decide)))]
      decide
noncomputable def realB (s : Sch) (k m : Int) : Bool := mayB s k m && (!decide (k = 0) && (decide (4 ≤ k) || decide ((s.ints.length : Int) ≤ m)))
set_option maxHeartbeats 2000000 in
theorem dkind_any (w : World) (l : SchL) (s : Sch) (k m : Int) (h : SchAt w l s) (hk : I64 k) (hm : I64 m) :
    Calls Try.prog 10 #[l.val, .agg #[.int .i64 k, .int .i64 m]] w fun e w' => e = .returned (.bool (realB s k m)) ∧ Below w.heap.size w w' := by
  obtain ⟨ad, nd, cd, ai, ni, ci, an, nn, cn, av, nv, cv⟩ := l
  obtain ⟨hbx, hby, hbw, hsz⟩ := two_pbox w 34 46 #[.slice ad nd cd, .slice ai ni ci, .slice an nn cn, .slice av nv cv] #[.int .i64 k, .int .i64 m]
  have HS := Lib.hid (h.below hbw (Nat.le_refl _))
  have HLN := Lib.hid (show s.ints.length = ni from h.2.2.1.1)
  have HBW := Lib.hid hbw
  have HKM := Lib.hid (And.intro hk hm)
  have e0 := hbx 0
  have e1 := hbx 1
  have e2 := hbx 2
  have e3 := hbx 3
  have y0 := hby 0
  have y1 := hby 1
  simp only [List.getElem?_toArray, List.getElem?_cons_zero, List.getElem?_cons_succ] at e0 e1 e2 e3 y0 y1
  have HE := Lib.hid (And.intro e1 (And.intro y0 y1))
  have HSZ := Lib.hid hsz
  obtain ⟨MB, hMB⟩ : ∃ b, mayB s k m = b := ⟨_, rfl⟩
  obtain ⟨RB, hRB⟩ : ∃ b, realB s k m = b := ⟨_, rfl⟩
  rw [hRB]
  have HRB : Hid (RB = (MB && (!decide (k = 0) && (decide (4 ≤ k) || decide ((ni : Int) ≤ m))))) := Lib.hid (by rw [← hRB, ← hMB, ← HLN.out]; rfl)
  have HCALL : Hid (∀ w', SchAt w' ⟨ad, nd, cd, ai, ni, ci, an, nn, cn, av, nv, cv⟩ s → Calls Try.prog 15 #[.agg #[.slice ad nd cd, .slice ai ni ci, .slice an nn cn, .slice av nv cv], .agg #[.int .i64 k, .int .i64 m]] w' fun e w'' => e = .returned (.bool MB) ∧ Below w'.heap.size w' w'') := Lib.hid (fun w' h1 => by
    have h := may_any w' _ s k m h1 HKM.out.1 HKM.out.2
    rw [hMB] at h
    exact h)
  clear h hbw hbx hby hsz hk hm hMB hRB
  unfold SchL.val
  go_enter Try.func10, Try.ntmps10
  go_upto_region 1 with fail
  generalize ((w.alloc (.cells #[.slice ad nd cd, .slice ai ni ci, .slice an nn cn, .slice av nv cv] 34)).alloc (.cells #[.int .i64 k, .int .i64 m] 46)) = w0 at *
  generalize hS : w.heap.size = S at *
  have HSS := Lib.hid hS
  have HS0 : Hid (S < w0.heap.size ∧ S + 1 < w0.heap.size) := Lib.hid (by have := HSZ.out; omega)
  clear hS
  go_wp2_with fail
  refine (HCALL.out _ HS.out).mono ?_; rintro e w1 ⟨rfl, hb1⟩
  clear e0 e1 e2 e3 y0 y1
  have e1 : w1.cell? ⟨S, 1, none⟩ = some (.slice ai ni ci) := by rw [hb1.cell (p := ⟨S, 1, none⟩) HS0.out.1]; exact HE.out.1
  have y0 : w1.cell? ⟨S + 1, 0, none⟩ = some (.int .i64 k) := by rw [hb1.cell (p := ⟨S + 1, 0, none⟩) HS0.out.2]; exact HE.out.2.1
  have y1 : w1.cell? ⟨S + 1, 1, none⟩ = some (.int .i64 m) := by rw [hb1.cell (p := ⟨S + 1, 1, none⟩) HS0.out.2]; exact HE.out.2.2
  have HB1 := Lib.hid (HBW.out.trans (hb1.mono (Nat.le_of_lt HS0.out.1)))
  clear hb1
  rcases MB with _ | _
  · have HR : Hid (RB = false) := Lib.hid (by rw [HRB.out]; rfl)
    go_wp2_with fail
    go_ret
    exact ⟨ret_b HR.out, by rw [HSS.out]; exact HB1.out⟩
  by_cases hk0 : k = 0
  · have HR : Hid (RB = false) := Lib.hid (by rw [HRB.out, hk0]; rfl)
    rw [hk0] at y0
    clear hk0
    go_wp2_with fail
    go_ret
    exact ⟨ret_b HR.out, by rw [HSS.out]; exact HB1.out⟩
  have t0 : (k == 0) = false := by simpa using hk0
  have HR : Hid (RB = (decide (4 ≤ k) || decide ((ni : Int) ≤ m))) := Lib.hid (by rw [HRB.out, decide_eq_false hk0]; rfl)
  clear hk0
  by_cases hk4 : 4 ≤ k
  · have t1 : decide (4 ≤ k) = true := decide_eq_true hk4
    have HR2 : Hid (RB = true) := Lib.hid (by rw [HR.out, t1]; rfl)
    clear hk4
    go_wp2_with fail
    go_ret
    exact ⟨ret_b HR2.out, by rw [HSS.out]; exact HB1.out⟩
  have t1 : decide (4 ≤ k) = false := decide_eq_false hk4
  have HR2 : Hid (RB = decide ((ni : Int) ≤ m)) := Lib.hid (by rw [HR.out, t1]; rfl)
  clear hk4
  go_wp2_with fail
  go_ret
  exact ⟨ret_b HR2.out, by rw [HSS.out]; exact HB1.out⟩
/-- the example's schema and cells -/
def exS : Sch := ⟨[(⟨#[97]⟩, 2)], [⟨#[109]⟩], [], []⟩
def exW (n : Int) : Whl := ⟨n, 0, [], none, 0, 0, 0, 0⟩
def exC (c n : Int) : CellV := ⟨0, c, [exW n], []⟩
theorem one_name {b : UInt8} (h : 97 ≤ b.toNat ∧ b.toNat ≤ 122) (hw : wordB ⟨#[b]⟩ = false) : nameB ⟨#[b]⟩ = true := by
  refine nameB_yes ⟨(show 1 ≤ 1 from Nat.le_refl _), (show 1 ≤ 16 by decide), fun _ => h, fun i hi => ?_, hw⟩
  have h0 : i < 1 := hi
  obtain rfl : i = 0 := by omega
  exact .inl h
theorem exS_ok : chkS exS = 0 := by
  refine chk_ok rfl ?_ ?_ (by decide) (by decide)
  · show (if nameB ⟨#[97]⟩ = false then false else if nameB ⟨#[109]⟩ = false then false else true) = true
    rw [one_name (by decide) (by decide), one_name (by decide) (by decide)]
    rfl
  · have h : TwiceIs exS.names (-1) := by
      refine .inl ⟨rfl, fun j hj => ?_⟩
      have hj2 : j < 2 := hj
      match j, hj2 with
      | 0, _ => exact fun h => by cases h
      | 1, _ => exact fun h => absurd (List.mem_singleton.1 h) (by decide)
    rw [(twR_is _).one h]
    decide
theorem ex_okv (k : Int) (hk : k = 4 ∨ k = 6) (c n c2 n2 : Int) {r : Bool} {v : Int} {z e : Nat} {real : Bool → Int → Nat → Prop} (h : DVal exS k 0 (exC c n) (exC c2 n2) real r v z e) :
    e = 0 ∧ r = true ∧ v = 0 ∧ ((k = 4 ∧ IsMean n c z) ∨ (k = 6 ∧ IsMean n n2 z)) := by
  have hcol : colB exS.ints.length exS.nums.length k 0 = true := by rcases hk with rfl | rfl <;> decide
  rcases h with ⟨h, -⟩ | ⟨-, h, -⟩ | ⟨-, -, h, -⟩ | ⟨-, -, h, -⟩ | ⟨-, h0, -, -, h⟩ | ⟨-, -, -, h, -⟩
  · exact absurd exS_ok h
  · rw [hcol] at h; cases h
  · exact absurd h (by show ¬ lensB exS (exC c n) (exC c2 n2) = false; unfold lensB exS exC; simp)
  · rcases hk with rfl | rfl <;> exact absurd h (by decide)
  · rcases h with ⟨h1, -⟩ | ⟨h1, -⟩ | ⟨h1, -⟩ | ⟨h1, h2, h3, h4⟩ | ⟨h1, -⟩ | ⟨h1, h2, h3, h4⟩
    · omega
    · omega
    · omega
    · exact ⟨h0, h2, h3, .inl ⟨h1, h4⟩⟩
    · omega
    · exact ⟨h0, h2, h3, .inr ⟨h1, h4⟩⟩
  · exact absurd h (by decide)
theorem ex_real : realB exS 1 0 = false := by
  unfold realB mayB
  rw [exS_ok]
  decide
def exL (s : Nat) : SchL := ⟨some ⟨s, 0, none⟩, 1, 1, some ⟨s + 1, 0, none⟩, 1, 1, none, 0, 0, none, 0, 0⟩
def exM (s : Nat) : CellL := ⟨some ⟨s, 0, none⟩, 1, 1, none, 0, 0⟩
theorem exS_at {w : World} {s : Nat} (h1 : Blk w s 29 #[.string ⟨#[97]⟩, .int .i64 2]) (h2 : Blk w (s + 1) 9 #[.string ⟨#[109]⟩]) : SchAt w (exL s) exS := by
  refine ⟨⟨rfl, Nat.le_refl _, by show 1 ≤ maxLen; unfold maxLen; omega, .inr ⟨s, 0, rfl, h1.lt, fun i hi => ?_⟩⟩, rfl, ⟨rfl, Nat.le_refl _, by show 1 ≤ maxLen; unfold maxLen; omega, .inr ⟨s + 1, 0, rfl, h2.lt, fun i hi => ?_⟩⟩,
    ⟨rfl, Nat.le_refl _, Nat.zero_le _, .inl rfl⟩, ⟨rfl, Nat.le_refl _, Nat.zero_le _, .inl rfl⟩, fun d hd => ?_, fun x hx => ?_, (fun x hx => by cases hx), (fun x hx => by cases hx)⟩
  · have : i = 0 ∨ i = 1 := by simp only [exL] at hi; omega
    rw [Nat.zero_add, h1.cell]
    rcases this with rfl | rfl <;> rfl
  · obtain rfl : i = 0 := by simp only [exL] at hi; omega
    exact h2.cell 0
  · simp only [exS, List.mem_singleton] at hd
    subst hd
    exact ⟨by show 1 ≤ maxLen; unfold maxLen; omega, by decide, by decide⟩
  · simp only [exS, List.mem_singleton] at hx
    subst hx
    show 1 ≤ maxLen; unfold maxLen; omega
theorem exC_at {w : World} {s : Nat} {c n : Int} (hc : I64 c) (hn : I64 n) (h : Blk w s 36 #[.int .i64 n, .int .i64 0, .slice none 0 0, .int .i64 0, .int .i64 0]) : CellAt w (exM s) (exC c n) := by
  have i0 : I64 0 := ⟨by decide, by decide⟩
  refine ⟨⟨rfl, Nat.le_refl _, by show 1 ≤ maxLen; unfold maxLen; omega, .inr ⟨s, 0, rfl, h.lt, fun i hi => ?_⟩⟩, rfl, ⟨rfl, Nat.le_refl _, Nat.zero_le _, .inl rfl⟩, rfl, ⟨by show (0 : Int) ≤ 0; decide, by show (0 : Int) ≤ _; decide⟩, hc, fun x hx => ?_, (fun x hx => by cases hx)⟩
  · have : i = 0 ∨ i = 1 ∨ i = 2 ∨ i = 3 ∨ i = 4 := by simp only [exM] at hi; omega
    rw [Nat.zero_add, h.cell]
    rcases this with rfl | rfl | rfl | rfl | rfl <;> rfl
  · simp only [exC, List.mem_singleton] at hx
    subst hx
    exact ⟨⟨rfl, Nat.le_refl _, Nat.zero_le _, .inl rfl⟩, (fun d hd => by cases hd), hn, i0, i0, i0⟩
end Go.Proofs.Ytdbkgpakpadloaa
