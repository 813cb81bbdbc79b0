/- The chapter's example of derive: bushellaw32.awake. No conditions. -/
import Derived.Test.YtdbkgpakpadloaaDerE
namespace Go.Proofs.Ytdbkgpakpadloaa
open Go.RowKit Ieee
attribute [local go_sem] run_store_float

/-- blocks, one made behind the other -/
def allocs (w : World) : List (Array Value × TypeId) → World
  | [] => w
  | x :: l => allocs (w.alloc (.cells x.1 x.2)) l
theorem allocs_kept {w : World} {g : Nat} {t : TypeId} {cs : Array Value} (h : Blk w g t cs) : ∀ l, Blk (allocs w l) g t cs
  | [] => h
  | x :: l => by
    have h2 : Blk (w.alloc (.cells x.1 x.2)) g t cs := h.alloc _
    exact allocs_kept h2 l
theorem allocs_blk : ∀ (l : List (Array Value × TypeId)) (w : World) (i : Nat) (x : Array Value × TypeId), l[i]? = some x → Blk (allocs w l) (w.heap.size + i) x.2 x.1
  | [], _, _, _, h => by simp at h
  | y :: l, w, 0, x, h => by
    simp only [List.getElem?_cons_zero, Option.some.injEq] at h
    subst h
    exact allocs_kept (Blk.new w y.2 y.1) l
  | y :: l, w, i + 1, x, h => by
    have h2 := allocs_blk l (w.alloc (.cells y.1 y.2)) i x (by simpa using h)
    rw [show (w.alloc (.cells y.1 y.2)).heap.size = w.heap.size + 1 from by simp, Nat.add_assoc, Nat.add_comm 1] at h2
    exact h2
theorem allocs_below : ∀ (l : List (Array Value × TypeId)) (w : World), Below w.heap.size w (allocs w l) ∧ (allocs w l).heap.size = w.heap.size + l.length
  | [], w => ⟨Below.refl _ _, rfl⟩
  | y :: l, w => by
    obtain ⟨h1, h2⟩ := allocs_below l (w.alloc (.cells y.1 y.2))
    have e : (w.alloc (.cells y.1 y.2)).heap.size = w.heap.size + 1 := by simp
    rw [e] at h1 h2
    refine ⟨((Below.refl w.heap.size w).alloc (Nat.le_refl _) (.cells y.1 y.2)).trans (h1.mono (Nat.le_add_right _ 1)), ?_⟩
    show (allocs (w.alloc (.cells y.1 y.2)) l).heap.size = _
    rw [h2, List.length_cons]; omega
def exBlocks (s : Nat) : List (Array Value × TypeId) :=
  [(#[.string ⟨#[97]⟩, .int .i64 2], 29), (#[.string ⟨#[109]⟩], 9), (#[.slice (some ⟨s, 0, none⟩) 1 1, .slice (some ⟨s + 1, 0, none⟩) 1 1, .slice none 0 0, .slice none 0 0], 34),
   (#[.int .i64 3, .int .i64 0, .slice none 0 0, .int .i64 0, .int .i64 0], 36), (#[.int .u64 0, .int .i64 2, .slice (some ⟨s + 1 + 1 + 1, 0, none⟩) 1 1, .slice none 0 0], 41),
   (#[.int .i64 6, .int .i64 0, .slice none 0 0, .int .i64 0, .int .i64 0], 36), (#[.int .u64 0, .int .i64 9, .slice (some ⟨s + 1 + 1 + 1 + 1 + 1, 0, none⟩) 1 1, .slice none 0 0], 41)]
theorem no_real (k : Int) (c n : Int) : RealCall exS k 0 (exC c n) fun _ _ _ => True := fun _ _ h => absurd h (by decide)
theorem ex_call {w w1 : World} {s : Nat} (k : Int) (v : Nat) (hk : (k = 4 ∧ v = 4609434218613702656) ∨ (k = 6 ∧ v = 4602678819172646912)) (h1 : Blk w s 29 #[.string ⟨#[97]⟩, .int .i64 2]) (h2 : Blk w (s + 1) 9 #[.string ⟨#[109]⟩])
    (h3 : Blk w (s + 3) 36 #[.int .i64 3, .int .i64 0, .slice none 0 0, .int .i64 0, .int .i64 0]) (h4 : Blk w (s + 5) 36 #[.int .i64 6, .int .i64 0, .slice none 0 0, .int .i64 0, .int .i64 0]) (hb : Below w.heap.size w w1) :
    Calls Try.prog 9 #[.agg #[.slice (some ⟨s, 0, none⟩) 1 1, .slice (some ⟨s + 1, 0, none⟩) 1 1, .slice none 0 0, .slice none 0 0], .agg #[.int .i64 k, .int .i64 0], .agg #[.int .u64 0, .int .i64 2, .slice (some ⟨s + 1 + 1 + 1, 0, none⟩) 1 1, .slice none 0 0], .agg #[.int .u64 0, .int .i64 9, .slice (some ⟨s + 1 + 1 + 1 + 1 + 1, 0, none⟩) 1 1, .slice none 0 0]] w1
      fun e w' => e = .returned (.tuple #[.agg #[.bool true, .int .i64 0, .float .f64 v], .int .i64 0]) ∧ Below w1.heap.size w1 w' := by
  have i64 : ∀ {x : Int}, -100 ≤ x → x ≤ 100 → I64 x := fun h1 h2 => ⟨by omega, by omega⟩
  have hcall := dvalue_any w1 (exL s) exS k 0 (exM (s + 3)) (exM (s + 5)) (exC 2 3) (exC 9 6) (fun _ _ _ => True) (exS_at (h1.below hb h1.lt) (h2.below hb h2.lt)) (by rcases hk with ⟨rfl, -⟩ | ⟨rfl, -⟩ <;> exact i64 (by decide) (by decide)) (i64 (by decide) (by decide))
    (exC_at (i64 (by decide) (by decide)) (i64 (by decide) (by decide)) (h3.below hb h3.lt)) (exC_at (i64 (by decide) (by decide)) (i64 (by decide) (by decide)) (h4.below hb h4.lt)) (Lib.hid fun x hx => by simp only [exC, List.mem_singleton] at hx; subst hx; decide) (no_real k 2 3)
  refine hcall.mono ?_
  rintro e w' ⟨r, n, z, kk, rfl, hP, hb2⟩
  obtain ⟨rfl, rfl, rfl, hz⟩ := ex_okv k (hk.imp (·.1) (·.1)) 2 3 9 6 hP
  refine ⟨?_, hb2⟩
  rcases hz with ⟨rfl, hz⟩ | ⟨rfl, hz⟩ <;> rcases hk with ⟨h, rfl⟩ | ⟨h, rfl⟩
  · rw [mean32 hz]; rfl
  · exact absurd h (by decide)
  · exact absurd h (by decide)
  · rw [mean36 hz]; rfl

set_option maxHeartbeats 4000000 in
theorem awake_der (w : World) : Calls Try.prog 6 #[] w fun e w' => e = .returned (.bool true) ∧ Below w.heap.size w w' := by
  obtain ⟨W, hW⟩ : ∃ W, allocs w (exBlocks w.heap.size) = W := ⟨_, rfl⟩
  obtain ⟨S, hS⟩ : ∃ S, w.heap.size = S := ⟨_, rfl⟩
  have hbk := fun i x h => allocs_blk (exBlocks w.heap.size) w i x h
  obtain ⟨hbw, hsz⟩ := allocs_below (exBlocks w.heap.size) w
  rw [hW] at hbk hbw hsz
  have b0 := hbk 0 _ rfl
  have b1 := hbk 1 _ rfl
  have b2 := hbk 2 _ rfl
  have b3 := hbk 3 _ rfl
  have b4 := hbk 4 _ rfl
  have b5 := hbk 5 _ rfl
  have b6 := hbk 6 _ rfl
  simp only [exBlocks, allocs] at hW
  rw [hS] at hW b0 b1 b2 b3 b4 b5 b6 hbw hsz
  have HBW := Lib.hid hbw
  have HSZ : Hid (W.heap.size = S + 7) := Lib.hid hsz
  have HC4 := Lib.hid (fun w1 (h : Below W.heap.size W w1) => ex_call 4 _ (.inl ⟨rfl, rfl⟩) b0 b1 b3 b5 h)
  have HC6 := Lib.hid (fun w1 (h : Below W.heap.size W w1) => ex_call 6 _ (.inr ⟨rfl, rfl⟩) b0 b1 b3 b5 h)
  have HR := Lib.hid (fun w1 (h : Below W.heap.size W w1) => dkind_any w1 (exL S) exS 1 0 (exS_at (b0.below h b0.lt) (b1.below h b1.lt)) ⟨by decide, by decide⟩ ⟨by decide, by decide⟩)
  have HB2 := Lib.hid b2
  have HB4 := Lib.hid b4
  have HB6 := Lib.hid b6
  have HW := Lib.hid hW
  have HS := Lib.hid hS
  clear hbk hbw hsz b0 b1 b2 b3 b4 b5 b6 hW hS
  go_enter Try.func6, Try.ntmps6
  go_upto_region 4 with fail
  rw [HS.out, HW.out]
  have x0 : W.cell? ⟨S + 1 + 1, 0, none⟩ = some (.slice (some ⟨S, 0, none⟩) 1 1) := (HB2.out.below (Below.refl W.heap.size W) HB2.out.lt).cell 0
  have x1 : W.cell? ⟨S + 1 + 1, 1, none⟩ = some (.slice (some ⟨S + 1, 0, none⟩) 1 1) := (HB2.out.below (Below.refl W.heap.size W) HB2.out.lt).cell 1
  have x2 : W.cell? ⟨S + 1 + 1, 2, none⟩ = some (.slice none 0 0) := (HB2.out.below (Below.refl W.heap.size W) HB2.out.lt).cell 2
  have x3 : W.cell? ⟨S + 1 + 1, 3, none⟩ = some (.slice none 0 0) := (HB2.out.below (Below.refl W.heap.size W) HB2.out.lt).cell 3
  have y0 : W.cell? ⟨S + 1 + 1 + 1 + 1, 0, none⟩ = some (.int .u64 0) := (HB4.out.below (Below.refl W.heap.size W) HB4.out.lt).cell 0
  have y1 : W.cell? ⟨S + 1 + 1 + 1 + 1, 1, none⟩ = some (.int .i64 2) := (HB4.out.below (Below.refl W.heap.size W) HB4.out.lt).cell 1
  have y2 : W.cell? ⟨S + 1 + 1 + 1 + 1, 2, none⟩ = some (.slice (some ⟨S + 1 + 1 + 1, 0, none⟩) 1 1) := (HB4.out.below (Below.refl W.heap.size W) HB4.out.lt).cell 2
  have y3 : W.cell? ⟨S + 1 + 1 + 1 + 1, 3, none⟩ = some (.slice none 0 0) := (HB4.out.below (Below.refl W.heap.size W) HB4.out.lt).cell 3
  have z0 : W.cell? ⟨S + 1 + 1 + 1 + 1 + 1 + 1, 0, none⟩ = some (.int .u64 0) := (HB6.out.below (Below.refl W.heap.size W) HB6.out.lt).cell 0
  have z1 : W.cell? ⟨S + 1 + 1 + 1 + 1 + 1 + 1, 1, none⟩ = some (.int .i64 9) := (HB6.out.below (Below.refl W.heap.size W) HB6.out.lt).cell 1
  have z2 : W.cell? ⟨S + 1 + 1 + 1 + 1 + 1 + 1, 2, none⟩ = some (.slice (some ⟨S + 1 + 1 + 1 + 1 + 1, 0, none⟩) 1 1) := (HB6.out.below (Below.refl W.heap.size W) HB6.out.lt).cell 2
  have z3 : W.cell? ⟨S + 1 + 1 + 1 + 1 + 1 + 1, 3, none⟩ = some (.slice none 0 0) := (HB6.out.below (Below.refl W.heap.size W) HB6.out.lt).cell 3
  go_wp2_with fail
  refine (HC4.out _ (Below.refl _ _)).mono ?_; rintro e w1 ⟨rfl, hb1⟩
  clear x0 x1 x2 x3 y0 y1 y2 y3 z0 z1 z2 z3
  have HV1 := Lib.hid (Blk.new w1 24 #[.bool true, .int .i64 0, .float .f64 4609434218613702656])
  have HB1 := Lib.hid (hb1.alloc hb1.size (.cells #[.bool true, .int .i64 0, .float .f64 4609434218613702656] 24))
  go_upto_region 5 with fail
  generalize w1.alloc (.cells #[.bool true, .int .i64 0, .float .f64 4609434218613702656] 24) = w2 at *
  generalize w1.heap.size = P at *
  clear hb1
  have x0 : w2.cell? ⟨S + 1 + 1, 0, none⟩ = some (.slice (some ⟨S, 0, none⟩) 1 1) := (HB2.out.below HB1.out HB2.out.lt).cell 0
  have x1 : w2.cell? ⟨S + 1 + 1, 1, none⟩ = some (.slice (some ⟨S + 1, 0, none⟩) 1 1) := (HB2.out.below HB1.out HB2.out.lt).cell 1
  have x2 : w2.cell? ⟨S + 1 + 1, 2, none⟩ = some (.slice none 0 0) := (HB2.out.below HB1.out HB2.out.lt).cell 2
  have x3 : w2.cell? ⟨S + 1 + 1, 3, none⟩ = some (.slice none 0 0) := (HB2.out.below HB1.out HB2.out.lt).cell 3
  have y0 : w2.cell? ⟨S + 1 + 1 + 1 + 1, 0, none⟩ = some (.int .u64 0) := (HB4.out.below HB1.out HB4.out.lt).cell 0
  have y1 : w2.cell? ⟨S + 1 + 1 + 1 + 1, 1, none⟩ = some (.int .i64 2) := (HB4.out.below HB1.out HB4.out.lt).cell 1
  have y2 : w2.cell? ⟨S + 1 + 1 + 1 + 1, 2, none⟩ = some (.slice (some ⟨S + 1 + 1 + 1, 0, none⟩) 1 1) := (HB4.out.below HB1.out HB4.out.lt).cell 2
  have y3 : w2.cell? ⟨S + 1 + 1 + 1 + 1, 3, none⟩ = some (.slice none 0 0) := (HB4.out.below HB1.out HB4.out.lt).cell 3
  have z0 : w2.cell? ⟨S + 1 + 1 + 1 + 1 + 1 + 1, 0, none⟩ = some (.int .u64 0) := (HB6.out.below HB1.out HB6.out.lt).cell 0
  have z1 : w2.cell? ⟨S + 1 + 1 + 1 + 1 + 1 + 1, 1, none⟩ = some (.int .i64 9) := (HB6.out.below HB1.out HB6.out.lt).cell 1
  have z2 : w2.cell? ⟨S + 1 + 1 + 1 + 1 + 1 + 1, 2, none⟩ = some (.slice (some ⟨S + 1 + 1 + 1 + 1 + 1, 0, none⟩) 1 1) := (HB6.out.below HB1.out HB6.out.lt).cell 2
  have z3 : w2.cell? ⟨S + 1 + 1 + 1 + 1 + 1 + 1, 3, none⟩ = some (.slice none 0 0) := (HB6.out.below HB1.out HB6.out.lt).cell 3
  go_wp2_with fail
  refine (HC6.out _ HB1.out).mono ?_; rintro e w3 ⟨rfl, hb3⟩
  clear x0 x1 x2 x3 y0 y1 y2 y3 z0 z1 z2 z3
  have HV2 := Lib.hid (Blk.new w3 24 #[.bool true, .int .i64 0, .float .f64 4602678819172646912])
  have HV3 := Lib.hid ((HV1.out.below hb3 HV1.out.lt).alloc (.cells #[.bool true, .int .i64 0, .float .f64 4602678819172646912] 24))
  have hb4 := HB1.out.trans (hb3.mono HB1.out.size)
  have HB3 := Lib.hid (hb4.alloc hb4.size (.cells #[.bool true, .int .i64 0, .float .f64 4602678819172646912] 24))
  go_upto_region 6 with fail
  generalize w3.alloc (.cells #[.bool true, .int .i64 0, .float .f64 4602678819172646912] 24) = w4 at *
  generalize w3.heap.size = Q at *
  clear hb3 hb4
  have p0 : w4.cell? ⟨P, 0, none⟩ = some (.bool true) := HV3.out.cell 0
  have p2 : w4.cell? ⟨P, 2, none⟩ = some (.float .f64 4609434218613702656) := HV3.out.cell 2
  have q0 : w4.cell? ⟨Q, 0, none⟩ = some (.bool true) := HV2.out.cell 0
  have q2 : w4.cell? ⟨Q, 2, none⟩ = some (.float .f64 4602678819172646912) := HV2.out.cell 2
  have o1 : FloatKind.f64.format.order 4609434218613702656 4609434218613702656 = some .eq := by decide
  have o2 : FloatKind.f64.format.order 4602678819172646912 4602678819172646912 = some .eq := by decide
  have x0 : w4.cell? ⟨S + 1 + 1, 0, none⟩ = some (.slice (some ⟨S, 0, none⟩) 1 1) := (HB2.out.below HB3.out HB2.out.lt).cell 0
  have x1 : w4.cell? ⟨S + 1 + 1, 1, none⟩ = some (.slice (some ⟨S + 1, 0, none⟩) 1 1) := (HB2.out.below HB3.out HB2.out.lt).cell 1
  have x2 : w4.cell? ⟨S + 1 + 1, 2, none⟩ = some (.slice none 0 0) := (HB2.out.below HB3.out HB2.out.lt).cell 2
  have x3 : w4.cell? ⟨S + 1 + 1, 3, none⟩ = some (.slice none 0 0) := (HB2.out.below HB3.out HB2.out.lt).cell 3
  have HR2 := Lib.hid (HR.out _ HB3.out)
  rw [ex_real] at HR2
  go_wp2_with fail
  refine (HR2.out).mono ?_; rintro e w5 ⟨rfl, hb5⟩
  have HB5 := Lib.hid (HBW.out.trans ((HB3.out.trans (hb5.mono HB3.out.size)).mono (by have := HSZ.out; omega)))
  clear hb5 x0 x1 x2 x3 p0 p2 q0 q2
  go_wp2_with fail
  go_ret
  exact ⟨rfl, by rw [HS.out]; exact HB5.out⟩
end Go.Proofs.Ytdbkgpakpadloaa
