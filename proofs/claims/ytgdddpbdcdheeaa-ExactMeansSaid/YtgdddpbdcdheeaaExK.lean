/- The walk of the law ExactNobody. No conditions. -/
import Derived.Test.YtgdddpbdcdheeaaExJ
import Derived.Test.YtgdddpbdcdheeaaRatM
namespace Go.Proofs.Ytgdddpbdcdheeaa
open Go.RowKit Ieee

theorem sumnew_at (w : World) :
    Calls Try.prog 13 #[] w fun e w' => ∃ g, e = .returned (.pointer (some ⟨g, 0, none⟩)) ∧ SumAt w' g 0 0 ∧ Below w.heap.size w w' ∧ w.heap.size ≤ g := by
  refine (sumnew_any w).mono ?_
  rintro e w' ⟨h1, h2, h3⟩
  exact ⟨_, h1, h2, h3, Nat.le_refl _⟩

set_option maxRecDepth 100000 in
set_option maxHeartbeats 8000000 in
theorem walk_nobody (x : Nat) (w : World) (_w0 : (Lit.float .f64 x).wf = true) :
    Calls Try.prog 11 #[.float .f64 x] w fun e w' => e = .returned (.bool true) ∧ Below w.heap.size w w' := by
  have HSM := Lib.hid (fun w => rsame_key (z := 0) (y := 0) (by decide) (by decide) rfl w)
  clear _w0
  go_enter Try.func11, Try.ntmps11
  go_wp2_with fail
  go_loopg [3] 2 (fun gg i wr => ∃ j : Nat, i = .int .i64 (j : Int) ∧ j + gg = 2 ∧ Below w.heap.size w wr)
  case atStart => exact ⟨0, rfl, rfl, Below.refl _ _⟩
  case round =>
    obtain ⟨j, rfl, hj, hb⟩ := hrel
    have HB := Lib.hid hb
    clear hb
    have hjc : (j = 0 ∧ gk = 2) ∨ (j = 1 ∧ gk = 1) ∨ (j = 2 ∧ gk = 0) := by omega
    rcases hjc with ⟨rfl, rfl⟩ | ⟨rfl, rfl⟩ | ⟨rfl, rfl⟩
    · have HBAD : Hid (Bad wr (.pointer none)) := Lib.hid (.inl rfl)
      have HB2 := HB
      go_wp2_with fail
      refine (sumnew_at _).mono ?_; rintro e w3 ⟨g, rfl, hs, hb3, -⟩
      have HBD := Lib.hid (HBAD.out.below hb3 (Nat.le_refl _))
      have HB3 := Lib.hid (HB2.out.trans (hb3.mono HB2.out.size))
      have HS := Lib.hid hs
      clear hs hb3
      go_wp2_with fail
      refine (add_bad w3 _ x HBD.out).mono ?_; rintro e w4 ⟨rfl, rfl⟩
      go_wp2_with fail
      refine (join_bad1 w3 _ _ HBD.out).mono ?_; rintro e w4 ⟨rfl, hb4⟩
      have HBD4 := Lib.hid (HBD.out.below hb4 (Nat.le_refl _))
      have HS4 := Lib.hid (HS.out.below hb4 (Nat.le_refl _))
      have HB4 := Lib.hid (HB3.out.trans (hb4.mono HB3.out.size))
      clear hb4
      go_wp2_with fail
      refine (join_bad2 w4 g 0 0 _ HS4.out HBD4.out).mono ?_; rintro e w5 ⟨rfl, hb5⟩
      have HBD5 := Lib.hid (HBD4.out.below hb5 (Nat.le_refl _))
      have HS5 := Lib.hid (HS4.out.below hb5 (Nat.le_refl _))
      have HB5 := Lib.hid (HB4.out.trans (hb5.mono HB4.out.size))
      clear hb5
      go_wp2_with fail
      refine (val_bad w5 _ HBD5.out).mono ?_; rintro e w6 ⟨rfl, rfl⟩
      go_wp2_with fail
      refine (HSM.out w5).mono ?_; rintro e w6 ⟨rfl, hb6⟩
      have HBD6 := Lib.hid (HBD5.out.below hb6 (Nat.le_refl _))
      have HS6 := Lib.hid (HS5.out.below hb6 (Nat.le_refl _))
      have HB6 := Lib.hid (HB5.out.trans (hb6.mono HB5.out.size))
      clear hb6
      go_wp2_with fail
      refine (mean_bad w6 _ HBD6.out).mono ?_; rintro e w7 ⟨rfl, rfl⟩
      go_wp2_with fail
      refine (HSM.out w6).mono ?_; rintro e w7 ⟨rfl, hb7⟩
      have HBD7 := Lib.hid (HBD6.out.below hb7 (Nat.le_refl _))
      have HS7 := Lib.hid (HS6.out.below hb7 (Nat.le_refl _))
      have HB7 := Lib.hid (HB6.out.trans (hb7.mono HB6.out.size))
      clear hb7
      go_wp2_with fail
      refine (bytes_bad w7 _ HBD7.out).mono ?_; rintro e w8 ⟨rfl, rfl⟩
      go_wp2_with fail
      refine (sumbytes_any w7 g 0 0 HS7.out room_pos (by decide)).mono ?_; rintro e w8 ⟨a, n, c, bs, rfl, hr, hbs, hb8, -⟩
      obtain rfl := bytes0 hbs
      obtain rfl : n = 3 := hr.1.symm
      have HB8 := Lib.hid (HB7.out.trans (hb8.mono HB7.out.size))
      clear hbs hb8 hr
      go_wp2_with fail
      go_roundg 1
      case measure => omega
      case rel => exact ⟨1, rfl, rfl, HB8.out⟩
    · have hbk := Blk.new wr 72 #[.bool false, .int .u8 0, .bool false, .slice none 0 0]
      have hbw : Below wr.heap.size wr (wr.alloc (.cells #[.bool false, .int .u8 0, .bool false, .slice none 0 0] 72)) := (Below.refl _ _).alloc (Nat.le_refl _) _
      have HBAD : Hid (Bad (wr.alloc (.cells #[.bool false, .int .u8 0, .bool false, .slice none 0 0] 72)) (.pointer (some ⟨wr.heap.size, 0, none⟩))) := Lib.hid (.inr ⟨wr.heap.size, rfl, hbk.cell 0, hbk.lt⟩)
      have HB2 := Lib.hid (HB.out.trans (hbw.mono HB.out.size))
      clear hbk hbw
      go_wp2_with fail
      refine (sumnew_at _).mono ?_; rintro e w3 ⟨g, rfl, hs, hb3, -⟩
      have HBD := Lib.hid (HBAD.out.below hb3 (Nat.le_refl _))
      have HB3 := Lib.hid (HB2.out.trans (hb3.mono HB2.out.size))
      have HS := Lib.hid hs
      clear hs hb3
      go_wp2_with fail
      refine (add_bad w3 _ x HBD.out).mono ?_; rintro e w4 ⟨rfl, rfl⟩
      go_wp2_with fail
      refine (join_bad1 w3 _ _ HBD.out).mono ?_; rintro e w4 ⟨rfl, hb4⟩
      have HBD4 := Lib.hid (HBD.out.below hb4 (Nat.le_refl _))
      have HS4 := Lib.hid (HS.out.below hb4 (Nat.le_refl _))
      have HB4 := Lib.hid (HB3.out.trans (hb4.mono HB3.out.size))
      clear hb4
      go_wp2_with fail
      refine (join_bad2 w4 g 0 0 _ HS4.out HBD4.out).mono ?_; rintro e w5 ⟨rfl, hb5⟩
      have HBD5 := Lib.hid (HBD4.out.below hb5 (Nat.le_refl _))
      have HS5 := Lib.hid (HS4.out.below hb5 (Nat.le_refl _))
      have HB5 := Lib.hid (HB4.out.trans (hb5.mono HB4.out.size))
      clear hb5
      go_wp2_with fail
      refine (val_bad w5 _ HBD5.out).mono ?_; rintro e w6 ⟨rfl, rfl⟩
      go_wp2_with fail
      refine (HSM.out w5).mono ?_; rintro e w6 ⟨rfl, hb6⟩
      have HBD6 := Lib.hid (HBD5.out.below hb6 (Nat.le_refl _))
      have HS6 := Lib.hid (HS5.out.below hb6 (Nat.le_refl _))
      have HB6 := Lib.hid (HB5.out.trans (hb6.mono HB5.out.size))
      clear hb6
      go_wp2_with fail
      refine (mean_bad w6 _ HBD6.out).mono ?_; rintro e w7 ⟨rfl, rfl⟩
      go_wp2_with fail
      refine (HSM.out w6).mono ?_; rintro e w7 ⟨rfl, hb7⟩
      have HBD7 := Lib.hid (HBD6.out.below hb7 (Nat.le_refl _))
      have HS7 := Lib.hid (HS6.out.below hb7 (Nat.le_refl _))
      have HB7 := Lib.hid (HB6.out.trans (hb7.mono HB6.out.size))
      clear hb7
      go_wp2_with fail
      refine (bytes_bad w7 _ HBD7.out).mono ?_; rintro e w8 ⟨rfl, rfl⟩
      go_wp2_with fail
      refine (sumbytes_any w7 g 0 0 HS7.out room_pos (by decide)).mono ?_; rintro e w8 ⟨a, n, c, bs, rfl, hr, hbs, hb8, -⟩
      obtain rfl := bytes0 hbs
      obtain rfl : n = 3 := hr.1.symm
      have HB8 := Lib.hid (HB7.out.trans (hb8.mono HB7.out.size))
      clear hbs hb8 hr
      go_wp2_with fail
      go_roundg 0
      case measure => omega
      case rel => exact ⟨2, rfl, rfl, HB8.out⟩
    · go_wp2_with fail
      refine (awake_ex _).mono ?_; rintro e w2 ⟨rfl, hb2⟩
      have HB2 := Lib.hid (HB.out.trans (hb2.mono HB.out.size))
      clear hb2
      go_wp2_with fail
      go_ret
      exact ⟨rfl, HB2.out⟩
end Go.Proofs.Ytgdddpbdcdheeaa
