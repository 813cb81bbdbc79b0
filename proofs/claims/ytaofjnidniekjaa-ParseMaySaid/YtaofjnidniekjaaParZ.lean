/- The contract of package parse's Parse. Conditions: those stated. -/
import Derived.Test.YtaofjnidniekjaaParY
import Derived.Defers
import Derived.Recover
namespace Go.Proofs.Ytaofjnidniekjaa
open Go.RowKit

def zeroQ : Array Value := #[.int .u32 0, .slice none 0 0, .slice none 0 0, .slice none 0 0, .int .i64 0]
/-- what the named results hold -/
def Res (w : World) (g : Nat) (q : Array Value) (a er : Int) : Prop := Blk w g 47 q ∧ Blk w (g + 1) 3 #[.int .i64 a] ∧ Blk w (g + 1 + 1) 23 #[.int .i64 er]

set_option maxRecDepth 100000 in
/-- the deferred function, entered by a reading that a fault has ended -/
theorem catch_fault (g : Nat) (a er : Int) (x y : Int) (w : World) (h : Res w g zeroQ x y) :
    CallsD Try.prog 25 #[.pointer (some ⟨g, 0, none⟩), .pointer (some ⟨g + 1, 0, none⟩), .pointer (some ⟨g + 1 + 1, 0, none⟩)] (.panicking [{ v := faultV a er, recovered := false }]) w fun en u' w' =>
      en = .returned (.tuple #[]) ∧ u' = .panicking [{ v := faultV a er, recovered := true }] ∧ Res w' g zeroQ a er ∧ Below g w w' := by
  obtain ⟨hg, hp, he⟩ := h
  unfold zeroQ at hg
  refine callsD_of_wpS Try.func25 rfl fun c₀ cs hu => ?_
  have HG := Lib.hid (hg.alloc (.cells #[.int .i64 a, .int .i64 er] 74))
  have HP := Lib.hid (hp.alloc (.cells #[.int .i64 a, .int .i64 er] 74))
  have HE := Lib.hid (he.alloc (.cells #[.int .i64 a, .int .i64 er] 74))
  have HK := Lib.hid (Blk.new w 74 #[.int .i64 a, .int .i64 er])
  have HB : Hid (Below g w (w.alloc (.cells #[.int .i64 a, .int .i64 er] 74))) := Lib.hid ((Below.refl _ _).alloc (Nat.le_of_lt hg.lt) _)
  have HGL := Lib.hid he.lt
  clear hg hp he
  have hta : ∀ w : World, (Instr.typeAssert (.iface 74 (.agg #[.int .i64 a, .int .i64 er])) 20 74 true).run Try.prog w = .ok (.tuple #[.agg #[.int .i64 a, .int .i64 er], .bool true]) w := fun _ => by kernel_rfl
  have HU := Lib.hid hu
  unfold faultV at *
  change Code.wpS _ _ _ { tmps := #[.pointer (some ⟨g, 0, none⟩), .pointer (some ⟨g + 1, 0, none⟩), .pointer (some ⟨g + 1 + 1, 0, none⟩), undef, undef, undef, undef, undef, undef, undef, undef, undef, undef, undef, undef, undef], defers := [] } _ _
  apply wpS_seq
  apply wpS_region
  simp [wpOpsS, go_sem, recoverD, hu, hta, Exit.thenS]
  generalize w.alloc (.cells #[.int .i64 a, .int .i64 er] 74) = w1 at *
  generalize w.heap.size = T at *
  have g0 : w1.cell? ⟨g, 0, none⟩ = some (.int .u32 0) := HG.out.cell 0
  have g1 : w1.cell? ⟨g, 1, none⟩ = some (.slice none 0 0) := HG.out.cell 1
  have g2 : w1.cell? ⟨g, 2, none⟩ = some (.slice none 0 0) := HG.out.cell 2
  have g3 : w1.cell? ⟨g, 3, none⟩ = some (.slice none 0 0) := HG.out.cell 3
  have g4 : w1.cell? ⟨g, 4, none⟩ = some (.int .i64 0) := HG.out.cell 4
  have p0 : w1.cell? ⟨g + 1, 0, none⟩ = some (.int .i64 x) := HP.out.cell 0
  have e0 : w1.cell? ⟨g + 1 + 1, 0, none⟩ = some (.int .i64 y) := HE.out.cell 0
  have k0 : w1.cell? ⟨T, 0, none⟩ = some (.int .i64 a) := HK.out.cell 0
  have k1 : w1.cell? ⟨T, 1, none⟩ = some (.int .i64 er) := HK.out.cell 1
  have fg : ∀ o, w1.frozen? ⟨g, o, none⟩ = false := fun o => HG.out.frozen o
  have fp : ∀ o, w1.frozen? ⟨g + 1, o, none⟩ = false := fun o => HP.out.frozen o
  have fe : ∀ o, w1.frozen? ⟨g + 1 + 1, o, none⟩ = false := fun o => HE.out.frozen o
  have hT : g + 1 + 1 < T := HGL.out
  have hT0 : ¬ T = g := by omega
  have hT1 : ¬ T = g + 1 := by omega
  have hT2 : ¬ T = g + 1 + 1 := by omega
  refine wpS_of_wp ?_
  clear hu hta
  go_wp2_with fail
  go_region
  have HGF := Lib.hid ((((((((HG.out.set_ 0 (.int .u32 0)).set_ 1 (.slice none 0 0)).set_ 2 (.slice none 0 0)).set_ 3 (.slice none 0 0)).set_ 4 (.int .i64 0)).far (p := ⟨g + 1, 0, none⟩) (by show g ≠ g + 1; omega) (.int .i64 a)).far (p := ⟨g + 1 + 1, 0, none⟩) (by show g ≠ g + 1 + 1; omega) (.int .i64 er)).drew)
  have HPF := Lib.hid (((((((((HP.out.far (p := ⟨g, 0, none⟩) (by show g + 1 ≠ g; omega) (.int .u32 0)).far (p := ⟨g, 1, none⟩) (by show g + 1 ≠ g; omega) (.slice none 0 0)).far (p := ⟨g, 2, none⟩) (by show g + 1 ≠ g; omega) (.slice none 0 0)).far (p := ⟨g, 3, none⟩) (by show g + 1 ≠ g; omega) (.slice none 0 0)).far (p := ⟨g, 4, none⟩) (by show g + 1 ≠ g; omega) (.int .i64 0)).set_ 0 (.int .i64 a)).far (p := ⟨g + 1 + 1, 0, none⟩) (by show g + 1 ≠ g + 1 + 1; omega) (.int .i64 er)).drew))
  have HEF := Lib.hid (((((((((HE.out.far (p := ⟨g, 0, none⟩) (by show g + 1 + 1 ≠ g; omega) (.int .u32 0)).far (p := ⟨g, 1, none⟩) (by show g + 1 + 1 ≠ g; omega) (.slice none 0 0)).far (p := ⟨g, 2, none⟩) (by show g + 1 + 1 ≠ g; omega) (.slice none 0 0)).far (p := ⟨g, 3, none⟩) (by show g + 1 + 1 ≠ g; omega) (.slice none 0 0)).far (p := ⟨g, 4, none⟩) (by show g + 1 + 1 ≠ g; omega) (.int .i64 0)).far (p := ⟨g + 1, 0, none⟩) (by show g + 1 + 1 ≠ g + 1; omega) (.int .i64 a)).set_ 0 (.int .i64 er)).drew))
  refine ⟨rfl, _, rfl, _, by simp [results, Try.results25], rfl, rfl, ⟨HGF.out, HPF.out, HEF.out⟩, ?_⟩
  exact blk_d (below_set (below_set (below_set (below_set (below_set (below_set (below_set HB.out (by exact Nat.le_refl _) _) (by exact Nat.le_refl _) _) (by exact Nat.le_refl _) _) (by exact Nat.le_refl _) _) (by exact Nat.le_refl _) _) (by show g ≤ g + 1; omega) _) (by show g ≤ g + 1 + 1; omega) _)

set_option maxRecDepth 100000 in
/-- the deferred function, entered by a call that returns -/
theorem catch_none (g : Nat) (w : World) :
    CallsD Try.prog 25 #[.pointer (some ⟨g, 0, none⟩), .pointer (some ⟨g + 1, 0, none⟩), .pointer (some ⟨g + 1 + 1, 0, none⟩)] .returning w fun en u' w' =>
      en = .returned (.tuple #[]) ∧ u' = .returning ∧ Below w.heap.size w w' := by
  refine callsD_of_wpS Try.func25 rfl fun c₀ cs hu => ?_
  have hta : ∀ w : World, (Instr.typeAssert .nilIface 20 74 true).run Try.prog w = .ok (.tuple #[.agg #[.int .i64 0, .int .i64 0], .bool false]) w := fun _ => by kernel_rfl
  have HB : Hid (Below w.heap.size w (w.alloc (.cells #[.int .i64 0, .int .i64 0] 74))) := Lib.hid ((Below.refl _ _).alloc (Nat.le_refl _) _)
  change Code.wpS _ _ _ { tmps := #[.pointer (some ⟨g, 0, none⟩), .pointer (some ⟨g + 1, 0, none⟩), .pointer (some ⟨g + 1 + 1, 0, none⟩), undef, undef, undef, undef, undef, undef, undef, undef, undef, undef, undef, undef, undef], defers := [] } _ _
  apply wpS_seq
  apply wpS_region
  have HU : Hid (({ c₀ with mode := .returning } : Frame) = c₀) := Lib.hid (by cases c₀; cases hu; rfl)
  simp [wpOpsS, go_sem, recoverD, hu, hta, Exit.thenS]
  generalize w.alloc (.cells #[.int .i64 0, .int .i64 0] 74) = w1 at *
  clear hu hta
  refine wpS_of_wp ?_
  go_wp2_with fail
  exact ⟨rfl, _, by rw [HU.out], _, by simp [results, Try.results25], rfl, rfl, HB.out⟩
end Go.Proofs.Ytaofjnidniekjaa
