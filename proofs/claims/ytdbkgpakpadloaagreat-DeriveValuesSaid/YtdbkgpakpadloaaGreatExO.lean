/- Contract of package bushelref05's Join. Conditions: both below 2^2240 units. -/
import Derived.Test.YtdbkgpakpadloaaGreatMEx3
import Derived.Test.YtdbkgpakpadloaaGreatMEx2
import Derived.Test.YtdbkgpakpadloaaGreatRatI
namespace Go.Proofs.YtdbkgpakpadloaaGreat
open Go.RowKit Ieee

theorem Blk.seven {w : World} {B : Nat} {T : TypeId} {c0 c1 c2 c3 c4 c5 : Bool} {A : Option Addr} {L C : Nat} (hk : Blk w B T #[.bool c0, .bool c1, .bool c2, .bool c3, .bool c4, .bool c5, .slice A L C]) (u0 u1 u2 u3 u4 u5 : Bool) (a : Option Addr) (l c : Nat) :
  Blk (((((((w.setCell ⟨B, 0, none⟩ (.bool u0)).setCell ⟨B, 1, none⟩ (.bool u1)).setCell ⟨B, 2, none⟩ (.bool u2)).setCell ⟨B, 3, none⟩ (.bool u3)).setCell ⟨B, 4, none⟩ (.bool u4)).setCell ⟨B, 5, none⟩ (.bool u5)).setCell ⟨B, 6, none⟩ (.slice a l c)) B T #[.bool u0, .bool u1, .bool u2, .bool u3, .bool u4, .bool u5, .slice a l c] := by
 have k1 : Blk (w.setCell ⟨B, 0, none⟩ (.bool u0)) B T #[.bool u0, .bool c1, .bool c2, .bool c3, .bool c4, .bool c5, .slice A L C] := (hk.set_ 0 (.bool u0)).to rfl
 have k2 : Blk ((w.setCell ⟨B, 0, none⟩ (.bool u0)).setCell ⟨B, 1, none⟩ (.bool u1)) B T #[.bool u0, .bool u1, .bool c2, .bool c3, .bool c4, .bool c5, .slice A L C] := (k1.set_ 1 (.bool u1)).to rfl
 have k3 : Blk (((w.setCell ⟨B, 0, none⟩ (.bool u0)).setCell ⟨B, 1, none⟩ (.bool u1)).setCell ⟨B, 2, none⟩ (.bool u2)) B T #[.bool u0, .bool u1, .bool u2, .bool c3, .bool c4, .bool c5, .slice A L C] := (k2.set_ 2 (.bool u2)).to rfl
 have k4 : Blk ((((w.setCell ⟨B, 0, none⟩ (.bool u0)).setCell ⟨B, 1, none⟩ (.bool u1)).setCell ⟨B, 2, none⟩ (.bool u2)).setCell ⟨B, 3, none⟩ (.bool u3)) B T #[.bool u0, .bool u1, .bool u2, .bool u3, .bool c4, .bool c5, .slice A L C] := (k3.set_ 3 (.bool u3)).to rfl
 have k5 : Blk (((((w.setCell ⟨B, 0, none⟩ (.bool u0)).setCell ⟨B, 1, none⟩ (.bool u1)).setCell ⟨B, 2, none⟩ (.bool u2)).setCell ⟨B, 3, none⟩ (.bool u3)).setCell ⟨B, 4, none⟩ (.bool u4)) B T #[.bool u0, .bool u1, .bool u2, .bool u3, .bool u4, .bool c5, .slice A L C] := (k4.set_ 4 (.bool u4)).to rfl
 have k6 : Blk ((((((w.setCell ⟨B, 0, none⟩ (.bool u0)).setCell ⟨B, 1, none⟩ (.bool u1)).setCell ⟨B, 2, none⟩ (.bool u2)).setCell ⟨B, 3, none⟩ (.bool u3)).setCell ⟨B, 4, none⟩ (.bool u4)).setCell ⟨B, 5, none⟩ (.bool u5)) B T #[.bool u0, .bool u1, .bool u2, .bool u3, .bool u4, .bool u5, .slice A L C] := (k5.set_ 5 (.bool u5)).to rfl
 have k7 : Blk (((((((w.setCell ⟨B, 0, none⟩ (.bool u0)).setCell ⟨B, 1, none⟩ (.bool u1)).setCell ⟨B, 2, none⟩ (.bool u2)).setCell ⟨B, 3, none⟩ (.bool u3)).setCell ⟨B, 4, none⟩ (.bool u4)).setCell ⟨B, 5, none⟩ (.bool u5)).setCell ⟨B, 6, none⟩ (.slice a l c)) B T #[.bool u0, .bool u1, .bool u2, .bool u3, .bool u4, .bool u5, .slice a l c] := (k6.set_ 6 (.slice a l c)).to rfl
 exact k7
theorem NumC.seven {w : World} {B : Nat} {T : TypeId} {c0 c1 c2 c3 c4 c5 : Bool} {A : Option Addr} {L C : Nat} (hk : Blk w B T #[.bool c0, .bool c1, .bool c2, .bool c3, .bool c4, .bool c5, .slice A L C]) {ng : Bool} {a0 : Option Addr} {l0 q0 : Nat} {Z : Int} (h : NumC w ng a0 l0 q0 Z) (u0 u1 u2 u3 u4 u5 : Bool) (a : Option Addr) (l c : Nat) :
  NumC (((((((w.setCell ⟨B, 0, none⟩ (.bool u0)).setCell ⟨B, 1, none⟩ (.bool u1)).setCell ⟨B, 2, none⟩ (.bool u2)).setCell ⟨B, 3, none⟩ (.bool u3)).setCell ⟨B, 4, none⟩ (.bool u4)).setCell ⟨B, 5, none⟩ (.bool u5)).setCell ⟨B, 6, none⟩ (.slice a l c)) ng a0 l0 q0 Z := by
 have k1 : Blk (w.setCell ⟨B, 0, none⟩ (.bool u0)) B T #[.bool u0, .bool c1, .bool c2, .bool c3, .bool c4, .bool c5, .slice A L C] := (hk.set_ 0 (.bool u0)).to rfl
 have k2 : Blk ((w.setCell ⟨B, 0, none⟩ (.bool u0)).setCell ⟨B, 1, none⟩ (.bool u1)) B T #[.bool u0, .bool u1, .bool c2, .bool c3, .bool c4, .bool c5, .slice A L C] := (k1.set_ 1 (.bool u1)).to rfl
 have k3 : Blk (((w.setCell ⟨B, 0, none⟩ (.bool u0)).setCell ⟨B, 1, none⟩ (.bool u1)).setCell ⟨B, 2, none⟩ (.bool u2)) B T #[.bool u0, .bool u1, .bool u2, .bool c3, .bool c4, .bool c5, .slice A L C] := (k2.set_ 2 (.bool u2)).to rfl
 have k4 : Blk ((((w.setCell ⟨B, 0, none⟩ (.bool u0)).setCell ⟨B, 1, none⟩ (.bool u1)).setCell ⟨B, 2, none⟩ (.bool u2)).setCell ⟨B, 3, none⟩ (.bool u3)) B T #[.bool u0, .bool u1, .bool u2, .bool u3, .bool c4, .bool c5, .slice A L C] := (k3.set_ 3 (.bool u3)).to rfl
 have k5 : Blk (((((w.setCell ⟨B, 0, none⟩ (.bool u0)).setCell ⟨B, 1, none⟩ (.bool u1)).setCell ⟨B, 2, none⟩ (.bool u2)).setCell ⟨B, 3, none⟩ (.bool u3)).setCell ⟨B, 4, none⟩ (.bool u4)) B T #[.bool u0, .bool u1, .bool u2, .bool u3, .bool u4, .bool c5, .slice A L C] := (k4.set_ 4 (.bool u4)).to rfl
 have k6 : Blk ((((((w.setCell ⟨B, 0, none⟩ (.bool u0)).setCell ⟨B, 1, none⟩ (.bool u1)).setCell ⟨B, 2, none⟩ (.bool u2)).setCell ⟨B, 3, none⟩ (.bool u3)).setCell ⟨B, 4, none⟩ (.bool u4)).setCell ⟨B, 5, none⟩ (.bool u5)) B T #[.bool u0, .bool u1, .bool u2, .bool u3, .bool u4, .bool u5, .slice A L C] := (k5.set_ 5 (.bool u5)).to rfl
 have h1 : NumC (w.setCell ⟨B, 0, none⟩ (.bool u0)) ng a0 l0 q0 Z := NumC.set h (hk.cell 0) (fun _ e => by cases e) _
 have h2 : NumC ((w.setCell ⟨B, 0, none⟩ (.bool u0)).setCell ⟨B, 1, none⟩ (.bool u1)) ng a0 l0 q0 Z := NumC.set h1 (k1.cell 1) (fun _ e => by cases e) _
 have h3 : NumC (((w.setCell ⟨B, 0, none⟩ (.bool u0)).setCell ⟨B, 1, none⟩ (.bool u1)).setCell ⟨B, 2, none⟩ (.bool u2)) ng a0 l0 q0 Z := NumC.set h2 (k2.cell 2) (fun _ e => by cases e) _
 have h4 : NumC ((((w.setCell ⟨B, 0, none⟩ (.bool u0)).setCell ⟨B, 1, none⟩ (.bool u1)).setCell ⟨B, 2, none⟩ (.bool u2)).setCell ⟨B, 3, none⟩ (.bool u3)) ng a0 l0 q0 Z := NumC.set h3 (k3.cell 3) (fun _ e => by cases e) _
 have h5 : NumC (((((w.setCell ⟨B, 0, none⟩ (.bool u0)).setCell ⟨B, 1, none⟩ (.bool u1)).setCell ⟨B, 2, none⟩ (.bool u2)).setCell ⟨B, 3, none⟩ (.bool u3)).setCell ⟨B, 4, none⟩ (.bool u4)) ng a0 l0 q0 Z := NumC.set h4 (k4.cell 4) (fun _ e => by cases e) _
 have h6 : NumC ((((((w.setCell ⟨B, 0, none⟩ (.bool u0)).setCell ⟨B, 1, none⟩ (.bool u1)).setCell ⟨B, 2, none⟩ (.bool u2)).setCell ⟨B, 3, none⟩ (.bool u3)).setCell ⟨B, 4, none⟩ (.bool u4)).setCell ⟨B, 5, none⟩ (.bool u5)) ng a0 l0 q0 Z := NumC.set h5 (k5.cell 5) (fun _ e => by cases e) _
 have h7 : NumC (((((((w.setCell ⟨B, 0, none⟩ (.bool u0)).setCell ⟨B, 1, none⟩ (.bool u1)).setCell ⟨B, 2, none⟩ (.bool u2)).setCell ⟨B, 3, none⟩ (.bool u3)).setCell ⟨B, 4, none⟩ (.bool u4)).setCell ⟨B, 5, none⟩ (.bool u5)).setCell ⟨B, 6, none⟩ (.slice a l c)) ng a0 l0 q0 Z := NumC.set h6 (k6.cell 6) (fun _ e => by cases e) _
 exact h7
end Go.Proofs.YtdbkgpakpadloaaGreat
