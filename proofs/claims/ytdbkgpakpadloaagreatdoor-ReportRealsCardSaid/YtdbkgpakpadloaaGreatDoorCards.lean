/-
  DERIVED. GIVEN WITH THE SEED: THE CARDS: each row of YtdbkgpakpadloaaGreatDoorRows.lean that lists a variable, with what it lists TIED to the program's text (the seventh form; the later family's looks); each row that meets fmt, with fmt's text TOLD by the authors' own Lean function (tested against real Go, not proved from fmt's source: count such statements apart). THE CARD IS WHAT COUNTS. Prove the row's statement (the work); the ties are given (YtdbkgpakpadloaaGreatDoorTie.lean); close each card by the builder's one call (the guide's Derived/Test/ToyasCard.lean, 'card_holds'). Laid BY PROGRAM, IN A SANDBOX (cutbox-door.mjs). By AI agents, Wed Nov 11 2026. No macro, syntax, notation, axiom, sorry.
-/
import Derived.Test.YtdbkgpakpadloaaGreatDoorRows
import GoSem.ClaimSeven
namespace Go.Proofs.YtdbkgpakpadloaaGreatDoor
namespace Rows

/-- THE TIED CARD OF 'bushellaw44.ReportReals'. -/
def reportRealsCard : Claim7 := { stood := { row := reportRealsRow, standIns := [], harness := (true, "828214946919e0039beb9aabe0a2caac6e317ef8b4b05bcf3936dbad95c1b6ad"), looks := true }, kinds := [], alts := [], laidByText := true, laidKinds := [.data, .data, .data, .sentinel, .sentinel], laidTests := true, laidLooks := .later }
def ReportRealsCardSaid : Prop := Claim7.holds Tryz.pinned (.plain (OpenSpec.ofChange reportRealsSpec)) reportRealsCard

/-- THE SECOND FORM's CARD OF 'bushellaw44.ReportReals'. -/
def reportRealsUptoCard : Claim7 := { stood := { row := reportRealsUptoRow, standIns := [], harness := (true, "828214946919e0039beb9aabe0a2caac6e317ef8b4b05bcf3936dbad95c1b6ad"), looks := true }, kinds := [], alts := [], laidByText := true, laidKinds := [.data, .data, .data, .sentinel, .sentinel], laidTests := true, laidLooks := .later }
def ReportRealsUptoCardSaid : Prop := Claim7.holds Tryz.pinned (.plain (OpenSpec.upto reportRealsSpec)) reportRealsUptoCard
end Rows
end Go.Proofs.YtdbkgpakpadloaaGreatDoor
