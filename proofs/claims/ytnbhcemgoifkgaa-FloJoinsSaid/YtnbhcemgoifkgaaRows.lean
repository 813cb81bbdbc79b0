/-
  No cell of these rows narrows 'for every input' (looked for: loops, veiled, ifaces, maps, wideKeys, modest, calm, conditions, laid).
  DERIVED. THE GIVEN ROWS OF THIS SEAT. 12 by the template 'for every input the law returns true; each argument reads behind the call as it read before'; 0 by the template 'total and deterministic' (their statements: YtnbhcemgoifkgaaTotals.lean).
  GIVEN WITH THE SEED: the statements are not yours to turn. If you find one false, say at which input.
  Laid BY PROGRAM, IN A SANDBOX (cutbox-rows.mjs): the forced cells as the released guide's own fill.sh prints them over the translation 91a51aa07a90e4b2… (all of the seat's roots in one cut). By AI agents, Wed Nov 11 2026. No macro, syntax, notation, axiom, sorry.
-/
import Derived.Test.YtnbhcemgoifkgaaChecked
import GoSem.Claim
import GoSem.ClaimJoined
import GoSem.ClaimMapViews
import Derived.JoinedTies
import Derived.KernelRfl
namespace Go.Proofs.Ytnbhcemgoifkgaa
/- THE CELL 'sum', in the pinned program and in every row, IS THE sha256 OF THE DUMP (.gsa) THAT YtnbhcemgoifkgaaProg.lean LOADS. Nothing in Lean hashes anything: it is a label: what it is worth is what the hold of that sum in a sandbox is worth. -/
noncomputable def Try.pinned : Pinned := { name := "ytnbhcemgoifkgaa", sum := "91a51aa07a90e4b2ffb737e18440d4858183c3a2eda11232b36846e43e03536a", checked := Try.checked }
namespace Rows
def none {H : Type} : Left H := { results := [], args := [] }

/-- 'bushellaw02.NatDivides': WHATEVER THE INPUT: true; the input reads as it did. -/
def natDividesSpec : ChangeSpec := { name := "natDivides", fn := fun _ => fun
  | [d1, d2] => { results := [.lit (.bool true)], args := [d1, d2] }
  | _ => none }
def natDividesRow : OpenClaim := { program := "ytnbhcemgoifkgaa", sum := "91a51aa07a90e4b2ffb737e18440d4858183c3a2eda11232b36846e43e03536a", func := "bushel/bushellaw02.NatDivides", spec := "natDivides", apart := false }
def NatDividesSaid : Prop := natDividesRow.holds Try.pinned (OpenSpec.ofChange natDividesSpec)

/-- ITS FALSE NEIGHBOUR: 'it returns false'. Refute it at one input. -/
def natDividesWrong : ChangeSpec := { name := "natDivides", fn := fun _ => fun
  | [d1, d2] => { results := [.lit (.bool false)], args := [d1, d2] }
  | _ => none }
def NatDividesWrongFalsely : Prop := natDividesRow.holds Try.pinned (OpenSpec.ofChange natDividesWrong)

/-- 'bushellaw02.NatBack': WHATEVER THE INPUT: true; the input reads as it did. -/
def natBackSpec : ChangeSpec := { name := "natBack", fn := fun _ => fun
  | [d1, d2] => { results := [.lit (.bool true)], args := [d1, d2] }
  | _ => none }
def natBackRow : OpenClaim := { program := "ytnbhcemgoifkgaa", sum := "91a51aa07a90e4b2ffb737e18440d4858183c3a2eda11232b36846e43e03536a", func := "bushel/bushellaw02.NatBack", spec := "natBack", apart := false }
def NatBackSaid : Prop := natBackRow.holds Try.pinned (OpenSpec.ofChange natBackSpec)

/-- ITS FALSE NEIGHBOUR: 'it returns false'. Refute it at one input. -/
def natBackWrong : ChangeSpec := { name := "natBack", fn := fun _ => fun
  | [d1, d2] => { results := [.lit (.bool false)], args := [d1, d2] }
  | _ => none }
def NatBackWrongFalsely : Prop := natBackRow.holds Try.pinned (OpenSpec.ofChange natBackWrong)

/-- 'bushellaw02.NatRoots': WHATEVER THE INPUT: true; the input reads as it did. -/
def natRootsSpec : ChangeSpec := { name := "natRoots", fn := fun _ => fun
  | [d] => { results := [.lit (.bool true)], args := [d] }
  | _ => none }
def natRootsRow : OpenClaim := { program := "ytnbhcemgoifkgaa", sum := "91a51aa07a90e4b2ffb737e18440d4858183c3a2eda11232b36846e43e03536a", func := "bushel/bushellaw02.NatRoots", spec := "natRoots", apart := false }
def NatRootsSaid : Prop := natRootsRow.holds Try.pinned (OpenSpec.ofChange natRootsSpec)

/-- ITS FALSE NEIGHBOUR: 'it returns false'. Refute it at one input. -/
def natRootsWrong : ChangeSpec := { name := "natRoots", fn := fun _ => fun
  | [d] => { results := [.lit (.bool false)], args := [d] }
  | _ => none }
def NatRootsWrongFalsely : Prop := natRootsRow.holds Try.pinned (OpenSpec.ofChange natRootsWrong)

/-- 'bushellaw02.NatTexts': WHATEVER THE INPUT: true; the input reads as it did. -/
def natTextsSpec : ChangeSpec := { name := "natTexts", fn := fun _ => fun
  | [d1, d2] => { results := [.lit (.bool true)], args := [d1, d2] }
  | _ => none }
def natTextsRow : OpenClaim := { program := "ytnbhcemgoifkgaa", sum := "91a51aa07a90e4b2ffb737e18440d4858183c3a2eda11232b36846e43e03536a", func := "bushel/bushellaw02.NatTexts", spec := "natTexts", apart := false }
def NatTextsSaid : Prop := natTextsRow.holds Try.pinned (OpenSpec.ofChange natTextsSpec)

/-- ITS FALSE NEIGHBOUR: 'it returns false'. Refute it at one input. -/
def natTextsWrong : ChangeSpec := { name := "natTexts", fn := fun _ => fun
  | [d1, d2] => { results := [.lit (.bool false)], args := [d1, d2] }
  | _ => none }
def NatTextsWrongFalsely : Prop := natTextsRow.holds Try.pinned (OpenSpec.ofChange natTextsWrong)

/-- 'bushellaw02.NatShifts': WHATEVER THE INPUT: true; the input reads as it did. -/
def natShiftsSpec : ChangeSpec := { name := "natShifts", fn := fun _ => fun
  | [d1, d2] => { results := [.lit (.bool true)], args := [d1, d2] }
  | _ => none }
def natShiftsRow : OpenClaim := { program := "ytnbhcemgoifkgaa", sum := "91a51aa07a90e4b2ffb737e18440d4858183c3a2eda11232b36846e43e03536a", func := "bushel/bushellaw02.NatShifts", spec := "natShifts", recurses := true, apart := false }
def NatShiftsSaid : Prop := natShiftsRow.holds Try.pinned (OpenSpec.ofChange natShiftsSpec)

/-- ITS FALSE NEIGHBOUR: 'it returns false'. Refute it at one input. -/
def natShiftsWrong : ChangeSpec := { name := "natShifts", fn := fun _ => fun
  | [d1, d2] => { results := [.lit (.bool false)], args := [d1, d2] }
  | _ => none }
def NatShiftsWrongFalsely : Prop := natShiftsRow.holds Try.pinned (OpenSpec.ofChange natShiftsWrong)

/-- 'bushellaw02.NatTells': WHATEVER THE INPUT: true; the input reads as it did. -/
def natTellsSpec : ChangeSpec := { name := "natTells", fn := fun _ => fun
  | [d1, d2, d3] => { results := [.lit (.bool true)], args := [d1, d2, d3] }
  | _ => none }
def natTellsRow : OpenClaim := { program := "ytnbhcemgoifkgaa", sum := "91a51aa07a90e4b2ffb737e18440d4858183c3a2eda11232b36846e43e03536a", func := "bushel/bushellaw02.NatTells", spec := "natTells", recurses := true, apart := false }
def NatTellsSaid : Prop := natTellsRow.holds Try.pinned (OpenSpec.ofChange natTellsSpec)

/-- ITS FALSE NEIGHBOUR: 'it returns false'. Refute it at one input. -/
def natTellsWrong : ChangeSpec := { name := "natTells", fn := fun _ => fun
  | [d1, d2, d3] => { results := [.lit (.bool false)], args := [d1, d2, d3] }
  | _ => none }
def NatTellsWrongFalsely : Prop := natTellsRow.holds Try.pinned (OpenSpec.ofChange natTellsWrong)

/-- 'bushellaw02.NatSums': WHATEVER THE INPUT: true; the input reads as it did. -/
def natSumsSpec : ChangeSpec := { name := "natSums", fn := fun _ => fun
  | [d1, d2] => { results := [.lit (.bool true)], args := [d1, d2] }
  | _ => none }
def natSumsRow : OpenClaim := { program := "ytnbhcemgoifkgaa", sum := "91a51aa07a90e4b2ffb737e18440d4858183c3a2eda11232b36846e43e03536a", func := "bushel/bushellaw02.NatSums", spec := "natSums", apart := false }
def NatSumsSaid : Prop := natSumsRow.holds Try.pinned (OpenSpec.ofChange natSumsSpec)

/-- ITS FALSE NEIGHBOUR: 'it returns false'. Refute it at one input. -/
def natSumsWrong : ChangeSpec := { name := "natSums", fn := fun _ => fun
  | [d1, d2] => { results := [.lit (.bool false)], args := [d1, d2] }
  | _ => none }
def NatSumsWrongFalsely : Prop := natSumsRow.holds Try.pinned (OpenSpec.ofChange natSumsWrong)

/-- 'bushellaw03.FloTells': WHATEVER THE INPUT: true; the input reads as it did. -/
def floTellsSpec : ChangeSpec := { name := "floTells", fn := fun _ => fun
  | [d] => { results := [.lit (.bool true)], args := [d] }
  | _ => none }
def floTellsRow : OpenClaim := { program := "ytnbhcemgoifkgaa", sum := "91a51aa07a90e4b2ffb737e18440d4858183c3a2eda11232b36846e43e03536a", func := "bushel/bushellaw03.FloTells", spec := "floTells", inPlace := ["math.Float64bits", "math.Float64frombits"], apart := false }
def FloTellsSaid : Prop := floTellsRow.holds Try.pinned (OpenSpec.ofChange floTellsSpec)

/-- ITS FALSE NEIGHBOUR: 'it returns false'. Refute it at one input. -/
def floTellsWrong : ChangeSpec := { name := "floTells", fn := fun _ => fun
  | [d] => { results := [.lit (.bool false)], args := [d] }
  | _ => none }
def FloTellsWrongFalsely : Prop := floTellsRow.holds Try.pinned (OpenSpec.ofChange floTellsWrong)

/-- 'bushellaw03.FloJoins': WHATEVER THE INPUT: true; the input reads as it did. -/
def floJoinsSpec : ChangeSpec := { name := "floJoins", fn := fun _ => fun
  | [d1, d2, d3] => { results := [.lit (.bool true)], args := [d1, d2, d3] }
  | _ => none }
def floJoinsRow : OpenClaim := { program := "ytnbhcemgoifkgaa", sum := "91a51aa07a90e4b2ffb737e18440d4858183c3a2eda11232b36846e43e03536a", func := "bushel/bushellaw03.FloJoins", spec := "floJoins", inPlace := ["math.Float64bits", "math.Float64frombits"], recurses := true, apart := false }
def FloJoinsSaid : Prop := floJoinsRow.holds Try.pinned (OpenSpec.ofChange floJoinsSpec)

/-- ITS FALSE NEIGHBOUR: 'it returns false'. Refute it at one input. -/
def floJoinsWrong : ChangeSpec := { name := "floJoins", fn := fun _ => fun
  | [d1, d2, d3] => { results := [.lit (.bool false)], args := [d1, d2, d3] }
  | _ => none }
def FloJoinsWrongFalsely : Prop := floJoinsRow.holds Try.pinned (OpenSpec.ofChange floJoinsWrong)

/-- 'bushellaw03.FloKeys': WHATEVER THE INPUT: true; the input reads as it did. -/
def floKeysSpec : ChangeSpec := { name := "floKeys", fn := fun _ => fun
  | [d1, d2, d3] => { results := [.lit (.bool true)], args := [d1, d2, d3] }
  | _ => none }
def floKeysRow : OpenClaim := { program := "ytnbhcemgoifkgaa", sum := "91a51aa07a90e4b2ffb737e18440d4858183c3a2eda11232b36846e43e03536a", func := "bushel/bushellaw03.FloKeys", spec := "floKeys", inPlace := ["math.Float64frombits", "math.Float64bits"], apart := false }
def FloKeysSaid : Prop := floKeysRow.holds Try.pinned (OpenSpec.ofChange floKeysSpec)

/-- ITS FALSE NEIGHBOUR: 'it returns false'. Refute it at one input. -/
def floKeysWrong : ChangeSpec := { name := "floKeys", fn := fun _ => fun
  | [d1, d2, d3] => { results := [.lit (.bool false)], args := [d1, d2, d3] }
  | _ => none }
def FloKeysWrongFalsely : Prop := floKeysRow.holds Try.pinned (OpenSpec.ofChange floKeysWrong)

/-- 'bushellaw03.FloSteps': WHATEVER THE INPUT: true; the input reads as it did. -/
def floStepsSpec : ChangeSpec := { name := "floSteps", fn := fun _ => fun
  | [d1, d2] => { results := [.lit (.bool true)], args := [d1, d2] }
  | _ => none }
def floStepsRow : OpenClaim := { program := "ytnbhcemgoifkgaa", sum := "91a51aa07a90e4b2ffb737e18440d4858183c3a2eda11232b36846e43e03536a", func := "bushel/bushellaw03.FloSteps", spec := "floSteps", inPlace := ["math.Float64bits", "math.Float64frombits"], apart := false }
def FloStepsSaid : Prop := floStepsRow.holds Try.pinned (OpenSpec.ofChange floStepsSpec)

/-- ITS FALSE NEIGHBOUR: 'it returns false'. Refute it at one input. -/
def floStepsWrong : ChangeSpec := { name := "floSteps", fn := fun _ => fun
  | [d1, d2] => { results := [.lit (.bool false)], args := [d1, d2] }
  | _ => none }
def FloStepsWrongFalsely : Prop := floStepsRow.holds Try.pinned (OpenSpec.ofChange floStepsWrong)

/-- 'bushellaw03.FloOrders': WHATEVER THE INPUT: true; the input reads as it did. -/
def floOrdersSpec : ChangeSpec := { name := "floOrders", fn := fun _ => fun
  | [d1, d2] => { results := [.lit (.bool true)], args := [d1, d2] }
  | _ => none }
def floOrdersRow : OpenClaim := { program := "ytnbhcemgoifkgaa", sum := "91a51aa07a90e4b2ffb737e18440d4858183c3a2eda11232b36846e43e03536a", func := "bushel/bushellaw03.FloOrders", spec := "floOrders", inPlace := ["math.Float64bits", "math.Float64frombits"], apart := false }
def FloOrdersSaid : Prop := floOrdersRow.holds Try.pinned (OpenSpec.ofChange floOrdersSpec)

/-- ITS FALSE NEIGHBOUR: 'it returns false'. Refute it at one input. -/
def floOrdersWrong : ChangeSpec := { name := "floOrders", fn := fun _ => fun
  | [d1, d2] => { results := [.lit (.bool false)], args := [d1, d2] }
  | _ => none }
def FloOrdersWrongFalsely : Prop := floOrdersRow.holds Try.pinned (OpenSpec.ofChange floOrdersWrong)

/- THE SECOND FORM. 'bulk': how many values and letters a reading holds, each counted each time it is reached (what is shared counts as often as it is met; a slice's spare places count too). A statement '..UptoSaid' is the law's where the arguments, and the package variables that the reading takes, are together of bulk at most 1048576: NARROWER than '..Said'. Prove '..Said' where nothing that the law and all that it calls make is longer than what came in: it says more and counts as full. Else prove '..UptoSaid'. A law counts once. -/
mutual
def uptoBulk {H : Type} : DataW H → Nat
  | .lit (.string bytes) => bytes.length + 1
  | .lit _ => 1
  | .nil => 1
  | .ptr d => uptoBulk d + 1
  | .slice elems spare => uptoBulkAll elems + uptoBulkAll spare + 1
  | .agg parts => uptoBulkAll parts + 1
  | .iface _ d => uptoBulk d + 1
  | .map entries => uptoBulkEntries entries + 1
  | .held _ => 1
def uptoBulkAll {H : Type} : List (DataW H) → Nat
  | [] => 0
  | d :: r => uptoBulk d + uptoBulkAll r
def uptoBulkEntries {H : Type} : List (Lit × DataW H) → Nat
  | [] => 0
  | x :: r => uptoBulkEntry x + uptoBulkEntries r
def uptoBulkEntry {H : Type} : Lit × DataW H → Nat
  | (.string bytes, d) => bytes.length + uptoBulk d + 1
  | (_, d) => uptoBulk d + 1
 end
def uptoSmall : (H : Type) → List (DataW H) → Bool := fun _ ds => decide (uptoBulkAll ds ≤ 1048576)
def OpenSpec.upto (s : _root_.Go.ChangeSpec) : _root_.Go.OpenSpec := { _root_.Go.OpenSpec.ofChange s with cond := some uptoSmall }

/-- 'bushellaw02.NatDivides', WHERE WHAT IT READS IS OF BULK AT MOST 1048576: true; the input reads as it did. -/
def natDividesUptoRow : OpenClaim := { program := "ytnbhcemgoifkgaa", sum := "91a51aa07a90e4b2ffb737e18440d4858183c3a2eda11232b36846e43e03536a", func := "bushel/bushellaw02.NatDivides", spec := "natDivides", apart := false, narrowed := true }
def NatDividesUptoSaid : Prop := natDividesUptoRow.holds Try.pinned (OpenSpec.upto natDividesSpec)

/-- 'bushellaw02.NatBack', WHERE WHAT IT READS IS OF BULK AT MOST 1048576: true; the input reads as it did. -/
def natBackUptoRow : OpenClaim := { program := "ytnbhcemgoifkgaa", sum := "91a51aa07a90e4b2ffb737e18440d4858183c3a2eda11232b36846e43e03536a", func := "bushel/bushellaw02.NatBack", spec := "natBack", apart := false, narrowed := true }
def NatBackUptoSaid : Prop := natBackUptoRow.holds Try.pinned (OpenSpec.upto natBackSpec)

/-- 'bushellaw02.NatRoots', WHERE WHAT IT READS IS OF BULK AT MOST 1048576: true; the input reads as it did. -/
def natRootsUptoRow : OpenClaim := { program := "ytnbhcemgoifkgaa", sum := "91a51aa07a90e4b2ffb737e18440d4858183c3a2eda11232b36846e43e03536a", func := "bushel/bushellaw02.NatRoots", spec := "natRoots", apart := false, narrowed := true }
def NatRootsUptoSaid : Prop := natRootsUptoRow.holds Try.pinned (OpenSpec.upto natRootsSpec)

/-- 'bushellaw02.NatTexts', WHERE WHAT IT READS IS OF BULK AT MOST 1048576: true; the input reads as it did. -/
def natTextsUptoRow : OpenClaim := { program := "ytnbhcemgoifkgaa", sum := "91a51aa07a90e4b2ffb737e18440d4858183c3a2eda11232b36846e43e03536a", func := "bushel/bushellaw02.NatTexts", spec := "natTexts", apart := false, narrowed := true }
def NatTextsUptoSaid : Prop := natTextsUptoRow.holds Try.pinned (OpenSpec.upto natTextsSpec)

/-- 'bushellaw02.NatShifts', WHERE WHAT IT READS IS OF BULK AT MOST 1048576: true; the input reads as it did. -/
def natShiftsUptoRow : OpenClaim := { program := "ytnbhcemgoifkgaa", sum := "91a51aa07a90e4b2ffb737e18440d4858183c3a2eda11232b36846e43e03536a", func := "bushel/bushellaw02.NatShifts", spec := "natShifts", recurses := true, apart := false, narrowed := true }
def NatShiftsUptoSaid : Prop := natShiftsUptoRow.holds Try.pinned (OpenSpec.upto natShiftsSpec)

/-- 'bushellaw02.NatTells', WHERE WHAT IT READS IS OF BULK AT MOST 1048576: true; the input reads as it did. -/
def natTellsUptoRow : OpenClaim := { program := "ytnbhcemgoifkgaa", sum := "91a51aa07a90e4b2ffb737e18440d4858183c3a2eda11232b36846e43e03536a", func := "bushel/bushellaw02.NatTells", spec := "natTells", recurses := true, apart := false, narrowed := true }
def NatTellsUptoSaid : Prop := natTellsUptoRow.holds Try.pinned (OpenSpec.upto natTellsSpec)

/-- 'bushellaw02.NatSums', WHERE WHAT IT READS IS OF BULK AT MOST 1048576: true; the input reads as it did. -/
def natSumsUptoRow : OpenClaim := { program := "ytnbhcemgoifkgaa", sum := "91a51aa07a90e4b2ffb737e18440d4858183c3a2eda11232b36846e43e03536a", func := "bushel/bushellaw02.NatSums", spec := "natSums", apart := false, narrowed := true }
def NatSumsUptoSaid : Prop := natSumsUptoRow.holds Try.pinned (OpenSpec.upto natSumsSpec)

/-- 'bushellaw03.FloTells', WHERE WHAT IT READS IS OF BULK AT MOST 1048576: true; the input reads as it did. -/
def floTellsUptoRow : OpenClaim := { program := "ytnbhcemgoifkgaa", sum := "91a51aa07a90e4b2ffb737e18440d4858183c3a2eda11232b36846e43e03536a", func := "bushel/bushellaw03.FloTells", spec := "floTells", inPlace := ["math.Float64bits", "math.Float64frombits"], apart := false, narrowed := true }
def FloTellsUptoSaid : Prop := floTellsUptoRow.holds Try.pinned (OpenSpec.upto floTellsSpec)

/-- 'bushellaw03.FloJoins', WHERE WHAT IT READS IS OF BULK AT MOST 1048576: true; the input reads as it did. -/
def floJoinsUptoRow : OpenClaim := { program := "ytnbhcemgoifkgaa", sum := "91a51aa07a90e4b2ffb737e18440d4858183c3a2eda11232b36846e43e03536a", func := "bushel/bushellaw03.FloJoins", spec := "floJoins", inPlace := ["math.Float64bits", "math.Float64frombits"], recurses := true, apart := false, narrowed := true }
def FloJoinsUptoSaid : Prop := floJoinsUptoRow.holds Try.pinned (OpenSpec.upto floJoinsSpec)

/-- 'bushellaw03.FloKeys', WHERE WHAT IT READS IS OF BULK AT MOST 1048576: true; the input reads as it did. -/
def floKeysUptoRow : OpenClaim := { program := "ytnbhcemgoifkgaa", sum := "91a51aa07a90e4b2ffb737e18440d4858183c3a2eda11232b36846e43e03536a", func := "bushel/bushellaw03.FloKeys", spec := "floKeys", inPlace := ["math.Float64frombits", "math.Float64bits"], apart := false, narrowed := true }
def FloKeysUptoSaid : Prop := floKeysUptoRow.holds Try.pinned (OpenSpec.upto floKeysSpec)

/-- 'bushellaw03.FloSteps', WHERE WHAT IT READS IS OF BULK AT MOST 1048576: true; the input reads as it did. -/
def floStepsUptoRow : OpenClaim := { program := "ytnbhcemgoifkgaa", sum := "91a51aa07a90e4b2ffb737e18440d4858183c3a2eda11232b36846e43e03536a", func := "bushel/bushellaw03.FloSteps", spec := "floSteps", inPlace := ["math.Float64bits", "math.Float64frombits"], apart := false, narrowed := true }
def FloStepsUptoSaid : Prop := floStepsUptoRow.holds Try.pinned (OpenSpec.upto floStepsSpec)

/-- 'bushellaw03.FloOrders', WHERE WHAT IT READS IS OF BULK AT MOST 1048576: true; the input reads as it did. -/
def floOrdersUptoRow : OpenClaim := { program := "ytnbhcemgoifkgaa", sum := "91a51aa07a90e4b2ffb737e18440d4858183c3a2eda11232b36846e43e03536a", func := "bushel/bushellaw03.FloOrders", spec := "floOrders", inPlace := ["math.Float64bits", "math.Float64frombits"], apart := false, narrowed := true }
def FloOrdersUptoSaid : Prop := floOrdersUptoRow.holds Try.pinned (OpenSpec.upto floOrdersSpec)

end Rows
end Go.Proofs.Ytnbhcemgoifkgaa
