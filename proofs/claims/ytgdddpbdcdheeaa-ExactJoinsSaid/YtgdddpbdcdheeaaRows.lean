/-
  No cell of these rows narrows 'for every input' (looked for: loops, veiled, ifaces, maps, wideKeys, modest, calm, conditions, laid).
  DERIVED. THE GIVEN ROWS OF THIS SEAT. 9 by the template 'for every input the law returns true; each argument reads behind the call as it read before'; 0 by the template 'total and deterministic' (their statements: YtgdddpbdcdheeaaTotals.lean).
  GIVEN WITH THE SEED: the statements are not yours to turn. If you find one false, say at which input.
  Laid BY PROGRAM, IN A SANDBOX (cutbox-rows.mjs): the forced cells as the released guide's own fill.sh prints them over the translation 7a17f0ab008a0b98… (all of the seat's roots in one cut). By AI agents, Wed Nov 11 2026. No macro, syntax, notation, axiom, sorry.
-/
import Derived.Test.YtgdddpbdcdheeaaChecked
import GoSem.Claim
import GoSem.ClaimJoined
import GoSem.ClaimMapViews
import Derived.JoinedTies
import Derived.KernelRfl
namespace Go.Proofs.Ytgdddpbdcdheeaa
/- THE CELL 'sum', in the pinned program and in every row, IS THE sha256 OF THE DUMP (.gsa) THAT YtgdddpbdcdheeaaProg.lean LOADS. Nothing in Lean hashes anything: it is a label: what it is worth is what the hold of that sum in a sandbox is worth. -/
noncomputable def Try.pinned : Pinned := { name := "ytgdddpbdcdheeaa", sum := "7a17f0ab008a0b98ff4c79f5f4e77939d5086c368546508f5f5f48530abb19cb", checked := Try.checked }
namespace Rows
def none {H : Type} : Left H := { results := [], args := [] }

/-- 'bushellaw05.ExactSums': WHATEVER THE INPUT: true; the input reads as it did. -/
def exactSumsSpec : ChangeSpec := { name := "exactSums", fn := fun _ => fun
  | [d] => { results := [.lit (.bool true)], args := [d] }
  | _ => none }
def exactSumsRow : OpenClaim := { program := "ytgdddpbdcdheeaa", sum := "7a17f0ab008a0b98ff4c79f5f4e77939d5086c368546508f5f5f48530abb19cb", func := "bushel/bushellaw05.ExactSums", spec := "exactSums", inPlace := ["math.Float64bits", "math.Float64frombits"], recurses := true, apart := false }
def ExactSumsSaid : Prop := exactSumsRow.holds Try.pinned (OpenSpec.ofChange exactSumsSpec)

/-- ITS FALSE NEIGHBOUR: 'it returns false'. Refute it at one input. -/
def exactSumsWrong : ChangeSpec := { name := "exactSums", fn := fun _ => fun
  | [d] => { results := [.lit (.bool false)], args := [d] }
  | _ => none }
def ExactSumsWrongFalsely : Prop := exactSumsRow.holds Try.pinned (OpenSpec.ofChange exactSumsWrong)

/-- 'bushellaw05.ExactOrders': WHATEVER THE INPUT: true; the input reads as it did. -/
def exactOrdersSpec : ChangeSpec := { name := "exactOrders", fn := fun _ => fun
  | [d1, d2] => { results := [.lit (.bool true)], args := [d1, d2] }
  | _ => none }
def exactOrdersRow : OpenClaim := { program := "ytgdddpbdcdheeaa", sum := "7a17f0ab008a0b98ff4c79f5f4e77939d5086c368546508f5f5f48530abb19cb", func := "bushel/bushellaw05.ExactOrders", spec := "exactOrders", inPlace := ["math.Float64bits", "math.Float64frombits"], apart := false }
def ExactOrdersSaid : Prop := exactOrdersRow.holds Try.pinned (OpenSpec.ofChange exactOrdersSpec)

/-- ITS FALSE NEIGHBOUR: 'it returns false'. Refute it at one input. -/
def exactOrdersWrong : ChangeSpec := { name := "exactOrders", fn := fun _ => fun
  | [d1, d2] => { results := [.lit (.bool false)], args := [d1, d2] }
  | _ => none }
def ExactOrdersWrongFalsely : Prop := exactOrdersRow.holds Try.pinned (OpenSpec.ofChange exactOrdersWrong)

/-- 'bushellaw05.ExactReads': WHATEVER THE INPUT: true; the input reads as it did. -/
def exactReadsSpec : ChangeSpec := { name := "exactReads", fn := fun _ => fun
  | [d] => { results := [.lit (.bool true)], args := [d] }
  | _ => none }
def exactReadsRow : OpenClaim := { program := "ytgdddpbdcdheeaa", sum := "7a17f0ab008a0b98ff4c79f5f4e77939d5086c368546508f5f5f48530abb19cb", func := "bushel/bushellaw05.ExactReads", spec := "exactReads", inPlace := ["math.Float64bits", "math.Float64frombits"], recurses := true, apart := false }
def ExactReadsSaid : Prop := exactReadsRow.holds Try.pinned (OpenSpec.ofChange exactReadsSpec)

/-- ITS FALSE NEIGHBOUR: 'it returns false'. Refute it at one input. -/
def exactReadsWrong : ChangeSpec := { name := "exactReads", fn := fun _ => fun
  | [d] => { results := [.lit (.bool false)], args := [d] }
  | _ => none }
def ExactReadsWrongFalsely : Prop := exactReadsRow.holds Try.pinned (OpenSpec.ofChange exactReadsWrong)

/-- 'bushellaw05.ExactJoins': WHATEVER THE INPUT: true; the input reads as it did. -/
def exactJoinsSpec : ChangeSpec := { name := "exactJoins", fn := fun _ => fun
  | [d1, d2, d3] => { results := [.lit (.bool true)], args := [d1, d2, d3] }
  | _ => none }
def exactJoinsRow : OpenClaim := { program := "ytgdddpbdcdheeaa", sum := "7a17f0ab008a0b98ff4c79f5f4e77939d5086c368546508f5f5f48530abb19cb", func := "bushel/bushellaw05.ExactJoins", spec := "exactJoins", inPlace := ["math.Float64bits", "math.Float64frombits"], recurses := true, apart := false }
def ExactJoinsSaid : Prop := exactJoinsRow.holds Try.pinned (OpenSpec.ofChange exactJoinsSpec)

/-- ITS FALSE NEIGHBOUR: 'it returns false'. Refute it at one input. -/
def exactJoinsWrong : ChangeSpec := { name := "exactJoins", fn := fun _ => fun
  | [d1, d2, d3] => { results := [.lit (.bool false)], args := [d1, d2, d3] }
  | _ => none }
def ExactJoinsWrongFalsely : Prop := exactJoinsRow.holds Try.pinned (OpenSpec.ofChange exactJoinsWrong)

/-- 'bushellaw04.RatioRoots': WHATEVER THE INPUT: true; the input reads as it did. -/
def ratioRootsSpec : ChangeSpec := { name := "ratioRoots", fn := fun _ => fun
  | [d1, d2] => { results := [.lit (.bool true)], args := [d1, d2] }
  | _ => none }
def ratioRootsRow : OpenClaim := { program := "ytgdddpbdcdheeaa", sum := "7a17f0ab008a0b98ff4c79f5f4e77939d5086c368546508f5f5f48530abb19cb", func := "bushel/bushellaw04.RatioRoots", spec := "ratioRoots", inPlace := ["math.Float64frombits", "math.Float64bits"], recurses := true, apart := false }
def RatioRootsSaid : Prop := ratioRootsRow.holds Try.pinned (OpenSpec.ofChange ratioRootsSpec)

/-- ITS FALSE NEIGHBOUR: 'it returns false'. Refute it at one input. -/
def ratioRootsWrong : ChangeSpec := { name := "ratioRoots", fn := fun _ => fun
  | [d1, d2] => { results := [.lit (.bool false)], args := [d1, d2] }
  | _ => none }
def RatioRootsWrongFalsely : Prop := ratioRootsRow.holds Try.pinned (OpenSpec.ofChange ratioRootsWrong)

/-- 'bushellaw04.RatioMeans': WHATEVER THE INPUT: true; the input reads as it did. -/
def ratioMeansSpec : ChangeSpec := { name := "ratioMeans", fn := fun _ => fun
  | [d1, d2, d3] => { results := [.lit (.bool true)], args := [d1, d2, d3] }
  | _ => none }
def ratioMeansRow : OpenClaim := { program := "ytgdddpbdcdheeaa", sum := "7a17f0ab008a0b98ff4c79f5f4e77939d5086c368546508f5f5f48530abb19cb", func := "bushel/bushellaw04.RatioMeans", spec := "ratioMeans", inPlace := ["math.Float64frombits", "math.Float64bits"], recurses := true, apart := false }
def RatioMeansSaid : Prop := ratioMeansRow.holds Try.pinned (OpenSpec.ofChange ratioMeansSpec)

/-- ITS FALSE NEIGHBOUR: 'it returns false'. Refute it at one input. -/
def ratioMeansWrong : ChangeSpec := { name := "ratioMeans", fn := fun _ => fun
  | [d1, d2, d3] => { results := [.lit (.bool false)], args := [d1, d2, d3] }
  | _ => none }
def RatioMeansWrongFalsely : Prop := ratioMeansRow.holds Try.pinned (OpenSpec.ofChange ratioMeansWrong)

/-- 'bushellaw04.RatioBetween': WHATEVER THE INPUT: true; the input reads as it did. -/
def ratioBetweenSpec : ChangeSpec := { name := "ratioBetween", fn := fun _ => fun
  | [d] => { results := [.lit (.bool true)], args := [d] }
  | _ => none }
def ratioBetweenRow : OpenClaim := { program := "ytgdddpbdcdheeaa", sum := "7a17f0ab008a0b98ff4c79f5f4e77939d5086c368546508f5f5f48530abb19cb", func := "bushel/bushellaw04.RatioBetween", spec := "ratioBetween", inPlace := ["math.Float64frombits", "math.Float64bits"], apart := false }
def RatioBetweenSaid : Prop := ratioBetweenRow.holds Try.pinned (OpenSpec.ofChange ratioBetweenSpec)

/-- ITS FALSE NEIGHBOUR: 'it returns false'. Refute it at one input. -/
def ratioBetweenWrong : ChangeSpec := { name := "ratioBetween", fn := fun _ => fun
  | [d] => { results := [.lit (.bool false)], args := [d] }
  | _ => none }
def RatioBetweenWrongFalsely : Prop := ratioBetweenRow.holds Try.pinned (OpenSpec.ofChange ratioBetweenWrong)

/-- 'bushellaw05.ExactMeans': WHATEVER THE INPUT: true; the input reads as it did. -/
def exactMeansSpec : ChangeSpec := { name := "exactMeans", fn := fun _ => fun
  | [d1, d2] => { results := [.lit (.bool true)], args := [d1, d2] }
  | _ => none }
def exactMeansRow : OpenClaim := { program := "ytgdddpbdcdheeaa", sum := "7a17f0ab008a0b98ff4c79f5f4e77939d5086c368546508f5f5f48530abb19cb", func := "bushel/bushellaw05.ExactMeans", spec := "exactMeans", inPlace := ["math.Float64bits", "math.Float64frombits"], recurses := true, apart := false }
def ExactMeansSaid : Prop := exactMeansRow.holds Try.pinned (OpenSpec.ofChange exactMeansSpec)

/-- ITS FALSE NEIGHBOUR: 'it returns false'. Refute it at one input. -/
def exactMeansWrong : ChangeSpec := { name := "exactMeans", fn := fun _ => fun
  | [d1, d2] => { results := [.lit (.bool false)], args := [d1, d2] }
  | _ => none }
def ExactMeansWrongFalsely : Prop := exactMeansRow.holds Try.pinned (OpenSpec.ofChange exactMeansWrong)

/-- 'bushellaw05.ExactNobody': WHATEVER THE INPUT: true; the input reads as it did. -/
def exactNobodySpec : ChangeSpec := { name := "exactNobody", fn := fun _ => fun
  | [d] => { results := [.lit (.bool true)], args := [d] }
  | _ => none }
def exactNobodyRow : OpenClaim := { program := "ytgdddpbdcdheeaa", sum := "7a17f0ab008a0b98ff4c79f5f4e77939d5086c368546508f5f5f48530abb19cb", func := "bushel/bushellaw05.ExactNobody", spec := "exactNobody", inPlace := ["math.Float64bits", "math.Float64frombits"], apart := false }
def ExactNobodySaid : Prop := exactNobodyRow.holds Try.pinned (OpenSpec.ofChange exactNobodySpec)

/-- ITS FALSE NEIGHBOUR: 'it returns false'. Refute it at one input. -/
def exactNobodyWrong : ChangeSpec := { name := "exactNobody", fn := fun _ => fun
  | [d] => { results := [.lit (.bool false)], args := [d] }
  | _ => none }
def ExactNobodyWrongFalsely : Prop := exactNobodyRow.holds Try.pinned (OpenSpec.ofChange exactNobodyWrong)

/- THE SECOND FORM. 'bulk': how many values and letters a reading holds, each counted each time it is reached (what is shared counts as often as it is met; a slice's spare places count too). A statement '..UptoSaid' is the law's where the arguments, and the package variables that the reading takes, are together of bulk at most 1048576: NARROWER than '..Said'. Prove '..Said' where nothing that the law and all that it calls make is longer than what came in: it says more and counts as full. Else prove '..UptoSaid'. A law counts once. -/
mutual
def uptoBulk {H : Type} : DataW H → Nat
  | .lit (.string bytes) => bytes.length + 1
  | .lit _ => 1
  | .nil => 1
  | .ptr d => uptoBulk d + 1
  | .slice elems spare => uptoBulkAll elems + uptoBulkAll spare + 1
  | .agg parts => uptoBulkAll parts + 1
  | .iface _ d => uptoBulk d + 1
  | .map entries => uptoBulkEntries entries + 1
  | .held _ => 1
def uptoBulkAll {H : Type} : List (DataW H) → Nat
  | [] => 0
  | d :: r => uptoBulk d + uptoBulkAll r
def uptoBulkEntries {H : Type} : List (Lit × DataW H) → Nat
  | [] => 0
  | x :: r => uptoBulkEntry x + uptoBulkEntries r
def uptoBulkEntry {H : Type} : Lit × DataW H → Nat
  | (.string bytes, d) => bytes.length + uptoBulk d + 1
  | (_, d) => uptoBulk d + 1
 end
def uptoSmall : (H : Type) → List (DataW H) → Bool := fun _ ds => decide (uptoBulkAll ds ≤ 1048576)
def OpenSpec.upto (s : _root_.Go.ChangeSpec) : _root_.Go.OpenSpec := { _root_.Go.OpenSpec.ofChange s with cond := some uptoSmall }

/-- 'bushellaw05.ExactSums', WHERE WHAT IT READS IS OF BULK AT MOST 1048576: true; the input reads as it did. -/
def exactSumsUptoRow : OpenClaim := { program := "ytgdddpbdcdheeaa", sum := "7a17f0ab008a0b98ff4c79f5f4e77939d5086c368546508f5f5f48530abb19cb", func := "bushel/bushellaw05.ExactSums", spec := "exactSums", inPlace := ["math.Float64bits", "math.Float64frombits"], recurses := true, apart := false, narrowed := true }
def ExactSumsUptoSaid : Prop := exactSumsUptoRow.holds Try.pinned (OpenSpec.upto exactSumsSpec)

/-- 'bushellaw05.ExactOrders', WHERE WHAT IT READS IS OF BULK AT MOST 1048576: true; the input reads as it did. -/
def exactOrdersUptoRow : OpenClaim := { program := "ytgdddpbdcdheeaa", sum := "7a17f0ab008a0b98ff4c79f5f4e77939d5086c368546508f5f5f48530abb19cb", func := "bushel/bushellaw05.ExactOrders", spec := "exactOrders", inPlace := ["math.Float64bits", "math.Float64frombits"], apart := false, narrowed := true }
def ExactOrdersUptoSaid : Prop := exactOrdersUptoRow.holds Try.pinned (OpenSpec.upto exactOrdersSpec)

/-- 'bushellaw05.ExactReads', WHERE WHAT IT READS IS OF BULK AT MOST 1048576: true; the input reads as it did. -/
def exactReadsUptoRow : OpenClaim := { program := "ytgdddpbdcdheeaa", sum := "7a17f0ab008a0b98ff4c79f5f4e77939d5086c368546508f5f5f48530abb19cb", func := "bushel/bushellaw05.ExactReads", spec := "exactReads", inPlace := ["math.Float64bits", "math.Float64frombits"], recurses := true, apart := false, narrowed := true }
def ExactReadsUptoSaid : Prop := exactReadsUptoRow.holds Try.pinned (OpenSpec.upto exactReadsSpec)

/-- 'bushellaw05.ExactJoins', WHERE WHAT IT READS IS OF BULK AT MOST 1048576: true; the input reads as it did. -/
def exactJoinsUptoRow : OpenClaim := { program := "ytgdddpbdcdheeaa", sum := "7a17f0ab008a0b98ff4c79f5f4e77939d5086c368546508f5f5f48530abb19cb", func := "bushel/bushellaw05.ExactJoins", spec := "exactJoins", inPlace := ["math.Float64bits", "math.Float64frombits"], recurses := true, apart := false, narrowed := true }
def ExactJoinsUptoSaid : Prop := exactJoinsUptoRow.holds Try.pinned (OpenSpec.upto exactJoinsSpec)

/-- 'bushellaw04.RatioRoots', WHERE WHAT IT READS IS OF BULK AT MOST 1048576: true; the input reads as it did. -/
def ratioRootsUptoRow : OpenClaim := { program := "ytgdddpbdcdheeaa", sum := "7a17f0ab008a0b98ff4c79f5f4e77939d5086c368546508f5f5f48530abb19cb", func := "bushel/bushellaw04.RatioRoots", spec := "ratioRoots", inPlace := ["math.Float64frombits", "math.Float64bits"], recurses := true, apart := false, narrowed := true }
def RatioRootsUptoSaid : Prop := ratioRootsUptoRow.holds Try.pinned (OpenSpec.upto ratioRootsSpec)

/-- 'bushellaw04.RatioMeans', WHERE WHAT IT READS IS OF BULK AT MOST 1048576: true; the input reads as it did. -/
def ratioMeansUptoRow : OpenClaim := { program := "ytgdddpbdcdheeaa", sum := "7a17f0ab008a0b98ff4c79f5f4e77939d5086c368546508f5f5f48530abb19cb", func := "bushel/bushellaw04.RatioMeans", spec := "ratioMeans", inPlace := ["math.Float64frombits", "math.Float64bits"], recurses := true, apart := false, narrowed := true }
def RatioMeansUptoSaid : Prop := ratioMeansUptoRow.holds Try.pinned (OpenSpec.upto ratioMeansSpec)

/-- 'bushellaw04.RatioBetween', WHERE WHAT IT READS IS OF BULK AT MOST 1048576: true; the input reads as it did. -/
def ratioBetweenUptoRow : OpenClaim := { program := "ytgdddpbdcdheeaa", sum := "7a17f0ab008a0b98ff4c79f5f4e77939d5086c368546508f5f5f48530abb19cb", func := "bushel/bushellaw04.RatioBetween", spec := "ratioBetween", inPlace := ["math.Float64frombits", "math.Float64bits"], apart := false, narrowed := true }
def RatioBetweenUptoSaid : Prop := ratioBetweenUptoRow.holds Try.pinned (OpenSpec.upto ratioBetweenSpec)

/-- 'bushellaw05.ExactMeans', WHERE WHAT IT READS IS OF BULK AT MOST 1048576: true; the input reads as it did. -/
def exactMeansUptoRow : OpenClaim := { program := "ytgdddpbdcdheeaa", sum := "7a17f0ab008a0b98ff4c79f5f4e77939d5086c368546508f5f5f48530abb19cb", func := "bushel/bushellaw05.ExactMeans", spec := "exactMeans", inPlace := ["math.Float64bits", "math.Float64frombits"], recurses := true, apart := false, narrowed := true }
def ExactMeansUptoSaid : Prop := exactMeansUptoRow.holds Try.pinned (OpenSpec.upto exactMeansSpec)

/-- 'bushellaw05.ExactNobody', WHERE WHAT IT READS IS OF BULK AT MOST 1048576: true; the input reads as it did. -/
def exactNobodyUptoRow : OpenClaim := { program := "ytgdddpbdcdheeaa", sum := "7a17f0ab008a0b98ff4c79f5f4e77939d5086c368546508f5f5f48530abb19cb", func := "bushel/bushellaw05.ExactNobody", spec := "exactNobody", inPlace := ["math.Float64bits", "math.Float64frombits"], apart := false, narrowed := true }
def ExactNobodyUptoSaid : Prop := exactNobodyUptoRow.holds Try.pinned (OpenSpec.upto exactNobodySpec)

end Rows
end Go.Proofs.Ytgdddpbdcdheeaa
