/- The statement ReportRealsSaid and its tied card: the law's Go text answers true for every input, and each argument reads afterwards as it read before. Conditions: none beyond the statement's own. -/
import Derived.Test.YtdbkgpakpadloaaGreatDoorRows
import Derived.Test.YtdbkgpakpadloaaGreatDoorRpJ
import Derived.Test.YtdbkgpakpadloaaGreatDoorTie
import Derived.Test.YtdbkgpakpadloaaGreatDoorCards
import Derived.Below
import Derived.WalkKit
import Derived.ProofKit
import Derived.OpenShut
import Derived.ShutString
import Derived.ChangeOld
import Derived.SliceStrings
import Derived.Laws.Cover2
import Derived.Deep.DeepHandedRow
import Derived.Lib.LaidTab
import Derived.Stop.LaidErr
import Derived.LaidLaws
import Derived.SevenTiedAt
namespace Go.Proofs.YtdbkgpakpadloaaGreatDoor.LawReportReals
open Go.ChangeShapes Go.WideShapes Go.ChangeAt Go.RowKit
open Go.ChangeMaps (open_string shut_string)

theorem own : ownKnob Tryz.prog.godebug = none := by kernel_rfl
theorem laidOut : laidOutB Tryz.prog = true := by kernel_rfl
theorem gT : Tryz.prog.globalNamed "internal/strconv.uint64pow10" = some 4 := by kernel_rfl
theorem gTType : (Tryz.prog.globals[4]?).map (·.type) = some 139 := by kernel_rfl
theorem gER : Tryz.prog.globalNamed "strconv.ErrRange" = some 3 := by kernel_rfl
theorem gERType : (Tryz.prog.globals[3]?).map (·.type) = some 54 := by kernel_rfl
theorem gES : Tryz.prog.globalNamed "strconv.ErrSyntax" = some 2 := by kernel_rfl
theorem gESType : (Tryz.prog.globals[2]?).map (·.type) = some 54 := by kernel_rfl
theorem cellsT : Tryz.prog.cellsOf 139 = 20 := by kernel_rfl
theorem cellsU : Tryz.prog.cellsOf 36 = 1 := by kernel_rfl
theorem cellsE : Tryz.prog.cellsOf 149 = 1 := by kernel_rfl
theorem cellsS : Tryz.prog.cellsOf 9 = 1 := by kernel_rfl
def synS : ByteArray := ⟨#[105, 110, 118, 97, 108, 105, 100, 32, 115, 121, 110, 116, 97, 120]⟩
def rngS : ByteArray := ⟨#[118, 97, 108, 117, 101, 32, 111, 117, 116, 32, 111, 102, 32, 114, 97, 110, 103, 101]⟩
def lits {H : Type} : DataW H → Array Value
  | .agg l => (l.map fun x => match x with
    | .lit (.int k z) => Value.int k z
    | _ => .int .i64 0).toArray
  | _ => #[]
/-- so many blocks has the settled world -/
def low (P : Program) : Nat := (World.holding P default ⟨#[], #[], []⟩).heap.size
def put (cs : Array Value) (o : Obj) : Obj := match o with
  | .cells _ t frozen => .cells cs t frozen
  | o => o
/-- one start that fits: the five variables as their own text lays them -/
def laidWorld (P : Program) (os : Os) : World :=
  let w0 := World.holding P os ⟨#[.cells #[.string synS] 149, .cells #[.string rngS] 149], #[], []⟩
  { w0 with heap := ((((w0.heap.modify 2 (put #[.iface 147 (.pointer (some ⟨low P, 0, none⟩))])).modify 3 (put #[.iface 147 (.pointer (some ⟨low P + 1, 0, none⟩))])).modify 4 (put (lits (H := _root_.Unit) Rows.laid_internal_strconv_uint64pow10))).modify 5 (put (lits (H := _root_.Unit) Rows.laid_math_bits_deBruijn32tab))).modify 6 (put (lits (H := _root_.Unit) Rows.laid_math_bits_deBruijn64tab)) }
theorem laid_met (os : Os) (args : Array Value) : laidMet Tryz.prog Rows.reportRealsRow.laid ((laidWorld Tryz.prog os).forCall (fun _ _ => 0) ⟨#[], args, []⟩).memory :=
  laidMet_of_run' 8 (by kernel_rfl) (by kernel_rfl)
theorem witness_row (os : Os) {H : Type} (enc : TypeId × Value → H) :
    (OpenSpec.ofChange Rows.reportRealsSpec).preRow enc Tryz.prog Tryz.f3 Rows.reportRealsRow.domain false Rows.reportRealsRow.laid ((laidWorld Tryz.prog os).forCall (fun _ _ => 0) ⟨#[], #[.float .f64 0, .string ⟨#[]⟩], []⟩).memory #[.float .f64 0, .string ⟨#[]⟩] := by
  have hw : (DataW.whole enc Tryz.prog ((laidWorld Tryz.prog os).forCall (fun _ _ => 0) ⟨#[], #[.float .f64 0, .string ⟨#[]⟩], []⟩).memory Tryz.f3.params.toList (OpenSpec.ofChange Rows.reportRealsSpec).vars false #[Value.float .f64 0, Value.string ⟨#[]⟩].toList 8).map (fun x => (x.1, x.2.1)) =
      some ([.lit (.float .f64 0), .lit (.string [])], []) := by kernel_rfl
  obtain ⟨⟨x1, x2, x3⟩, hx, hx1⟩ := Option.map_eq_some_iff.1 hw
  simp only [Prod.mk.injEq] at hx1
  obtain ⟨rfl, rfl⟩ := hx1
  exact OpenSpec.preRow_of_cond 8 hx (by kernel_rfl) (fun k hk => by cases hk) (by kernel_rfl) (laid_met os _)
theorem star : "*" ++ "errors.errorString" = "*errors.errorString" := by decide
theorem rowE (u : TypeId) (h : Tryz.prog.typeName? 3 u = some "*errors.errorString") : u = 147 :=
  typeName_ptr_named (nm := "errors.errorString") (by rw [star]; kernel_rfl) (by kernel_rfl) (by decide) u (by rw [star]; exact h)
theorem env_of {W : World} (hL : laidMet Tryz.prog Rows.reportRealsRow.laid W) (hsh : W.ShapedOpen Tryz.prog) : Env W := by
  refine ⟨Lib.tabIs_of_head gT gTType Tryz.underlying139 Tryz.underlying36 cellsU cellsT hL.tail.tail, ?_, ?_, Tryz.laysM145.s1_3 W hsh⟩
  · obtain ⟨a, s, hv, -, -, -⟩ := laid_sentinel hL.tail.tail.tail.tail gES gESType Tryz.underlying54 rowE Tryz.underlying147 Tryz.underlying149 rfl rfl Tryz.underlying9 cellsE cellsS
    exact ⟨_, _, hv⟩
  · obtain ⟨a, s, hv, -, -, -⟩ := laid_sentinel hL.tail.tail.tail gER gERType Tryz.underlying54 rowE Tryz.underlying147 Tryz.underlying149 rfl rfl Tryz.underlying9 cellsE cellsS
    exact ⟨_, _, hv⟩

set_option maxRecDepth 100000 in
theorem lifted (os : Os) (started : os.Started) (H : Type) (enc : TypeId × Value → H) (F : Stop.Interp) :
    ReturnsInHanded {} Tryz.checked os 3 .any ((OpenSpec.ofChange Rows.reportRealsSpec).preRow enc Tryz.prog Tryz.f3 Rows.reportRealsRow.domain false Rows.reportRealsRow.laid) (((OpenSpec.ofChange Rows.reportRealsSpec).at F).post enc Tryz.prog Tryz.f3 false true false false) := by
  refine returnsInHanded_of_row (C := Tryz.checked) (s := OpenSpec.ofChange Rows.reportRealsSpec) own started (by kernel_rfl) Tryz.func3
    (witness_row_at (enc := enc) (C := Tryz.checked) false (laidWorld Tryz.prog os) #[.float .f64 0, .string ⟨#[]⟩] rfl (by kernel_rfl) (by kernel_rfl) (by kernel_rfl) (witness_row os enc)) ?_
  intro W base args ds gs before hval0 hW _ _ _ hL hsh _
  have hval : ∀ (j : Nat) t v, Tryz.f3.params[j]? = some t → args[j]? = some v → Value.okWide Tryz.prog W .any base t v := hval0
  have hW' := hW
  obtain ⟨p, q, hA0, hV, rfl, hfz, hnd⟩ := hW
  have hA : DataW.TrodAll enc Tryz.prog W 0 (fun _ => true) true Tryz.f3.params.toList args.toList ds p := hA0
  rw [Tryz.params3] at hA hval
  obtain ⟨v0, vs0, d0, ds0, p0, q0, hargs, rfl, rfl, h0, r0⟩ := trodAll_cons hA
  obtain ⟨v1, vs1, d1, ds1, p1, q1, rfl, rfl, rfl, h1, r1⟩ := trodAll_cons r0
  obtain ⟨rfl, rfl, rfl⟩ := trodAll_nil r1
  obtain rfl : args = #[v0, v1] := by cases args; simp_all
  obtain ⟨rfl, rfl⟩ := trodVars_none hV
  obtain ⟨a0, rfl, rfl, rfl, w0⟩ := open_float Tryz.underlying22 (hval 0 22 v0 rfl rfl) h0
  obtain ⟨a1, rfl, rfl, rfl, w1⟩ := open_string Tryz.underlying9 (hval 1 9 v1 rfl rfl) h1
  clear hA0 hval0
  simp only [List.append_nil] at hW'
  refine (walk_reportreals a0 a1 W (by simpa [Lit.wf] using w0) (env_of hL hsh)).mono fun e W' ⟨he, bel⟩ => ?_
  subst he
  exact ⟨_, rfl, _, _, _, [], [], [], hW', trodAll_mk1 (shut_bool Tryz.underlying4 _), (trodAll_cons_mk (shut_float Tryz.underlying22 w0) (trodAll_cons_mk (shut_string Tryz.underlying9 w1) trodAll_mk0)), rfl, bel.frame _, fun h => by cases h⟩

theorem over : Rows.reportRealsRow.holds Tryz.pinned (OpenSpec.ofChange Rows.reportRealsSpec) :=
  OpenClaim.holds_of_cond 3 Tryz.f3 rfl rfl rfl rfl rfl rfl rfl ⟨rfl, rfl, rfl, rfl, rfl⟩ rfl rfl rfl rfl rfl (by kernel_rfl) Tryz.func3 (by kernel_rfl)
    (of_decide_eq_true (by kernel_rfl)) (by unfold Func.isWrapper; first | (rw [if_pos (by decide +kernel)]; kernel_rfl) | (rw [if_neg (by decide +kernel)]; exact ⟨rfl, rfl⟩))
    (fun os started H enc _ F0 => by rw [OpenClaim.pre_eq_preRow]; exact lifted os started H enc F0)
theorem proved : Rows.ReportRealsSaid := over
theorem tied : Rows.ReportRealsCardSaid :=
  Claim7.holds_tied_plain_at .later [] [.data, .data, .data, .sentinel, .sentinel] true (true, "828214946919e0039beb9aabe0a2caac6e317ef8b4b05bcf3936dbad95c1b6ad") true
    proved (fun _ h => by cases h) (by kernel_rfl) (fun _ h => by cases h) reportReals_row_tie rfl ⟨rfl, rfl⟩ (by kernel_rfl) rfl
    (fun f fn hf hfn => by
      obtain rfl : f = 3 := Option.some.inj ((show Tryz.prog.funcNamed "bushel/bushellaw44.ReportReals" = some 3 by kernel_rfl).symm.trans hf) |>.symm
      obtain rfl : fn = Tryz.f3 := (Option.some.inj (Tryz.func3.symm.trans hfn)).symm
      exact ⟨by kernel_rfl, fun j t ht => by
        rw [Tryz.params3] at ht
        have h3 : t = 22 ∨ t = 9 := by
          rcases j with _ | _ | j
          · exact .inl (by simpa using ht.symm)
          · exact .inr (by simpa using ht.symm)
          · simp at ht
        rcases h3 with h3 | h3
        · subst h3; exact (show Tryz.prog.wantsStandIn 22 = false by kernel_rfl)
        · subst h3; exact (show Tryz.prog.wantsStandIn 9 = false by kernel_rfl)⟩)
    (by kernel_rfl)
#print axioms tied
end Go.Proofs.YtdbkgpakpadloaaGreatDoor.LawReportReals
