/-
  No cell of these rows narrows 'for every input' (looked for: loops, veiled, ifaces, maps, wideKeys, modest, calm, conditions, laid).
  DERIVED. THE GIVEN ROWS OF THIS SEAT. 12 by the template 'for every input the law returns true; each argument reads behind the call as it read before'; 0 by the template 'total and deterministic' (their statements: YthkkibepninneaaTotals.lean).
  GIVEN WITH THE SEED: the statements are not yours to turn. If you find one false, say at which input.
  Laid BY PROGRAM, IN A SANDBOX (cutbox-rows.mjs): the forced cells as the released guide's own fill.sh prints them over the translation ebd3f1e94feace89… (all of the seat's roots in one cut). By AI agents, Wed Nov 11 2026. No macro, syntax, notation, axiom, sorry.
-/
import Derived.Test.YthkkibepninneaaChecked
import GoSem.Claim
import GoSem.ClaimJoined
import GoSem.ClaimMapViews
import Derived.JoinedTies
import Derived.KernelRfl
namespace Go.Proofs.Ythkkibepninneaa
/- THE CELL 'sum', in the pinned program and in every row, IS THE sha256 OF THE DUMP (.gsa) THAT YthkkibepninneaaProg.lean LOADS. Nothing in Lean hashes anything: it is a label: what it is worth is what the hold of that sum in a sandbox is worth. -/
noncomputable def Try.pinned : Pinned := { name := "ythkkibepninneaa", sum := "ebd3f1e94feace8916e898629802713d49a3689758261c750cf0c969499e14d3", checked := Try.checked }
namespace Rows
def none {H : Type} : Left H := { results := [], args := [] }

/-- 'laws.FnExactSimplestOf': WHATEVER THE INPUT: true; the input reads as it did. -/
def fnExactSimplestOfSpec : ChangeSpec := { name := "fnExactSimplestOf", fn := fun _ => fun
  | [d] => { results := [.lit (.bool true)], args := [d] }
  | _ => none }
def fnExactSimplestOfRow : OpenClaim := { program := "ythkkibepninneaa", sum := "ebd3f1e94feace8916e898629802713d49a3689758261c750cf0c969499e14d3", func := "loop.example/g00989/laws.FnExactSimplestOf", spec := "fnExactSimplestOf", plainKeys := false, apart := false }
def FnExactSimplestOfSaid : Prop := fnExactSimplestOfRow.holds Try.pinned (OpenSpec.ofChange fnExactSimplestOfSpec)

/-- ITS FALSE NEIGHBOUR: 'it returns false'. Refute it at one input. -/
def fnExactSimplestOfWrong : ChangeSpec := { name := "fnExactSimplestOf", fn := fun _ => fun
  | [d] => { results := [.lit (.bool false)], args := [d] }
  | _ => none }
def FnExactSimplestOfWrongFalsely : Prop := fnExactSimplestOfRow.holds Try.pinned (OpenSpec.ofChange fnExactSimplestOfWrong)

/-- 'laws.FnExactSameSize': WHATEVER THE INPUT: true; the input reads as it did. -/
def fnExactSameSizeSpec : ChangeSpec := { name := "fnExactSameSize", fn := fun _ => fun
  | [d1, d2] => { results := [.lit (.bool true)], args := [d1, d2] }
  | _ => none }
def fnExactSameSizeRow : OpenClaim := { program := "ythkkibepninneaa", sum := "ebd3f1e94feace8916e898629802713d49a3689758261c750cf0c969499e14d3", func := "loop.example/g00989/laws.FnExactSameSize", spec := "fnExactSameSize", plainKeys := false, apart := false }
def FnExactSameSizeSaid : Prop := fnExactSameSizeRow.holds Try.pinned (OpenSpec.ofChange fnExactSameSizeSpec)

/-- ITS FALSE NEIGHBOUR: 'it returns false'. Refute it at one input. -/
def fnExactSameSizeWrong : ChangeSpec := { name := "fnExactSameSize", fn := fun _ => fun
  | [d1, d2] => { results := [.lit (.bool false)], args := [d1, d2] }
  | _ => none }
def FnExactSameSizeWrongFalsely : Prop := fnExactSameSizeRow.holds Try.pinned (OpenSpec.ofChange fnExactSameSizeWrong)

/-- 'laws.FnExactAddIntervals': WHATEVER THE INPUT: true; the input reads as it did. -/
def fnExactAddIntervalsSpec : ChangeSpec := { name := "fnExactAddIntervals", fn := fun _ => fun
  | [d1, d2] => { results := [.lit (.bool true)], args := [d1, d2] }
  | _ => none }
def fnExactAddIntervalsRow : OpenClaim := { program := "ythkkibepninneaa", sum := "ebd3f1e94feace8916e898629802713d49a3689758261c750cf0c969499e14d3", func := "loop.example/g00989/laws.FnExactAddIntervals", spec := "fnExactAddIntervals", plainKeys := false, apart := false }
def FnExactAddIntervalsSaid : Prop := fnExactAddIntervalsRow.holds Try.pinned (OpenSpec.ofChange fnExactAddIntervalsSpec)

/-- ITS FALSE NEIGHBOUR: 'it returns false'. Refute it at one input. -/
def fnExactAddIntervalsWrong : ChangeSpec := { name := "fnExactAddIntervals", fn := fun _ => fun
  | [d1, d2] => { results := [.lit (.bool false)], args := [d1, d2] }
  | _ => none }
def FnExactAddIntervalsWrongFalsely : Prop := fnExactAddIntervalsRow.holds Try.pinned (OpenSpec.ofChange fnExactAddIntervalsWrong)

/-- 'laws.FnExactTimesInterval': WHATEVER THE INPUT: true; the input reads as it did. -/
def fnExactTimesIntervalSpec : ChangeSpec := { name := "fnExactTimesInterval", fn := fun _ => fun
  | [d1, d2] => { results := [.lit (.bool true)], args := [d1, d2] }
  | _ => none }
def fnExactTimesIntervalRow : OpenClaim := { program := "ythkkibepninneaa", sum := "ebd3f1e94feace8916e898629802713d49a3689758261c750cf0c969499e14d3", func := "loop.example/g00989/laws.FnExactTimesInterval", spec := "fnExactTimesInterval", plainKeys := false, apart := false }
def FnExactTimesIntervalSaid : Prop := fnExactTimesIntervalRow.holds Try.pinned (OpenSpec.ofChange fnExactTimesIntervalSpec)

/-- ITS FALSE NEIGHBOUR: 'it returns false'. Refute it at one input. -/
def fnExactTimesIntervalWrong : ChangeSpec := { name := "fnExactTimesInterval", fn := fun _ => fun
  | [d1, d2] => { results := [.lit (.bool false)], args := [d1, d2] }
  | _ => none }
def FnExactTimesIntervalWrongFalsely : Prop := fnExactTimesIntervalRow.holds Try.pinned (OpenSpec.ofChange fnExactTimesIntervalWrong)

/-- 'laws.FnRepeated': WHATEVER THE INPUT: true; the input reads as it did. -/
def fnRepeatedSpec : ChangeSpec := { name := "fnRepeated", fn := fun _ => fun
  | [d] => { results := [.lit (.bool true)], args := [d] }
  | _ => none }
def fnRepeatedRow : OpenClaim := { program := "ythkkibepninneaa", sum := "ebd3f1e94feace8916e898629802713d49a3689758261c750cf0c969499e14d3", func := "loop.example/g00989/laws.FnRepeated", spec := "fnRepeated", plainKeys := false, apart := false }
def FnRepeatedSaid : Prop := fnRepeatedRow.holds Try.pinned (OpenSpec.ofChange fnRepeatedSpec)

/-- ITS FALSE NEIGHBOUR: 'it returns false'. Refute it at one input. -/
def fnRepeatedWrong : ChangeSpec := { name := "fnRepeated", fn := fun _ => fun
  | [d] => { results := [.lit (.bool false)], args := [d] }
  | _ => none }
def FnRepeatedWrongFalsely : Prop := fnRepeatedRow.holds Try.pinned (OpenSpec.ofChange fnRepeatedWrong)

/-- 'laws.FnGroup': WHATEVER THE INPUT: true; the input reads as it did. -/
def fnGroupSpec : ChangeSpec := { name := "fnGroup", fn := fun _ => fun
  | [d] => { results := [.lit (.bool true)], args := [d] }
  | _ => none }
def fnGroupRow : OpenClaim := { program := "ythkkibepninneaa", sum := "ebd3f1e94feace8916e898629802713d49a3689758261c750cf0c969499e14d3", func := "loop.example/g00989/laws.FnGroup", spec := "fnGroup", plainKeys := false, apart := false }
def FnGroupSaid : Prop := fnGroupRow.holds Try.pinned (OpenSpec.ofChange fnGroupSpec)

/-- ITS FALSE NEIGHBOUR: 'it returns false'. Refute it at one input. -/
def fnGroupWrong : ChangeSpec := { name := "fnGroup", fn := fun _ => fun
  | [d] => { results := [.lit (.bool false)], args := [d] }
  | _ => none }
def FnGroupWrongFalsely : Prop := fnGroupRow.holds Try.pinned (OpenSpec.ofChange fnGroupWrong)

/-- 'laws.FnExactInvertInterval': WHATEVER THE INPUT: true; the input reads as it did. -/
def fnExactInvertIntervalSpec : ChangeSpec := { name := "fnExactInvertInterval", fn := fun _ => fun
  | [d] => { results := [.lit (.bool true)], args := [d] }
  | _ => none }
def fnExactInvertIntervalRow : OpenClaim := { program := "ythkkibepninneaa", sum := "ebd3f1e94feace8916e898629802713d49a3689758261c750cf0c969499e14d3", func := "loop.example/g00989/laws.FnExactInvertInterval", spec := "fnExactInvertInterval", plainKeys := false, apart := false }
def FnExactInvertIntervalSaid : Prop := fnExactInvertIntervalRow.holds Try.pinned (OpenSpec.ofChange fnExactInvertIntervalSpec)

/-- ITS FALSE NEIGHBOUR: 'it returns false'. Refute it at one input. -/
def fnExactInvertIntervalWrong : ChangeSpec := { name := "fnExactInvertInterval", fn := fun _ => fun
  | [d] => { results := [.lit (.bool false)], args := [d] }
  | _ => none }
def FnExactInvertIntervalWrongFalsely : Prop := fnExactInvertIntervalRow.holds Try.pinned (OpenSpec.ofChange fnExactInvertIntervalWrong)

/-- 'laws.FnExactCountSizes': WHATEVER THE INPUT: true; the input reads as it did. -/
def fnExactCountSizesSpec : ChangeSpec := { name := "fnExactCountSizes", fn := fun _ => fun
  | [d] => { results := [.lit (.bool true)], args := [d] }
  | _ => none }
def fnExactCountSizesRow : OpenClaim := { program := "ythkkibepninneaa", sum := "ebd3f1e94feace8916e898629802713d49a3689758261c750cf0c969499e14d3", func := "loop.example/g00989/laws.FnExactCountSizes", spec := "fnExactCountSizes", plainKeys := false, apart := false }
def FnExactCountSizesSaid : Prop := fnExactCountSizesRow.holds Try.pinned (OpenSpec.ofChange fnExactCountSizesSpec)

/-- ITS FALSE NEIGHBOUR: 'it returns false'. Refute it at one input. -/
def fnExactCountSizesWrong : ChangeSpec := { name := "fnExactCountSizes", fn := fun _ => fun
  | [d] => { results := [.lit (.bool false)], args := [d] }
  | _ => none }
def FnExactCountSizesWrongFalsely : Prop := fnExactCountSizesRow.holds Try.pinned (OpenSpec.ofChange fnExactCountSizesWrong)

/-- 'laws.FnExactCompareIntervals': WHATEVER THE INPUT: true; the input reads as it did. -/
def fnExactCompareIntervalsSpec : ChangeSpec := { name := "fnExactCompareIntervals", fn := fun _ => fun
  | [d1, d2] => { results := [.lit (.bool true)], args := [d1, d2] }
  | _ => none }
def fnExactCompareIntervalsRow : OpenClaim := { program := "ythkkibepninneaa", sum := "ebd3f1e94feace8916e898629802713d49a3689758261c750cf0c969499e14d3", func := "loop.example/g00989/laws.FnExactCompareIntervals", spec := "fnExactCompareIntervals", plainKeys := false, apart := false }
def FnExactCompareIntervalsSaid : Prop := fnExactCompareIntervalsRow.holds Try.pinned (OpenSpec.ofChange fnExactCompareIntervalsSpec)

/-- ITS FALSE NEIGHBOUR: 'it returns false'. Refute it at one input. -/
def fnExactCompareIntervalsWrong : ChangeSpec := { name := "fnExactCompareIntervals", fn := fun _ => fun
  | [d1, d2] => { results := [.lit (.bool false)], args := [d1, d2] }
  | _ => none }
def FnExactCompareIntervalsWrongFalsely : Prop := fnExactCompareIntervalsRow.holds Try.pinned (OpenSpec.ofChange fnExactCompareIntervalsWrong)

/-- 'laws.FnExactIsBetween': WHATEVER THE INPUT: true; the input reads as it did. -/
def fnExactIsBetweenSpec : ChangeSpec := { name := "fnExactIsBetween", fn := fun _ => fun
  | [d1, d2, d3] => { results := [.lit (.bool true)], args := [d1, d2, d3] }
  | _ => none }
def fnExactIsBetweenRow : OpenClaim := { program := "ythkkibepninneaa", sum := "ebd3f1e94feace8916e898629802713d49a3689758261c750cf0c969499e14d3", func := "loop.example/g00989/laws.FnExactIsBetween", spec := "fnExactIsBetween", plainKeys := false, apart := false }
def FnExactIsBetweenSaid : Prop := fnExactIsBetweenRow.holds Try.pinned (OpenSpec.ofChange fnExactIsBetweenSpec)

/-- ITS FALSE NEIGHBOUR: 'it returns false'. Refute it at one input. -/
def fnExactIsBetweenWrong : ChangeSpec := { name := "fnExactIsBetween", fn := fun _ => fun
  | [d1, d2, d3] => { results := [.lit (.bool false)], args := [d1, d2, d3] }
  | _ => none }
def FnExactIsBetweenWrongFalsely : Prop := fnExactIsBetweenRow.holds Try.pinned (OpenSpec.ofChange fnExactIsBetweenWrong)

/-- 'laws.FnExactGreatestOf': WHATEVER THE INPUT: true; the input reads as it did. -/
def fnExactGreatestOfSpec : ChangeSpec := { name := "fnExactGreatestOf", fn := fun _ => fun
  | [d] => { results := [.lit (.bool true)], args := [d] }
  | _ => none }
def fnExactGreatestOfRow : OpenClaim := { program := "ythkkibepninneaa", sum := "ebd3f1e94feace8916e898629802713d49a3689758261c750cf0c969499e14d3", func := "loop.example/g00989/laws.FnExactGreatestOf", spec := "fnExactGreatestOf", plainKeys := false, apart := false }
def FnExactGreatestOfSaid : Prop := fnExactGreatestOfRow.holds Try.pinned (OpenSpec.ofChange fnExactGreatestOfSpec)

/-- ITS FALSE NEIGHBOUR: 'it returns false'. Refute it at one input. -/
def fnExactGreatestOfWrong : ChangeSpec := { name := "fnExactGreatestOf", fn := fun _ => fun
  | [d] => { results := [.lit (.bool false)], args := [d] }
  | _ => none }
def FnExactGreatestOfWrongFalsely : Prop := fnExactGreatestOfRow.holds Try.pinned (OpenSpec.ofChange fnExactGreatestOfWrong)

/-- 'laws.FnSameSizes': WHATEVER THE INPUT: true; the input reads as it did. -/
def fnSameSizesSpec : ChangeSpec := { name := "fnSameSizes", fn := fun _ => fun
  | [d] => { results := [.lit (.bool true)], args := [d] }
  | _ => none }
def fnSameSizesRow : OpenClaim := { program := "ythkkibepninneaa", sum := "ebd3f1e94feace8916e898629802713d49a3689758261c750cf0c969499e14d3", func := "loop.example/g00989/laws.FnSameSizes", spec := "fnSameSizes", plainKeys := false, apart := false }
def FnSameSizesSaid : Prop := fnSameSizesRow.holds Try.pinned (OpenSpec.ofChange fnSameSizesSpec)

/-- ITS FALSE NEIGHBOUR: 'it returns false'. Refute it at one input. -/
def fnSameSizesWrong : ChangeSpec := { name := "fnSameSizes", fn := fun _ => fun
  | [d] => { results := [.lit (.bool false)], args := [d] }
  | _ => none }
def FnSameSizesWrongFalsely : Prop := fnSameSizesRow.holds Try.pinned (OpenSpec.ofChange fnSameSizesWrong)

/- THE SECOND FORM. 'bulk': how many values and letters a reading holds, each counted each time it is reached (what is shared counts as often as it is met; a slice's spare places count too). A statement '..UptoSaid' is the law's where the arguments, and the package variables that the reading takes, are together of bulk at most 1048576: NARROWER than '..Said'. Prove '..Said' where nothing that the law and all that it calls make is longer than what came in: it says more and counts as full. Else prove '..UptoSaid'. A law counts once. -/
mutual
def uptoBulk {H : Type} : DataW H → Nat
  | .lit (.string bytes) => bytes.length + 1
  | .lit _ => 1
  | .nil => 1
  | .ptr d => uptoBulk d + 1
  | .slice elems spare => uptoBulkAll elems + uptoBulkAll spare + 1
  | .agg parts => uptoBulkAll parts + 1
  | .iface _ d => uptoBulk d + 1
  | .map entries => uptoBulkEntries entries + 1
  | .held _ => 1
def uptoBulkAll {H : Type} : List (DataW H) → Nat
  | [] => 0
  | d :: r => uptoBulk d + uptoBulkAll r
def uptoBulkEntries {H : Type} : List (Lit × DataW H) → Nat
  | [] => 0
  | x :: r => uptoBulkEntry x + uptoBulkEntries r
def uptoBulkEntry {H : Type} : Lit × DataW H → Nat
  | (.string bytes, d) => bytes.length + uptoBulk d + 1
  | (_, d) => uptoBulk d + 1
 end
def uptoSmall : (H : Type) → List (DataW H) → Bool := fun _ ds => decide (uptoBulkAll ds ≤ 1048576)
def OpenSpec.upto (s : _root_.Go.ChangeSpec) : _root_.Go.OpenSpec := { _root_.Go.OpenSpec.ofChange s with cond := some uptoSmall }

/-- 'laws.FnExactSimplestOf', WHERE WHAT IT READS IS OF BULK AT MOST 1048576: true; the input reads as it did. -/
def fnExactSimplestOfUptoRow : OpenClaim := { program := "ythkkibepninneaa", sum := "ebd3f1e94feace8916e898629802713d49a3689758261c750cf0c969499e14d3", func := "loop.example/g00989/laws.FnExactSimplestOf", spec := "fnExactSimplestOf", plainKeys := false, apart := false, narrowed := true }
def FnExactSimplestOfUptoSaid : Prop := fnExactSimplestOfUptoRow.holds Try.pinned (OpenSpec.upto fnExactSimplestOfSpec)

/-- 'laws.FnExactSameSize', WHERE WHAT IT READS IS OF BULK AT MOST 1048576: true; the input reads as it did. -/
def fnExactSameSizeUptoRow : OpenClaim := { program := "ythkkibepninneaa", sum := "ebd3f1e94feace8916e898629802713d49a3689758261c750cf0c969499e14d3", func := "loop.example/g00989/laws.FnExactSameSize", spec := "fnExactSameSize", plainKeys := false, apart := false, narrowed := true }
def FnExactSameSizeUptoSaid : Prop := fnExactSameSizeUptoRow.holds Try.pinned (OpenSpec.upto fnExactSameSizeSpec)

/-- 'laws.FnExactAddIntervals', WHERE WHAT IT READS IS OF BULK AT MOST 1048576: true; the input reads as it did. -/
def fnExactAddIntervalsUptoRow : OpenClaim := { program := "ythkkibepninneaa", sum := "ebd3f1e94feace8916e898629802713d49a3689758261c750cf0c969499e14d3", func := "loop.example/g00989/laws.FnExactAddIntervals", spec := "fnExactAddIntervals", plainKeys := false, apart := false, narrowed := true }
def FnExactAddIntervalsUptoSaid : Prop := fnExactAddIntervalsUptoRow.holds Try.pinned (OpenSpec.upto fnExactAddIntervalsSpec)

/-- 'laws.FnExactTimesInterval', WHERE WHAT IT READS IS OF BULK AT MOST 1048576: true; the input reads as it did. -/
def fnExactTimesIntervalUptoRow : OpenClaim := { program := "ythkkibepninneaa", sum := "ebd3f1e94feace8916e898629802713d49a3689758261c750cf0c969499e14d3", func := "loop.example/g00989/laws.FnExactTimesInterval", spec := "fnExactTimesInterval", plainKeys := false, apart := false, narrowed := true }
def FnExactTimesIntervalUptoSaid : Prop := fnExactTimesIntervalUptoRow.holds Try.pinned (OpenSpec.upto fnExactTimesIntervalSpec)

/-- 'laws.FnRepeated', WHERE WHAT IT READS IS OF BULK AT MOST 1048576: true; the input reads as it did. -/
def fnRepeatedUptoRow : OpenClaim := { program := "ythkkibepninneaa", sum := "ebd3f1e94feace8916e898629802713d49a3689758261c750cf0c969499e14d3", func := "loop.example/g00989/laws.FnRepeated", spec := "fnRepeated", plainKeys := false, apart := false, narrowed := true }
def FnRepeatedUptoSaid : Prop := fnRepeatedUptoRow.holds Try.pinned (OpenSpec.upto fnRepeatedSpec)

/-- 'laws.FnGroup', WHERE WHAT IT READS IS OF BULK AT MOST 1048576: true; the input reads as it did. -/
def fnGroupUptoRow : OpenClaim := { program := "ythkkibepninneaa", sum := "ebd3f1e94feace8916e898629802713d49a3689758261c750cf0c969499e14d3", func := "loop.example/g00989/laws.FnGroup", spec := "fnGroup", plainKeys := false, apart := false, narrowed := true }
def FnGroupUptoSaid : Prop := fnGroupUptoRow.holds Try.pinned (OpenSpec.upto fnGroupSpec)

/-- 'laws.FnExactInvertInterval', WHERE WHAT IT READS IS OF BULK AT MOST 1048576: true; the input reads as it did. -/
def fnExactInvertIntervalUptoRow : OpenClaim := { program := "ythkkibepninneaa", sum := "ebd3f1e94feace8916e898629802713d49a3689758261c750cf0c969499e14d3", func := "loop.example/g00989/laws.FnExactInvertInterval", spec := "fnExactInvertInterval", plainKeys := false, apart := false, narrowed := true }
def FnExactInvertIntervalUptoSaid : Prop := fnExactInvertIntervalUptoRow.holds Try.pinned (OpenSpec.upto fnExactInvertIntervalSpec)

/-- 'laws.FnExactCountSizes', WHERE WHAT IT READS IS OF BULK AT MOST 1048576: true; the input reads as it did. -/
def fnExactCountSizesUptoRow : OpenClaim := { program := "ythkkibepninneaa", sum := "ebd3f1e94feace8916e898629802713d49a3689758261c750cf0c969499e14d3", func := "loop.example/g00989/laws.FnExactCountSizes", spec := "fnExactCountSizes", plainKeys := false, apart := false, narrowed := true }
def FnExactCountSizesUptoSaid : Prop := fnExactCountSizesUptoRow.holds Try.pinned (OpenSpec.upto fnExactCountSizesSpec)

/-- 'laws.FnExactCompareIntervals', WHERE WHAT IT READS IS OF BULK AT MOST 1048576: true; the input reads as it did. -/
def fnExactCompareIntervalsUptoRow : OpenClaim := { program := "ythkkibepninneaa", sum := "ebd3f1e94feace8916e898629802713d49a3689758261c750cf0c969499e14d3", func := "loop.example/g00989/laws.FnExactCompareIntervals", spec := "fnExactCompareIntervals", plainKeys := false, apart := false, narrowed := true }
def FnExactCompareIntervalsUptoSaid : Prop := fnExactCompareIntervalsUptoRow.holds Try.pinned (OpenSpec.upto fnExactCompareIntervalsSpec)

/-- 'laws.FnExactIsBetween', WHERE WHAT IT READS IS OF BULK AT MOST 1048576: true; the input reads as it did. -/
def fnExactIsBetweenUptoRow : OpenClaim := { program := "ythkkibepninneaa", sum := "ebd3f1e94feace8916e898629802713d49a3689758261c750cf0c969499e14d3", func := "loop.example/g00989/laws.FnExactIsBetween", spec := "fnExactIsBetween", plainKeys := false, apart := false, narrowed := true }
def FnExactIsBetweenUptoSaid : Prop := fnExactIsBetweenUptoRow.holds Try.pinned (OpenSpec.upto fnExactIsBetweenSpec)

/-- 'laws.FnExactGreatestOf', WHERE WHAT IT READS IS OF BULK AT MOST 1048576: true; the input reads as it did. -/
def fnExactGreatestOfUptoRow : OpenClaim := { program := "ythkkibepninneaa", sum := "ebd3f1e94feace8916e898629802713d49a3689758261c750cf0c969499e14d3", func := "loop.example/g00989/laws.FnExactGreatestOf", spec := "fnExactGreatestOf", plainKeys := false, apart := false, narrowed := true }
def FnExactGreatestOfUptoSaid : Prop := fnExactGreatestOfUptoRow.holds Try.pinned (OpenSpec.upto fnExactGreatestOfSpec)

/-- 'laws.FnSameSizes', WHERE WHAT IT READS IS OF BULK AT MOST 1048576: true; the input reads as it did. -/
def fnSameSizesUptoRow : OpenClaim := { program := "ythkkibepninneaa", sum := "ebd3f1e94feace8916e898629802713d49a3689758261c750cf0c969499e14d3", func := "loop.example/g00989/laws.FnSameSizes", spec := "fnSameSizes", plainKeys := false, apart := false, narrowed := true }
def FnSameSizesUptoSaid : Prop := fnSameSizesUptoRow.holds Try.pinned (OpenSpec.upto fnSameSizesSpec)

end Rows
end Go.Proofs.Ythkkibepninneaa
