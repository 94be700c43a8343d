/-
  No cell of these rows narrows 'for every input' (looked for: loops, veiled, ifaces, maps, wideKeys, modest, calm, conditions, laid).
  DERIVED. THE GIVEN ROWS OF THIS SEAT. 12 by the template 'for every input the law returns true; each argument reads behind the call as it read before'; 0 by the template 'total and deterministic' (their statements: YtcogdbbkkbkhfaaTotals.lean).
  GIVEN WITH THE SEED: the statements are not yours to turn. If you find one false, say at which input.
  Laid BY PROGRAM, IN A SANDBOX (cutbox-rows.mjs): the forced cells as the released guide's own fill.sh prints them over the translation 7238b9f36536702f… (all of the seat's roots in one cut). By AI agents, Wed Nov 11 2026. No macro, syntax, notation, axiom, sorry.
-/
import Derived.Test.YtcogdbbkkbkhfaaChecked
import GoSem.Claim
import GoSem.ClaimJoined
import GoSem.ClaimMapViews
import Derived.JoinedTies
import Derived.KernelRfl
namespace Go.Proofs.Ytcogdbbkkbkhfaa
/- THE CELL 'sum', in the pinned program and in every row, IS THE sha256 OF THE DUMP (.gsa) THAT YtcogdbbkkbkhfaaProg.lean LOADS. Nothing in Lean hashes anything: it is a label: what it is worth is what the hold of that sum in a sandbox is worth. -/
noncomputable def Try.pinned : Pinned := { name := "ytcogdbbkkbkhfaa", sum := "7238b9f36536702f445a207c332dd836e5c391bbb1a352082f314886001eaa82", checked := Try.checked }
namespace Rows
def none {H : Type} : Left H := { results := [], args := [] }

/-- 'laws.FnExactConstants': WHATEVER THE INPUT: true; the input reads as it did. -/
def fnExactConstantsSpec : ChangeSpec := { name := "fnExactConstants", fn := fun _ => fun
  | [] => { results := [.lit (.bool true)], args := [] }
  | _ => none }
def fnExactConstantsRow : OpenClaim := { program := "ytcogdbbkkbkhfaa", sum := "7238b9f36536702f445a207c332dd836e5c391bbb1a352082f314886001eaa82", func := "loop.example/g00989/laws.FnExactConstants", spec := "fnExactConstants", apart := false }
def FnExactConstantsSaid : Prop := fnExactConstantsRow.holds Try.pinned (OpenSpec.ofChange fnExactConstantsSpec)

/-- ITS FALSE NEIGHBOUR: 'it returns false'. Refute it at one input. -/
def fnExactConstantsWrong : ChangeSpec := { name := "fnExactConstants", fn := fun _ => fun
  | [] => { results := [.lit (.bool false)], args := [] }
  | _ => none }
def FnExactConstantsWrongFalsely : Prop := fnExactConstantsRow.holds Try.pinned (OpenSpec.ofChange fnExactConstantsWrong)

/-- 'laws.FnExactAreEnharmonic': WHATEVER THE INPUT: true; the input reads as it did. -/
def fnExactAreEnharmonicSpec : ChangeSpec := { name := "fnExactAreEnharmonic", fn := fun _ => fun
  | [d1, d2] => { results := [.lit (.bool true)], args := [d1, d2] }
  | _ => none }
def fnExactAreEnharmonicRow : OpenClaim := { program := "ytcogdbbkkbkhfaa", sum := "7238b9f36536702f445a207c332dd836e5c391bbb1a352082f314886001eaa82", func := "loop.example/g00989/laws.FnExactAreEnharmonic", spec := "fnExactAreEnharmonic", apart := false }
def FnExactAreEnharmonicSaid : Prop := fnExactAreEnharmonicRow.holds Try.pinned (OpenSpec.ofChange fnExactAreEnharmonicSpec)

/-- ITS FALSE NEIGHBOUR: 'it returns false'. Refute it at one input. -/
def fnExactAreEnharmonicWrong : ChangeSpec := { name := "fnExactAreEnharmonic", fn := fun _ => fun
  | [d1, d2] => { results := [.lit (.bool false)], args := [d1, d2] }
  | _ => none }
def FnExactAreEnharmonicWrongFalsely : Prop := fnExactAreEnharmonicRow.holds Try.pinned (OpenSpec.ofChange fnExactAreEnharmonicWrong)

/-- 'laws.FnExactCommaName': WHATEVER THE INPUT: true; the input reads as it did. -/
def fnExactCommaNameSpec : ChangeSpec := { name := "fnExactCommaName", fn := fun _ => fun
  | [d] => { results := [.lit (.bool true)], args := [d] }
  | _ => none }
def fnExactCommaNameRow : OpenClaim := { program := "ytcogdbbkkbkhfaa", sum := "7238b9f36536702f445a207c332dd836e5c391bbb1a352082f314886001eaa82", func := "loop.example/g00989/laws.FnExactCommaName", spec := "fnExactCommaName", apart := false }
def FnExactCommaNameSaid : Prop := fnExactCommaNameRow.holds Try.pinned (OpenSpec.ofChange fnExactCommaNameSpec)

/-- ITS FALSE NEIGHBOUR: 'it returns false'. Refute it at one input. -/
def fnExactCommaNameWrong : ChangeSpec := { name := "fnExactCommaName", fn := fun _ => fun
  | [d] => { results := [.lit (.bool false)], args := [d] }
  | _ => none }
def FnExactCommaNameWrongFalsely : Prop := fnExactCommaNameRow.holds Try.pinned (OpenSpec.ofChange fnExactCommaNameWrong)

/-- 'laws.FnExactIntervalOk': WHATEVER THE INPUT: true; the input reads as it did. -/
def fnExactIntervalOkSpec : ChangeSpec := { name := "fnExactIntervalOk", fn := fun _ => fun
  | [d] => { results := [.lit (.bool true)], args := [d] }
  | _ => none }
def fnExactIntervalOkRow : OpenClaim := { program := "ytcogdbbkkbkhfaa", sum := "7238b9f36536702f445a207c332dd836e5c391bbb1a352082f314886001eaa82", func := "loop.example/g00989/laws.FnExactIntervalOk", spec := "fnExactIntervalOk", apart := false }
def FnExactIntervalOkSaid : Prop := fnExactIntervalOkRow.holds Try.pinned (OpenSpec.ofChange fnExactIntervalOkSpec)

/-- ITS FALSE NEIGHBOUR: 'it returns false'. Refute it at one input. -/
def fnExactIntervalOkWrong : ChangeSpec := { name := "fnExactIntervalOk", fn := fun _ => fun
  | [d] => { results := [.lit (.bool false)], args := [d] }
  | _ => none }
def FnExactIntervalOkWrongFalsely : Prop := fnExactIntervalOkRow.holds Try.pinned (OpenSpec.ofChange fnExactIntervalOkWrong)

/-- 'laws.FnExactAccidentalOf': WHATEVER THE INPUT: true; the input reads as it did. -/
def fnExactAccidentalOfSpec : ChangeSpec := { name := "fnExactAccidentalOf", fn := fun _ => fun
  | [d] => { results := [.lit (.bool true)], args := [d] }
  | _ => none }
def fnExactAccidentalOfRow : OpenClaim := { program := "ytcogdbbkkbkhfaa", sum := "7238b9f36536702f445a207c332dd836e5c391bbb1a352082f314886001eaa82", func := "loop.example/g00989/laws.FnExactAccidentalOf", spec := "fnExactAccidentalOf", apart := false }
def FnExactAccidentalOfSaid : Prop := fnExactAccidentalOfRow.holds Try.pinned (OpenSpec.ofChange fnExactAccidentalOfSpec)

/-- ITS FALSE NEIGHBOUR: 'it returns false'. Refute it at one input. -/
def fnExactAccidentalOfWrong : ChangeSpec := { name := "fnExactAccidentalOf", fn := fun _ => fun
  | [d] => { results := [.lit (.bool false)], args := [d] }
  | _ => none }
def FnExactAccidentalOfWrongFalsely : Prop := fnExactAccidentalOfRow.holds Try.pinned (OpenSpec.ofChange fnExactAccidentalOfWrong)

/-- 'laws.FnExactLetterOf': WHATEVER THE INPUT: true; the input reads as it did. -/
def fnExactLetterOfSpec : ChangeSpec := { name := "fnExactLetterOf", fn := fun _ => fun
  | [d] => { results := [.lit (.bool true)], args := [d] }
  | _ => none }
def fnExactLetterOfRow : OpenClaim := { program := "ytcogdbbkkbkhfaa", sum := "7238b9f36536702f445a207c332dd836e5c391bbb1a352082f314886001eaa82", func := "loop.example/g00989/laws.FnExactLetterOf", spec := "fnExactLetterOf", apart := false }
def FnExactLetterOfSaid : Prop := fnExactLetterOfRow.holds Try.pinned (OpenSpec.ofChange fnExactLetterOfSpec)

/-- ITS FALSE NEIGHBOUR: 'it returns false'. Refute it at one input. -/
def fnExactLetterOfWrong : ChangeSpec := { name := "fnExactLetterOf", fn := fun _ => fun
  | [d] => { results := [.lit (.bool false)], args := [d] }
  | _ => none }
def FnExactLetterOfWrongFalsely : Prop := fnExactLetterOfRow.holds Try.pinned (OpenSpec.ofChange fnExactLetterOfWrong)

/-- 'laws.FnExactClamp': WHATEVER THE INPUT: true; the input reads as it did. -/
def fnExactClampSpec : ChangeSpec := { name := "fnExactClamp", fn := fun _ => fun
  | [d1, d2, d3] => { results := [.lit (.bool true)], args := [d1, d2, d3] }
  | _ => none }
def fnExactClampRow : OpenClaim := { program := "ytcogdbbkkbkhfaa", sum := "7238b9f36536702f445a207c332dd836e5c391bbb1a352082f314886001eaa82", func := "loop.example/g00989/laws.FnExactClamp", spec := "fnExactClamp", apart := false }
def FnExactClampSaid : Prop := fnExactClampRow.holds Try.pinned (OpenSpec.ofChange fnExactClampSpec)

/-- ITS FALSE NEIGHBOUR: 'it returns false'. Refute it at one input. -/
def fnExactClampWrong : ChangeSpec := { name := "fnExactClamp", fn := fun _ => fun
  | [d1, d2, d3] => { results := [.lit (.bool false)], args := [d1, d2, d3] }
  | _ => none }
def FnExactClampWrongFalsely : Prop := fnExactClampRow.holds Try.pinned (OpenSpec.ofChange fnExactClampWrong)

/-- 'laws.FnExactStepsUp': WHATEVER THE INPUT: true; the input reads as it did. -/
def fnExactStepsUpSpec : ChangeSpec := { name := "fnExactStepsUp", fn := fun _ => fun
  | [d1, d2] => { results := [.lit (.bool true)], args := [d1, d2] }
  | _ => none }
def fnExactStepsUpRow : OpenClaim := { program := "ytcogdbbkkbkhfaa", sum := "7238b9f36536702f445a207c332dd836e5c391bbb1a352082f314886001eaa82", func := "loop.example/g00989/laws.FnExactStepsUp", spec := "fnExactStepsUp", apart := false }
def FnExactStepsUpSaid : Prop := fnExactStepsUpRow.holds Try.pinned (OpenSpec.ofChange fnExactStepsUpSpec)

/-- ITS FALSE NEIGHBOUR: 'it returns false'. Refute it at one input. -/
def fnExactStepsUpWrong : ChangeSpec := { name := "fnExactStepsUp", fn := fun _ => fun
  | [d1, d2] => { results := [.lit (.bool false)], args := [d1, d2] }
  | _ => none }
def FnExactStepsUpWrongFalsely : Prop := fnExactStepsUpRow.holds Try.pinned (OpenSpec.ofChange fnExactStepsUpWrong)

/-- 'laws.FnExactBigOk': WHATEVER THE INPUT: true; the input reads as it did. -/
def fnExactBigOkSpec : ChangeSpec := { name := "fnExactBigOk", fn := fun _ => fun
  | [d] => { results := [.lit (.bool true)], args := [d] }
  | _ => none }
def fnExactBigOkRow : OpenClaim := { program := "ytcogdbbkkbkhfaa", sum := "7238b9f36536702f445a207c332dd836e5c391bbb1a352082f314886001eaa82", func := "loop.example/g00989/laws.FnExactBigOk", spec := "fnExactBigOk", apart := false }
def FnExactBigOkSaid : Prop := fnExactBigOkRow.holds Try.pinned (OpenSpec.ofChange fnExactBigOkSpec)

/-- ITS FALSE NEIGHBOUR: 'it returns false'. Refute it at one input. -/
def fnExactBigOkWrong : ChangeSpec := { name := "fnExactBigOk", fn := fun _ => fun
  | [d] => { results := [.lit (.bool false)], args := [d] }
  | _ => none }
def FnExactBigOkWrongFalsely : Prop := fnExactBigOkRow.holds Try.pinned (OpenSpec.ofChange fnExactBigOkWrong)

/-- 'laws.FnExactPureOf': WHATEVER THE INPUT: true; the input reads as it did. -/
def fnExactPureOfSpec : ChangeSpec := { name := "fnExactPureOf", fn := fun _ => fun
  | [d1, d2, d3] => { results := [.lit (.bool true)], args := [d1, d2, d3] }
  | _ => none }
def fnExactPureOfRow : OpenClaim := { program := "ytcogdbbkkbkhfaa", sum := "7238b9f36536702f445a207c332dd836e5c391bbb1a352082f314886001eaa82", func := "loop.example/g00989/laws.FnExactPureOf", spec := "fnExactPureOf", apart := false }
def FnExactPureOfSaid : Prop := fnExactPureOfRow.holds Try.pinned (OpenSpec.ofChange fnExactPureOfSpec)

/-- ITS FALSE NEIGHBOUR: 'it returns false'. Refute it at one input. -/
def fnExactPureOfWrong : ChangeSpec := { name := "fnExactPureOf", fn := fun _ => fun
  | [d1, d2, d3] => { results := [.lit (.bool false)], args := [d1, d2, d3] }
  | _ => none }
def FnExactPureOfWrongFalsely : Prop := fnExactPureOfRow.holds Try.pinned (OpenSpec.ofChange fnExactPureOfWrong)

/-- 'laws.FnExactBigOf': WHATEVER THE INPUT: true; the input reads as it did. -/
def fnExactBigOfSpec : ChangeSpec := { name := "fnExactBigOf", fn := fun _ => fun
  | [d] => { results := [.lit (.bool true)], args := [d] }
  | _ => none }
def fnExactBigOfRow : OpenClaim := { program := "ytcogdbbkkbkhfaa", sum := "7238b9f36536702f445a207c332dd836e5c391bbb1a352082f314886001eaa82", func := "loop.example/g00989/laws.FnExactBigOf", spec := "fnExactBigOf", apart := false }
def FnExactBigOfSaid : Prop := fnExactBigOfRow.holds Try.pinned (OpenSpec.ofChange fnExactBigOfSpec)

/-- ITS FALSE NEIGHBOUR: 'it returns false'. Refute it at one input. -/
def fnExactBigOfWrong : ChangeSpec := { name := "fnExactBigOf", fn := fun _ => fun
  | [d] => { results := [.lit (.bool false)], args := [d] }
  | _ => none }
def FnExactBigOfWrongFalsely : Prop := fnExactBigOfRow.holds Try.pinned (OpenSpec.ofChange fnExactBigOfWrong)

/-- 'laws.FnClamped': WHATEVER THE INPUT: true; the input reads as it did. -/
def fnClampedSpec : ChangeSpec := { name := "fnClamped", fn := fun _ => fun
  | [d] => { results := [.lit (.bool true)], args := [d] }
  | _ => none }
def fnClampedRow : OpenClaim := { program := "ytcogdbbkkbkhfaa", sum := "7238b9f36536702f445a207c332dd836e5c391bbb1a352082f314886001eaa82", func := "loop.example/g00989/laws.FnClamped", spec := "fnClamped", apart := false }
def FnClampedSaid : Prop := fnClampedRow.holds Try.pinned (OpenSpec.ofChange fnClampedSpec)

/-- ITS FALSE NEIGHBOUR: 'it returns false'. Refute it at one input. -/
def fnClampedWrong : ChangeSpec := { name := "fnClamped", fn := fun _ => fun
  | [d] => { results := [.lit (.bool false)], args := [d] }
  | _ => none }
def FnClampedWrongFalsely : Prop := fnClampedRow.holds Try.pinned (OpenSpec.ofChange fnClampedWrong)

/- THE SECOND FORM. 'bulk': how many values and letters a reading holds, each counted each time it is reached (what is shared counts as often as it is met; a slice's spare places count too). A statement '..UptoSaid' is the law's where the arguments, and the package variables that the reading takes, are together of bulk at most 1048576: NARROWER than '..Said'. Prove '..Said' where nothing that the law and all that it calls make is longer than what came in: it says more and counts as full. Else prove '..UptoSaid'. A law counts once. -/
mutual
def uptoBulk {H : Type} : DataW H → Nat
  | .lit (.string bytes) => bytes.length + 1
  | .lit _ => 1
  | .nil => 1
  | .ptr d => uptoBulk d + 1
  | .slice elems spare => uptoBulkAll elems + uptoBulkAll spare + 1
  | .agg parts => uptoBulkAll parts + 1
  | .iface _ d => uptoBulk d + 1
  | .map entries => uptoBulkEntries entries + 1
  | .held _ => 1
def uptoBulkAll {H : Type} : List (DataW H) → Nat
  | [] => 0
  | d :: r => uptoBulk d + uptoBulkAll r
def uptoBulkEntries {H : Type} : List (Lit × DataW H) → Nat
  | [] => 0
  | x :: r => uptoBulkEntry x + uptoBulkEntries r
def uptoBulkEntry {H : Type} : Lit × DataW H → Nat
  | (.string bytes, d) => bytes.length + uptoBulk d + 1
  | (_, d) => uptoBulk d + 1
 end
def uptoSmall : (H : Type) → List (DataW H) → Bool := fun _ ds => decide (uptoBulkAll ds ≤ 1048576)
def OpenSpec.upto (s : _root_.Go.ChangeSpec) : _root_.Go.OpenSpec := { _root_.Go.OpenSpec.ofChange s with cond := some uptoSmall }

/-- 'laws.FnExactConstants', WHERE WHAT IT READS IS OF BULK AT MOST 1048576: true; the input reads as it did. -/
def fnExactConstantsUptoRow : OpenClaim := { program := "ytcogdbbkkbkhfaa", sum := "7238b9f36536702f445a207c332dd836e5c391bbb1a352082f314886001eaa82", func := "loop.example/g00989/laws.FnExactConstants", spec := "fnExactConstants", apart := false, narrowed := true }
def FnExactConstantsUptoSaid : Prop := fnExactConstantsUptoRow.holds Try.pinned (OpenSpec.upto fnExactConstantsSpec)

/-- 'laws.FnExactAreEnharmonic', WHERE WHAT IT READS IS OF BULK AT MOST 1048576: true; the input reads as it did. -/
def fnExactAreEnharmonicUptoRow : OpenClaim := { program := "ytcogdbbkkbkhfaa", sum := "7238b9f36536702f445a207c332dd836e5c391bbb1a352082f314886001eaa82", func := "loop.example/g00989/laws.FnExactAreEnharmonic", spec := "fnExactAreEnharmonic", apart := false, narrowed := true }
def FnExactAreEnharmonicUptoSaid : Prop := fnExactAreEnharmonicUptoRow.holds Try.pinned (OpenSpec.upto fnExactAreEnharmonicSpec)

/-- 'laws.FnExactCommaName', WHERE WHAT IT READS IS OF BULK AT MOST 1048576: true; the input reads as it did. -/
def fnExactCommaNameUptoRow : OpenClaim := { program := "ytcogdbbkkbkhfaa", sum := "7238b9f36536702f445a207c332dd836e5c391bbb1a352082f314886001eaa82", func := "loop.example/g00989/laws.FnExactCommaName", spec := "fnExactCommaName", apart := false, narrowed := true }
def FnExactCommaNameUptoSaid : Prop := fnExactCommaNameUptoRow.holds Try.pinned (OpenSpec.upto fnExactCommaNameSpec)

/-- 'laws.FnExactIntervalOk', WHERE WHAT IT READS IS OF BULK AT MOST 1048576: true; the input reads as it did. -/
def fnExactIntervalOkUptoRow : OpenClaim := { program := "ytcogdbbkkbkhfaa", sum := "7238b9f36536702f445a207c332dd836e5c391bbb1a352082f314886001eaa82", func := "loop.example/g00989/laws.FnExactIntervalOk", spec := "fnExactIntervalOk", apart := false, narrowed := true }
def FnExactIntervalOkUptoSaid : Prop := fnExactIntervalOkUptoRow.holds Try.pinned (OpenSpec.upto fnExactIntervalOkSpec)

/-- 'laws.FnExactAccidentalOf', WHERE WHAT IT READS IS OF BULK AT MOST 1048576: true; the input reads as it did. -/
def fnExactAccidentalOfUptoRow : OpenClaim := { program := "ytcogdbbkkbkhfaa", sum := "7238b9f36536702f445a207c332dd836e5c391bbb1a352082f314886001eaa82", func := "loop.example/g00989/laws.FnExactAccidentalOf", spec := "fnExactAccidentalOf", apart := false, narrowed := true }
def FnExactAccidentalOfUptoSaid : Prop := fnExactAccidentalOfUptoRow.holds Try.pinned (OpenSpec.upto fnExactAccidentalOfSpec)

/-- 'laws.FnExactLetterOf', WHERE WHAT IT READS IS OF BULK AT MOST 1048576: true; the input reads as it did. -/
def fnExactLetterOfUptoRow : OpenClaim := { program := "ytcogdbbkkbkhfaa", sum := "7238b9f36536702f445a207c332dd836e5c391bbb1a352082f314886001eaa82", func := "loop.example/g00989/laws.FnExactLetterOf", spec := "fnExactLetterOf", apart := false, narrowed := true }
def FnExactLetterOfUptoSaid : Prop := fnExactLetterOfUptoRow.holds Try.pinned (OpenSpec.upto fnExactLetterOfSpec)

/-- 'laws.FnExactClamp', WHERE WHAT IT READS IS OF BULK AT MOST 1048576: true; the input reads as it did. -/
def fnExactClampUptoRow : OpenClaim := { program := "ytcogdbbkkbkhfaa", sum := "7238b9f36536702f445a207c332dd836e5c391bbb1a352082f314886001eaa82", func := "loop.example/g00989/laws.FnExactClamp", spec := "fnExactClamp", apart := false, narrowed := true }
def FnExactClampUptoSaid : Prop := fnExactClampUptoRow.holds Try.pinned (OpenSpec.upto fnExactClampSpec)

/-- 'laws.FnExactStepsUp', WHERE WHAT IT READS IS OF BULK AT MOST 1048576: true; the input reads as it did. -/
def fnExactStepsUpUptoRow : OpenClaim := { program := "ytcogdbbkkbkhfaa", sum := "7238b9f36536702f445a207c332dd836e5c391bbb1a352082f314886001eaa82", func := "loop.example/g00989/laws.FnExactStepsUp", spec := "fnExactStepsUp", apart := false, narrowed := true }
def FnExactStepsUpUptoSaid : Prop := fnExactStepsUpUptoRow.holds Try.pinned (OpenSpec.upto fnExactStepsUpSpec)

/-- 'laws.FnExactBigOk', WHERE WHAT IT READS IS OF BULK AT MOST 1048576: true; the input reads as it did. -/
def fnExactBigOkUptoRow : OpenClaim := { program := "ytcogdbbkkbkhfaa", sum := "7238b9f36536702f445a207c332dd836e5c391bbb1a352082f314886001eaa82", func := "loop.example/g00989/laws.FnExactBigOk", spec := "fnExactBigOk", apart := false, narrowed := true }
def FnExactBigOkUptoSaid : Prop := fnExactBigOkUptoRow.holds Try.pinned (OpenSpec.upto fnExactBigOkSpec)

/-- 'laws.FnExactPureOf', WHERE WHAT IT READS IS OF BULK AT MOST 1048576: true; the input reads as it did. -/
def fnExactPureOfUptoRow : OpenClaim := { program := "ytcogdbbkkbkhfaa", sum := "7238b9f36536702f445a207c332dd836e5c391bbb1a352082f314886001eaa82", func := "loop.example/g00989/laws.FnExactPureOf", spec := "fnExactPureOf", apart := false, narrowed := true }
def FnExactPureOfUptoSaid : Prop := fnExactPureOfUptoRow.holds Try.pinned (OpenSpec.upto fnExactPureOfSpec)

/-- 'laws.FnExactBigOf', WHERE WHAT IT READS IS OF BULK AT MOST 1048576: true; the input reads as it did. -/
def fnExactBigOfUptoRow : OpenClaim := { program := "ytcogdbbkkbkhfaa", sum := "7238b9f36536702f445a207c332dd836e5c391bbb1a352082f314886001eaa82", func := "loop.example/g00989/laws.FnExactBigOf", spec := "fnExactBigOf", apart := false, narrowed := true }
def FnExactBigOfUptoSaid : Prop := fnExactBigOfUptoRow.holds Try.pinned (OpenSpec.upto fnExactBigOfSpec)

/-- 'laws.FnClamped', WHERE WHAT IT READS IS OF BULK AT MOST 1048576: true; the input reads as it did. -/
def fnClampedUptoRow : OpenClaim := { program := "ytcogdbbkkbkhfaa", sum := "7238b9f36536702f445a207c332dd836e5c391bbb1a352082f314886001eaa82", func := "loop.example/g00989/laws.FnClamped", spec := "fnClamped", apart := false, narrowed := true }
def FnClampedUptoSaid : Prop := fnClampedUptoRow.holds Try.pinned (OpenSpec.upto fnClampedSpec)

end Rows
end Go.Proofs.Ytcogdbbkkbkhfaa
