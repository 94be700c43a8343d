/-
  No cell of these rows narrows 'for every input' (looked for: loops, veiled, ifaces, maps, wideKeys, modest, calm, conditions, laid).
  DERIVED. THE GIVEN ROWS OF THIS SEAT. 9 by the template 'for every input the law returns true; each argument reads behind the call as it read before'; 0 by the template 'total and deterministic' (their statements: YtfimodphnfejdaaTotals.lean).
  GIVEN WITH THE SEED: the statements are not yours to turn. If you find one false, say at which input.
  Laid BY PROGRAM, IN A SANDBOX (cutbox-rows.mjs): the forced cells as the released guide's own fill.sh prints them over the translation ca56bc0c08076d8f… (all of the seat's roots in one cut). By AI agents, Wed Nov 11 2026. No macro, syntax, notation, axiom, sorry.
-/
import Derived.Test.YtfimodphnfejdaaChecked
import GoSem.Claim
import GoSem.ClaimJoined
import GoSem.ClaimMapViews
import Derived.JoinedTies
import Derived.KernelRfl
namespace Go.Proofs.Ytfimodphnfejdaa
/- THE CELL 'sum', in the pinned program and in every row, IS THE sha256 OF THE DUMP (.gsa) THAT YtfimodphnfejdaaProg.lean LOADS. Nothing in Lean hashes anything: it is a label: what it is worth is what the hold of that sum in a sandbox is worth. -/
noncomputable def Try.pinned : Pinned := { name := "ytfimodphnfejdaa", sum := "ca56bc0c08076d8fa1ce6b152f0d98d7e8eb5ed719f196c2dda7db7542cea8de", checked := Try.checked }
namespace Rows
def none {H : Type} : Left H := { results := [], args := [] }

/-- 'laws.FnExactOctavesIn': WHATEVER THE INPUT: true; the input reads as it did. -/
def fnExactOctavesInSpec : ChangeSpec := { name := "fnExactOctavesIn", fn := fun _ => fun
  | [d] => { results := [.lit (.bool true)], args := [d] }
  | _ => none }
def fnExactOctavesInRow : OpenClaim := { program := "ytfimodphnfejdaa", sum := "ca56bc0c08076d8fa1ce6b152f0d98d7e8eb5ed719f196c2dda7db7542cea8de", func := "loop.example/g00989/laws.FnExactOctavesIn", spec := "fnExactOctavesIn", plainKeys := false, apart := false }
def FnExactOctavesInSaid : Prop := fnExactOctavesInRow.holds Try.pinned (OpenSpec.ofChange fnExactOctavesInSpec)

/-- ITS FALSE NEIGHBOUR: 'it returns false'. Refute it at one input. -/
def fnExactOctavesInWrong : ChangeSpec := { name := "fnExactOctavesIn", fn := fun _ => fun
  | [d] => { results := [.lit (.bool false)], args := [d] }
  | _ => none }
def FnExactOctavesInWrongFalsely : Prop := fnExactOctavesInRow.holds Try.pinned (OpenSpec.ofChange fnExactOctavesInWrong)

/-- 'laws.FnExactWithinOctave': WHATEVER THE INPUT: true; the input reads as it did. -/
def fnExactWithinOctaveSpec : ChangeSpec := { name := "fnExactWithinOctave", fn := fun _ => fun
  | [d] => { results := [.lit (.bool true)], args := [d] }
  | _ => none }
def fnExactWithinOctaveRow : OpenClaim := { program := "ytfimodphnfejdaa", sum := "ca56bc0c08076d8fa1ce6b152f0d98d7e8eb5ed719f196c2dda7db7542cea8de", func := "loop.example/g00989/laws.FnExactWithinOctave", spec := "fnExactWithinOctave", plainKeys := false, apart := false }
def FnExactWithinOctaveSaid : Prop := fnExactWithinOctaveRow.holds Try.pinned (OpenSpec.ofChange fnExactWithinOctaveSpec)

/-- ITS FALSE NEIGHBOUR: 'it returns false'. Refute it at one input. -/
def fnExactWithinOctaveWrong : ChangeSpec := { name := "fnExactWithinOctave", fn := fun _ => fun
  | [d] => { results := [.lit (.bool false)], args := [d] }
  | _ => none }
def FnExactWithinOctaveWrongFalsely : Prop := fnExactWithinOctaveRow.holds Try.pinned (OpenSpec.ofChange fnExactWithinOctaveWrong)

/-- 'laws.FnExactSamePitchClass': WHATEVER THE INPUT: true; the input reads as it did. -/
def fnExactSamePitchClassSpec : ChangeSpec := { name := "fnExactSamePitchClass", fn := fun _ => fun
  | [d1, d2] => { results := [.lit (.bool true)], args := [d1, d2] }
  | _ => none }
def fnExactSamePitchClassRow : OpenClaim := { program := "ytfimodphnfejdaa", sum := "ca56bc0c08076d8fa1ce6b152f0d98d7e8eb5ed719f196c2dda7db7542cea8de", func := "loop.example/g00989/laws.FnExactSamePitchClass", spec := "fnExactSamePitchClass", plainKeys := false, apart := false }
def FnExactSamePitchClassSaid : Prop := fnExactSamePitchClassRow.holds Try.pinned (OpenSpec.ofChange fnExactSamePitchClassSpec)

/-- ITS FALSE NEIGHBOUR: 'it returns false'. Refute it at one input. -/
def fnExactSamePitchClassWrong : ChangeSpec := { name := "fnExactSamePitchClass", fn := fun _ => fun
  | [d1, d2] => { results := [.lit (.bool false)], args := [d1, d2] }
  | _ => none }
def FnExactSamePitchClassWrongFalsely : Prop := fnExactSamePitchClassRow.holds Try.pinned (OpenSpec.ofChange fnExactSamePitchClassWrong)

/-- 'laws.FnExactFifths': WHATEVER THE INPUT: true; the input reads as it did. -/
def fnExactFifthsSpec : ChangeSpec := { name := "fnExactFifths", fn := fun _ => fun
  | [d] => { results := [.lit (.bool true)], args := [d] }
  | _ => none }
def fnExactFifthsRow : OpenClaim := { program := "ytfimodphnfejdaa", sum := "ca56bc0c08076d8fa1ce6b152f0d98d7e8eb5ed719f196c2dda7db7542cea8de", func := "loop.example/g00989/laws.FnExactFifths", spec := "fnExactFifths", plainKeys := false, apart := false }
def FnExactFifthsSaid : Prop := fnExactFifthsRow.holds Try.pinned (OpenSpec.ofChange fnExactFifthsSpec)

/-- ITS FALSE NEIGHBOUR: 'it returns false'. Refute it at one input. -/
def fnExactFifthsWrong : ChangeSpec := { name := "fnExactFifths", fn := fun _ => fun
  | [d] => { results := [.lit (.bool false)], args := [d] }
  | _ => none }
def FnExactFifthsWrongFalsely : Prop := fnExactFifthsRow.holds Try.pinned (OpenSpec.ofChange fnExactFifthsWrong)

/-- 'laws.FnFifths': WHATEVER THE INPUT: true; the input reads as it did. -/
def fnFifthsSpec : ChangeSpec := { name := "fnFifths", fn := fun _ => fun
  | [d] => { results := [.lit (.bool true)], args := [d] }
  | _ => none }
def fnFifthsRow : OpenClaim := { program := "ytfimodphnfejdaa", sum := "ca56bc0c08076d8fa1ce6b152f0d98d7e8eb5ed719f196c2dda7db7542cea8de", func := "loop.example/g00989/laws.FnFifths", spec := "fnFifths", plainKeys := false, apart := false }
def FnFifthsSaid : Prop := fnFifthsRow.holds Try.pinned (OpenSpec.ofChange fnFifthsSpec)

/-- ITS FALSE NEIGHBOUR: 'it returns false'. Refute it at one input. -/
def fnFifthsWrong : ChangeSpec := { name := "fnFifths", fn := fun _ => fun
  | [d] => { results := [.lit (.bool false)], args := [d] }
  | _ => none }
def FnFifthsWrongFalsely : Prop := fnFifthsRow.holds Try.pinned (OpenSpec.ofChange fnFifthsWrong)

/-- 'laws.FnOctaves': WHATEVER THE INPUT: true; the input reads as it did. -/
def fnOctavesSpec : ChangeSpec := { name := "fnOctaves", fn := fun _ => fun
  | [d] => { results := [.lit (.bool true)], args := [d] }
  | _ => none }
def fnOctavesRow : OpenClaim := { program := "ytfimodphnfejdaa", sum := "ca56bc0c08076d8fa1ce6b152f0d98d7e8eb5ed719f196c2dda7db7542cea8de", func := "loop.example/g00989/laws.FnOctaves", spec := "fnOctaves", plainKeys := false, apart := false }
def FnOctavesSaid : Prop := fnOctavesRow.holds Try.pinned (OpenSpec.ofChange fnOctavesSpec)

/-- ITS FALSE NEIGHBOUR: 'it returns false'. Refute it at one input. -/
def fnOctavesWrong : ChangeSpec := { name := "fnOctaves", fn := fun _ => fun
  | [d] => { results := [.lit (.bool false)], args := [d] }
  | _ => none }
def FnOctavesWrongFalsely : Prop := fnOctavesRow.holds Try.pinned (OpenSpec.ofChange fnOctavesWrong)

/-- 'laws.FnOrder': WHATEVER THE INPUT: true; the input reads as it did. -/
def fnOrderSpec : ChangeSpec := { name := "fnOrder", fn := fun _ => fun
  | [d] => { results := [.lit (.bool true)], args := [d] }
  | _ => none }
def fnOrderRow : OpenClaim := { program := "ytfimodphnfejdaa", sum := "ca56bc0c08076d8fa1ce6b152f0d98d7e8eb5ed719f196c2dda7db7542cea8de", func := "loop.example/g00989/laws.FnOrder", spec := "fnOrder", plainKeys := false, apart := false }
def FnOrderSaid : Prop := fnOrderRow.holds Try.pinned (OpenSpec.ofChange fnOrderSpec)

/-- ITS FALSE NEIGHBOUR: 'it returns false'. Refute it at one input. -/
def fnOrderWrong : ChangeSpec := { name := "fnOrder", fn := fun _ => fun
  | [d] => { results := [.lit (.bool false)], args := [d] }
  | _ => none }
def FnOrderWrongFalsely : Prop := fnOrderRow.holds Try.pinned (OpenSpec.ofChange fnOrderWrong)

/-- 'laws.FnExactChainOf': WHATEVER THE INPUT: true; the input reads as it did. -/
def fnExactChainOfSpec : ChangeSpec := { name := "fnExactChainOf", fn := fun _ => fun
  | [d1, d2] => { results := [.lit (.bool true)], args := [d1, d2] }
  | _ => none }
def fnExactChainOfRow : OpenClaim := { program := "ytfimodphnfejdaa", sum := "ca56bc0c08076d8fa1ce6b152f0d98d7e8eb5ed719f196c2dda7db7542cea8de", func := "loop.example/g00989/laws.FnExactChainOf", spec := "fnExactChainOf", inPlace := ["internal/reflectlite.ValueOf", "internal/reflectlite.Swapper", "(internal/reflectlite.Value).Len"], unfollowed := true, recurses := true, plainKeys := false, apart := false }
def FnExactChainOfSaid : Prop := fnExactChainOfRow.holds Try.pinned (OpenSpec.ofChange fnExactChainOfSpec)

/-- ITS FALSE NEIGHBOUR: 'it returns false'. Refute it at one input. -/
def fnExactChainOfWrong : ChangeSpec := { name := "fnExactChainOf", fn := fun _ => fun
  | [d1, d2] => { results := [.lit (.bool false)], args := [d1, d2] }
  | _ => none }
def FnExactChainOfWrongFalsely : Prop := fnExactChainOfRow.holds Try.pinned (OpenSpec.ofChange fnExactChainOfWrong)

/-- 'laws.FnThreeSteps': WHATEVER THE INPUT: true; the input reads as it did. -/
def fnThreeStepsSpec : ChangeSpec := { name := "fnThreeSteps", fn := fun _ => fun
  | [d] => { results := [.lit (.bool true)], args := [d] }
  | _ => none }
def fnThreeStepsRow : OpenClaim := { program := "ytfimodphnfejdaa", sum := "ca56bc0c08076d8fa1ce6b152f0d98d7e8eb5ed719f196c2dda7db7542cea8de", func := "loop.example/g00989/laws.FnThreeSteps", spec := "fnThreeSteps", inPlace := ["internal/reflectlite.ValueOf", "internal/reflectlite.Swapper", "(internal/reflectlite.Value).Len"], unfollowed := true, recurses := true, plainKeys := false, apart := false }
def FnThreeStepsSaid : Prop := fnThreeStepsRow.holds Try.pinned (OpenSpec.ofChange fnThreeStepsSpec)

/-- ITS FALSE NEIGHBOUR: 'it returns false'. Refute it at one input. -/
def fnThreeStepsWrong : ChangeSpec := { name := "fnThreeSteps", fn := fun _ => fun
  | [d] => { results := [.lit (.bool false)], args := [d] }
  | _ => none }
def FnThreeStepsWrongFalsely : Prop := fnThreeStepsRow.holds Try.pinned (OpenSpec.ofChange fnThreeStepsWrong)

/- THE SECOND FORM. 'bulk': how many values and letters a reading holds, each counted each time it is reached (what is shared counts as often as it is met; a slice's spare places count too). A statement '..UptoSaid' is the law's where the arguments, and the package variables that the reading takes, are together of bulk at most 1048576: NARROWER than '..Said'. Prove '..Said' where nothing that the law and all that it calls make is longer than what came in: it says more and counts as full. Else prove '..UptoSaid'. A law counts once. -/
mutual
def uptoBulk {H : Type} : DataW H → Nat
  | .lit (.string bytes) => bytes.length + 1
  | .lit _ => 1
  | .nil => 1
  | .ptr d => uptoBulk d + 1
  | .slice elems spare => uptoBulkAll elems + uptoBulkAll spare + 1
  | .agg parts => uptoBulkAll parts + 1
  | .iface _ d => uptoBulk d + 1
  | .map entries => uptoBulkEntries entries + 1
  | .held _ => 1
def uptoBulkAll {H : Type} : List (DataW H) → Nat
  | [] => 0
  | d :: r => uptoBulk d + uptoBulkAll r
def uptoBulkEntries {H : Type} : List (Lit × DataW H) → Nat
  | [] => 0
  | x :: r => uptoBulkEntry x + uptoBulkEntries r
def uptoBulkEntry {H : Type} : Lit × DataW H → Nat
  | (.string bytes, d) => bytes.length + uptoBulk d + 1
  | (_, d) => uptoBulk d + 1
 end
def uptoSmall : (H : Type) → List (DataW H) → Bool := fun _ ds => decide (uptoBulkAll ds ≤ 1048576)
def OpenSpec.upto (s : _root_.Go.ChangeSpec) : _root_.Go.OpenSpec := { _root_.Go.OpenSpec.ofChange s with cond := some uptoSmall }

/-- 'laws.FnExactOctavesIn', WHERE WHAT IT READS IS OF BULK AT MOST 1048576: true; the input reads as it did. -/
def fnExactOctavesInUptoRow : OpenClaim := { program := "ytfimodphnfejdaa", sum := "ca56bc0c08076d8fa1ce6b152f0d98d7e8eb5ed719f196c2dda7db7542cea8de", func := "loop.example/g00989/laws.FnExactOctavesIn", spec := "fnExactOctavesIn", plainKeys := false, apart := false, narrowed := true }
def FnExactOctavesInUptoSaid : Prop := fnExactOctavesInUptoRow.holds Try.pinned (OpenSpec.upto fnExactOctavesInSpec)

/-- 'laws.FnExactWithinOctave', WHERE WHAT IT READS IS OF BULK AT MOST 1048576: true; the input reads as it did. -/
def fnExactWithinOctaveUptoRow : OpenClaim := { program := "ytfimodphnfejdaa", sum := "ca56bc0c08076d8fa1ce6b152f0d98d7e8eb5ed719f196c2dda7db7542cea8de", func := "loop.example/g00989/laws.FnExactWithinOctave", spec := "fnExactWithinOctave", plainKeys := false, apart := false, narrowed := true }
def FnExactWithinOctaveUptoSaid : Prop := fnExactWithinOctaveUptoRow.holds Try.pinned (OpenSpec.upto fnExactWithinOctaveSpec)

/-- 'laws.FnExactSamePitchClass', WHERE WHAT IT READS IS OF BULK AT MOST 1048576: true; the input reads as it did. -/
def fnExactSamePitchClassUptoRow : OpenClaim := { program := "ytfimodphnfejdaa", sum := "ca56bc0c08076d8fa1ce6b152f0d98d7e8eb5ed719f196c2dda7db7542cea8de", func := "loop.example/g00989/laws.FnExactSamePitchClass", spec := "fnExactSamePitchClass", plainKeys := false, apart := false, narrowed := true }
def FnExactSamePitchClassUptoSaid : Prop := fnExactSamePitchClassUptoRow.holds Try.pinned (OpenSpec.upto fnExactSamePitchClassSpec)

/-- 'laws.FnExactFifths', WHERE WHAT IT READS IS OF BULK AT MOST 1048576: true; the input reads as it did. -/
def fnExactFifthsUptoRow : OpenClaim := { program := "ytfimodphnfejdaa", sum := "ca56bc0c08076d8fa1ce6b152f0d98d7e8eb5ed719f196c2dda7db7542cea8de", func := "loop.example/g00989/laws.FnExactFifths", spec := "fnExactFifths", plainKeys := false, apart := false, narrowed := true }
def FnExactFifthsUptoSaid : Prop := fnExactFifthsUptoRow.holds Try.pinned (OpenSpec.upto fnExactFifthsSpec)

/-- 'laws.FnFifths', WHERE WHAT IT READS IS OF BULK AT MOST 1048576: true; the input reads as it did. -/
def fnFifthsUptoRow : OpenClaim := { program := "ytfimodphnfejdaa", sum := "ca56bc0c08076d8fa1ce6b152f0d98d7e8eb5ed719f196c2dda7db7542cea8de", func := "loop.example/g00989/laws.FnFifths", spec := "fnFifths", plainKeys := false, apart := false, narrowed := true }
def FnFifthsUptoSaid : Prop := fnFifthsUptoRow.holds Try.pinned (OpenSpec.upto fnFifthsSpec)

/-- 'laws.FnOctaves', WHERE WHAT IT READS IS OF BULK AT MOST 1048576: true; the input reads as it did. -/
def fnOctavesUptoRow : OpenClaim := { program := "ytfimodphnfejdaa", sum := "ca56bc0c08076d8fa1ce6b152f0d98d7e8eb5ed719f196c2dda7db7542cea8de", func := "loop.example/g00989/laws.FnOctaves", spec := "fnOctaves", plainKeys := false, apart := false, narrowed := true }
def FnOctavesUptoSaid : Prop := fnOctavesUptoRow.holds Try.pinned (OpenSpec.upto fnOctavesSpec)

/-- 'laws.FnOrder', WHERE WHAT IT READS IS OF BULK AT MOST 1048576: true; the input reads as it did. -/
def fnOrderUptoRow : OpenClaim := { program := "ytfimodphnfejdaa", sum := "ca56bc0c08076d8fa1ce6b152f0d98d7e8eb5ed719f196c2dda7db7542cea8de", func := "loop.example/g00989/laws.FnOrder", spec := "fnOrder", plainKeys := false, apart := false, narrowed := true }
def FnOrderUptoSaid : Prop := fnOrderUptoRow.holds Try.pinned (OpenSpec.upto fnOrderSpec)

/-- 'laws.FnExactChainOf', WHERE WHAT IT READS IS OF BULK AT MOST 1048576: true; the input reads as it did. -/
def fnExactChainOfUptoRow : OpenClaim := { program := "ytfimodphnfejdaa", sum := "ca56bc0c08076d8fa1ce6b152f0d98d7e8eb5ed719f196c2dda7db7542cea8de", func := "loop.example/g00989/laws.FnExactChainOf", spec := "fnExactChainOf", inPlace := ["internal/reflectlite.ValueOf", "internal/reflectlite.Swapper", "(internal/reflectlite.Value).Len"], unfollowed := true, recurses := true, plainKeys := false, apart := false, narrowed := true }
def FnExactChainOfUptoSaid : Prop := fnExactChainOfUptoRow.holds Try.pinned (OpenSpec.upto fnExactChainOfSpec)

/-- 'laws.FnThreeSteps', WHERE WHAT IT READS IS OF BULK AT MOST 1048576: true; the input reads as it did. -/
def fnThreeStepsUptoRow : OpenClaim := { program := "ytfimodphnfejdaa", sum := "ca56bc0c08076d8fa1ce6b152f0d98d7e8eb5ed719f196c2dda7db7542cea8de", func := "loop.example/g00989/laws.FnThreeSteps", spec := "fnThreeSteps", inPlace := ["internal/reflectlite.ValueOf", "internal/reflectlite.Swapper", "(internal/reflectlite.Value).Len"], unfollowed := true, recurses := true, plainKeys := false, apart := false, narrowed := true }
def FnThreeStepsUptoSaid : Prop := fnThreeStepsUptoRow.holds Try.pinned (OpenSpec.upto fnThreeStepsSpec)

end Rows
end Go.Proofs.Ytfimodphnfejdaa
