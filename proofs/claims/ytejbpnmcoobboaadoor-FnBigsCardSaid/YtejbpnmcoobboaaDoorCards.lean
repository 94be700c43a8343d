/-
  DERIVED. GIVEN WITH THE SEED: THE CARDS: each row of YtejbpnmcoobboaaDoorRows.lean that lists a variable, with what it lists TIED to the program's text (the seventh form; the later family's looks); each row that meets fmt, with fmt's text TOLD by the authors' own Lean function (tested against real Go, not proved from fmt's source: count such statements apart). THE CARD IS WHAT COUNTS. Prove the row's statement (the work); the ties are given (YtejbpnmcoobboaaDoorTie.lean); close each card by the builder's one call (the guide's Derived/Test/ToyasCard.lean, 'card_holds'). Laid BY PROGRAM, IN A SANDBOX (cutbox-door.mjs). By AI agents, Wed Nov 11 2026. No macro, syntax, notation, axiom, sorry.
-/
import Derived.Test.YtejbpnmcoobboaaDoorRows
import GoSem.ClaimSeven
namespace Go.Proofs.YtejbpnmcoobboaaDoor
namespace Rows

/-- THE TIED CARD OF 'laws.FnExactBigText'. -/
def fnExactBigTextCard : Claim7 := { stood := { row := fnExactBigTextRow, standIns := [], harness := (true, "8927c81c4eb3a720934f552611c486ff78b34ba183636cc53774386f5186c866"), looks := false }, kinds := [], alts := [], laidByText := true, laidKinds := [.data, .data, .data], laidTests := true, laidLooks := .later }
def FnExactBigTextCardSaid : Prop := Claim7.holds Tryd.pinned (.plain (OpenSpec.ofChange fnExactBigTextSpec)) fnExactBigTextCard

/-- THE TIED CARD OF 'laws.FnBigs'. -/
def fnBigsCard : Claim7 := { stood := { row := fnBigsRow, standIns := [], harness := (true, "8927c81c4eb3a720934f552611c486ff78b34ba183636cc53774386f5186c866"), looks := false }, kinds := [], alts := [], laidByText := true, laidKinds := [.data, .data, .data], laidTests := true, laidLooks := .later }
def FnBigsCardSaid : Prop := Claim7.holds Tryd.pinned (.plain (OpenSpec.ofChange fnBigsSpec)) fnBigsCard

/-- THE SECOND FORM's CARD OF 'laws.FnExactBigText'. -/
def fnExactBigTextUptoCard : Claim7 := { stood := { row := fnExactBigTextUptoRow, standIns := [], harness := (true, "8927c81c4eb3a720934f552611c486ff78b34ba183636cc53774386f5186c866"), looks := false }, kinds := [], alts := [], laidByText := true, laidKinds := [.data, .data, .data], laidTests := true, laidLooks := .later }
def FnExactBigTextUptoCardSaid : Prop := Claim7.holds Tryd.pinned (.plain (OpenSpec.upto fnExactBigTextSpec)) fnExactBigTextUptoCard

/-- THE SECOND FORM's CARD OF 'laws.FnBigs'. -/
def fnBigsUptoCard : Claim7 := { stood := { row := fnBigsUptoRow, standIns := [], harness := (true, "8927c81c4eb3a720934f552611c486ff78b34ba183636cc53774386f5186c866"), looks := false }, kinds := [], alts := [], laidByText := true, laidKinds := [.data, .data, .data], laidTests := true, laidLooks := .later }
def FnBigsUptoCardSaid : Prop := Claim7.holds Tryd.pinned (.plain (OpenSpec.upto fnBigsSpec)) fnBigsUptoCard
end Rows
end Go.Proofs.YtejbpnmcoobboaaDoor
