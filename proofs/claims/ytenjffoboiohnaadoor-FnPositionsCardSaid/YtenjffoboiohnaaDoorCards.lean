/-
  DERIVED. GIVEN WITH THE SEED: THE CARDS: each row of YtenjffoboiohnaaDoorRows.lean that lists a variable, with what it lists TIED to the program's text (the seventh form; the later family's looks); each row that meets fmt, with fmt's text TOLD by the authors' own Lean function (tested against real Go, not proved from fmt's source: count such statements apart). THE CARD IS WHAT COUNTS. Prove the row's statement (the work); the ties are given (YtenjffoboiohnaaDoorTie.lean); close each card by the builder's one call (the guide's Derived/Test/ToyasCard.lean, 'card_holds'). Laid BY PROGRAM, IN A SANDBOX (cutbox-door.mjs). By AI agents, Wed Nov 11 2026. No macro, syntax, notation, axiom, sorry.
-/
import Derived.Test.YtenjffoboiohnaaDoorRows
import GoSem.ClaimSeven
namespace Go.Proofs.YtenjffoboiohnaaDoor
namespace Rows

/-- THE TIED CARD OF 'laws.FnPositions'. -/
def fnPositionsCard : Claim7 := { stood := { row := fnPositionsRow, standIns := [], harness := (true, "5a94c0a172f959b1e46538c4b8275e126a53ac15c33cdb9ddfa0b709a7424aff"), looks := false }, kinds := [], alts := [], laidByText := true, laidKinds := [.data, .data, .data], laidTests := true, laidLooks := .later }
def FnPositionsCardSaid : Prop := Claim7.holds Tryd.pinned (.plain (OpenSpec.ofChange fnPositionsSpec)) fnPositionsCard

/-- THE SECOND FORM's CARD OF 'laws.FnPositions'. -/
def fnPositionsUptoCard : Claim7 := { stood := { row := fnPositionsUptoRow, standIns := [], harness := (true, "5a94c0a172f959b1e46538c4b8275e126a53ac15c33cdb9ddfa0b709a7424aff"), looks := false }, kinds := [], alts := [], laidByText := true, laidKinds := [.data, .data, .data], laidTests := true, laidLooks := .later }
def FnPositionsUptoCardSaid : Prop := Claim7.holds Tryd.pinned (.plain (OpenSpec.upto fnPositionsSpec)) fnPositionsUptoCard
end Rows
end Go.Proofs.YtenjffoboiohnaaDoor
