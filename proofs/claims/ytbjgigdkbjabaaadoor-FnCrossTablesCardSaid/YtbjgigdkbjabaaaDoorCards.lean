/-
  DERIVED. GIVEN WITH THE SEED: THE CARDS: each row of YtbjgigdkbjabaaaDoorRows.lean that lists a variable, with what it lists TIED to the program's text (the seventh form; the later family's looks); each row that meets fmt, with fmt's text TOLD by the authors' own Lean function (tested against real Go, not proved from fmt's source: count such statements apart). THE CARD IS WHAT COUNTS. Prove the row's statement (the work); the ties are given (YtbjgigdkbjabaaaDoorTie.lean); close each card by the builder's one call (the guide's Derived/Test/ToyasCard.lean, 'card_holds'). Laid BY PROGRAM, IN A SANDBOX (cutbox-door.mjs). By AI agents, Wed Nov 11 2026. No macro, syntax, notation, axiom, sorry.
-/
import Derived.Test.YtbjgigdkbjabaaaDoorRows
import GoSem.ClaimSeven
namespace Go.Proofs.YtbjgigdkbjabaaaDoor
namespace Rows

/-- THE TIED CARD OF 'laws.FnExactReadRules'. -/
def fnExactReadRulesCard : Claim7 := { stood := { row := fnExactReadRulesRow, standIns := [], harness := (true, "cf7da85aba921c0a137666ee167e91f821a3b8d94663f1f91e3d68700fadb406"), looks := false }, kinds := [], alts := [], laidByText := true, laidKinds := [.data, .data, .data], laidTests := true, laidLooks := .later }
def FnExactReadRulesCardSaid : Prop := Claim7.holds Tryd.pinned (.plain (OpenSpec.ofChange fnExactReadRulesSpec)) fnExactReadRulesCard

/-- THE TIED CARD OF 'laws.FnExactCrossTable'. -/
def fnExactCrossTableCard : Claim7 := { stood := { row := fnExactCrossTableRow, standIns := [], harness := (true, "cf7da85aba921c0a137666ee167e91f821a3b8d94663f1f91e3d68700fadb406"), looks := false }, kinds := [], alts := [], laidByText := true, laidKinds := [.data, .data, .data], laidTests := true, laidLooks := .later }
def FnExactCrossTableCardSaid : Prop := Claim7.holds Tryd.pinned (.plain (OpenSpec.ofChange fnExactCrossTableSpec)) fnExactCrossTableCard

/-- THE TIED CARD OF 'laws.FnCrossTables'. -/
def fnCrossTablesCard : Claim7 := { stood := { row := fnCrossTablesRow, standIns := [], harness := (true, "cf7da85aba921c0a137666ee167e91f821a3b8d94663f1f91e3d68700fadb406"), looks := false }, kinds := [], alts := [], laidByText := true, laidKinds := [.data, .data, .data], laidTests := true, laidLooks := .later }
def FnCrossTablesCardSaid : Prop := Claim7.holds Tryd.pinned (.plain (OpenSpec.ofChange fnCrossTablesSpec)) fnCrossTablesCard

/-- THE SECOND FORM's CARD OF 'laws.FnExactReadRules'. -/
def fnExactReadRulesUptoCard : Claim7 := { stood := { row := fnExactReadRulesUptoRow, standIns := [], harness := (true, "cf7da85aba921c0a137666ee167e91f821a3b8d94663f1f91e3d68700fadb406"), looks := false }, kinds := [], alts := [], laidByText := true, laidKinds := [.data, .data, .data], laidTests := true, laidLooks := .later }
def FnExactReadRulesUptoCardSaid : Prop := Claim7.holds Tryd.pinned (.plain (OpenSpec.upto fnExactReadRulesSpec)) fnExactReadRulesUptoCard

/-- THE SECOND FORM's CARD OF 'laws.FnExactCrossTable'. -/
def fnExactCrossTableUptoCard : Claim7 := { stood := { row := fnExactCrossTableUptoRow, standIns := [], harness := (true, "cf7da85aba921c0a137666ee167e91f821a3b8d94663f1f91e3d68700fadb406"), looks := false }, kinds := [], alts := [], laidByText := true, laidKinds := [.data, .data, .data], laidTests := true, laidLooks := .later }
def FnExactCrossTableUptoCardSaid : Prop := Claim7.holds Tryd.pinned (.plain (OpenSpec.upto fnExactCrossTableSpec)) fnExactCrossTableUptoCard

/-- THE SECOND FORM's CARD OF 'laws.FnCrossTables'. -/
def fnCrossTablesUptoCard : Claim7 := { stood := { row := fnCrossTablesUptoRow, standIns := [], harness := (true, "cf7da85aba921c0a137666ee167e91f821a3b8d94663f1f91e3d68700fadb406"), looks := false }, kinds := [], alts := [], laidByText := true, laidKinds := [.data, .data, .data], laidTests := true, laidLooks := .later }
def FnCrossTablesUptoCardSaid : Prop := Claim7.holds Tryd.pinned (.plain (OpenSpec.upto fnCrossTablesSpec)) fnCrossTablesUptoCard
end Rows
end Go.Proofs.YtbjgigdkbjabaaaDoor
