/-
  No cell of these rows narrows 'for every input' (looked for: loops, veiled, ifaces, maps, wideKeys, modest, calm, conditions, laid).
  DERIVED. THE GIVEN ROWS OF THIS SEAT. 12 by the template 'for every input the law returns true; each argument reads behind the call as it read before'; 0 by the template 'total and deterministic' (their statements: YtmadcifcbckcnaaTotals.lean).
  GIVEN WITH THE SEED: the statements are not yours to turn. If you find one false, say at which input.
  Laid BY PROGRAM, IN A SANDBOX (cutbox-rows.mjs): the forced cells as the released guide's own fill.sh prints them over the translation 9c09185eef23f0e0… (all of the seat's roots in one cut). By AI agents, Wed Nov 11 2026. No macro, syntax, notation, axiom, sorry.
-/
import Derived.Test.YtmadcifcbckcnaaChecked
import GoSem.Claim
import GoSem.ClaimJoined
import GoSem.ClaimMapViews
import Derived.JoinedTies
import Derived.KernelRfl
namespace Go.Proofs.Ytmadcifcbckcnaa
/- THE CELL 'sum', in the pinned program and in every row, IS THE sha256 OF THE DUMP (.gsa) THAT YtmadcifcbckcnaaProg.lean LOADS. Nothing in Lean hashes anything: it is a label: what it is worth is what the hold of that sum in a sandbox is worth. -/
noncomputable def Try.pinned : Pinned := { name := "ytmadcifcbckcnaa", sum := "9c09185eef23f0e0547fe79a67b196c6c5ac55a4d56ab7c5517d55c8586af043", checked := Try.checked }
namespace Rows
def none {H : Type} : Left H := { results := [], args := [] }

/-- 'laws.FnExactWhyNot': WHATEVER THE INPUT: true; the input reads as it did. -/
def fnExactWhyNotSpec : ChangeSpec := { name := "fnExactWhyNot", fn := fun _ => fun
  | [d1, d2, d3] => { results := [.lit (.bool true)], args := [d1, d2, d3] }
  | _ => none }
def fnExactWhyNotRow : OpenClaim := { program := "ytmadcifcbckcnaa", sum := "9c09185eef23f0e0547fe79a67b196c6c5ac55a4d56ab7c5517d55c8586af043", func := "loop.example/g00926/laws.FnExactWhyNot", spec := "fnExactWhyNot", apart := false }
def FnExactWhyNotSaid : Prop := fnExactWhyNotRow.holds Try.pinned (OpenSpec.ofChange fnExactWhyNotSpec)

/-- ITS FALSE NEIGHBOUR: 'it returns false'. Refute it at one input. -/
def fnExactWhyNotWrong : ChangeSpec := { name := "fnExactWhyNot", fn := fun _ => fun
  | [d1, d2, d3] => { results := [.lit (.bool false)], args := [d1, d2, d3] }
  | _ => none }
def FnExactWhyNotWrongFalsely : Prop := fnExactWhyNotRow.holds Try.pinned (OpenSpec.ofChange fnExactWhyNotWrong)

/-- 'laws.FnExactLegalMoves': WHATEVER THE INPUT: true; the input reads as it did. -/
def fnExactLegalMovesSpec : ChangeSpec := { name := "fnExactLegalMoves", fn := fun _ => fun
  | [d1, d2] => { results := [.lit (.bool true)], args := [d1, d2] }
  | _ => none }
def fnExactLegalMovesRow : OpenClaim := { program := "ytmadcifcbckcnaa", sum := "9c09185eef23f0e0547fe79a67b196c6c5ac55a4d56ab7c5517d55c8586af043", func := "loop.example/g00926/laws.FnExactLegalMoves", spec := "fnExactLegalMoves", apart := false }
def FnExactLegalMovesSaid : Prop := fnExactLegalMovesRow.holds Try.pinned (OpenSpec.ofChange fnExactLegalMovesSpec)

/-- ITS FALSE NEIGHBOUR: 'it returns false'. Refute it at one input. -/
def fnExactLegalMovesWrong : ChangeSpec := { name := "fnExactLegalMoves", fn := fun _ => fun
  | [d1, d2] => { results := [.lit (.bool false)], args := [d1, d2] }
  | _ => none }
def FnExactLegalMovesWrongFalsely : Prop := fnExactLegalMovesRow.holds Try.pinned (OpenSpec.ofChange fnExactLegalMovesWrong)

/-- 'laws.FnExactMakeMove': WHATEVER THE INPUT: true; the input reads as it did. -/
def fnExactMakeMoveSpec : ChangeSpec := { name := "fnExactMakeMove", fn := fun _ => fun
  | [d1, d2, d3] => { results := [.lit (.bool true)], args := [d1, d2, d3] }
  | _ => none }
def fnExactMakeMoveRow : OpenClaim := { program := "ytmadcifcbckcnaa", sum := "9c09185eef23f0e0547fe79a67b196c6c5ac55a4d56ab7c5517d55c8586af043", func := "loop.example/g00926/laws.FnExactMakeMove", spec := "fnExactMakeMove", apart := false }
def FnExactMakeMoveSaid : Prop := fnExactMakeMoveRow.holds Try.pinned (OpenSpec.ofChange fnExactMakeMoveSpec)

/-- ITS FALSE NEIGHBOUR: 'it returns false'. Refute it at one input. -/
def fnExactMakeMoveWrong : ChangeSpec := { name := "fnExactMakeMove", fn := fun _ => fun
  | [d1, d2, d3] => { results := [.lit (.bool false)], args := [d1, d2, d3] }
  | _ => none }
def FnExactMakeMoveWrongFalsely : Prop := fnExactMakeMoveRow.holds Try.pinned (OpenSpec.ofChange fnExactMakeMoveWrong)

/-- 'laws.FnExactGreedyMove': WHATEVER THE INPUT: true; the input reads as it did. -/
def fnExactGreedyMoveSpec : ChangeSpec := { name := "fnExactGreedyMove", fn := fun _ => fun
  | [d1, d2] => { results := [.lit (.bool true)], args := [d1, d2] }
  | _ => none }
def fnExactGreedyMoveRow : OpenClaim := { program := "ytmadcifcbckcnaa", sum := "9c09185eef23f0e0547fe79a67b196c6c5ac55a4d56ab7c5517d55c8586af043", func := "loop.example/g00926/laws.FnExactGreedyMove", spec := "fnExactGreedyMove", apart := false }
def FnExactGreedyMoveSaid : Prop := fnExactGreedyMoveRow.holds Try.pinned (OpenSpec.ofChange fnExactGreedyMoveSpec)

/-- ITS FALSE NEIGHBOUR: 'it returns false'. Refute it at one input. -/
def fnExactGreedyMoveWrong : ChangeSpec := { name := "fnExactGreedyMove", fn := fun _ => fun
  | [d1, d2] => { results := [.lit (.bool false)], args := [d1, d2] }
  | _ => none }
def FnExactGreedyMoveWrongFalsely : Prop := fnExactGreedyMoveRow.holds Try.pinned (OpenSpec.ofChange fnExactGreedyMoveWrong)

/-- 'laws.FnExactTouchedPits': WHATEVER THE INPUT: true; the input reads as it did. -/
def fnExactTouchedPitsSpec : ChangeSpec := { name := "fnExactTouchedPits", fn := fun _ => fun
  | [d1, d2, d3] => { results := [.lit (.bool true)], args := [d1, d2, d3] }
  | _ => none }
def fnExactTouchedPitsRow : OpenClaim := { program := "ytmadcifcbckcnaa", sum := "9c09185eef23f0e0547fe79a67b196c6c5ac55a4d56ab7c5517d55c8586af043", func := "loop.example/g00926/laws.FnExactTouchedPits", spec := "fnExactTouchedPits", apart := false }
def FnExactTouchedPitsSaid : Prop := fnExactTouchedPitsRow.holds Try.pinned (OpenSpec.ofChange fnExactTouchedPitsSpec)

/-- ITS FALSE NEIGHBOUR: 'it returns false'. Refute it at one input. -/
def fnExactTouchedPitsWrong : ChangeSpec := { name := "fnExactTouchedPits", fn := fun _ => fun
  | [d1, d2, d3] => { results := [.lit (.bool false)], args := [d1, d2, d3] }
  | _ => none }
def FnExactTouchedPitsWrongFalsely : Prop := fnExactTouchedPitsRow.holds Try.pinned (OpenSpec.ofChange fnExactTouchedPitsWrong)

/-- 'laws.FnExactResultsOf': WHATEVER THE INPUT: true; the input reads as it did. -/
def fnExactResultsOfSpec : ChangeSpec := { name := "fnExactResultsOf", fn := fun _ => fun
  | [d1, d2] => { results := [.lit (.bool true)], args := [d1, d2] }
  | _ => none }
def fnExactResultsOfRow : OpenClaim := { program := "ytmadcifcbckcnaa", sum := "9c09185eef23f0e0547fe79a67b196c6c5ac55a4d56ab7c5517d55c8586af043", func := "loop.example/g00926/laws.FnExactResultsOf", spec := "fnExactResultsOf", apart := false }
def FnExactResultsOfSaid : Prop := fnExactResultsOfRow.holds Try.pinned (OpenSpec.ofChange fnExactResultsOfSpec)

/-- ITS FALSE NEIGHBOUR: 'it returns false'. Refute it at one input. -/
def fnExactResultsOfWrong : ChangeSpec := { name := "fnExactResultsOf", fn := fun _ => fun
  | [d1, d2] => { results := [.lit (.bool false)], args := [d1, d2] }
  | _ => none }
def FnExactResultsOfWrongFalsely : Prop := fnExactResultsOfRow.holds Try.pinned (OpenSpec.ofChange fnExactResultsOfWrong)

/-- 'laws.FnExactLineValue': WHATEVER THE INPUT: true; the input reads as it did. -/
def fnExactLineValueSpec : ChangeSpec := { name := "fnExactLineValue", fn := fun _ => fun
  | [d1, d2, d3] => { results := [.lit (.bool true)], args := [d1, d2, d3] }
  | _ => none }
def fnExactLineValueRow : OpenClaim := { program := "ytmadcifcbckcnaa", sum := "9c09185eef23f0e0547fe79a67b196c6c5ac55a4d56ab7c5517d55c8586af043", func := "loop.example/g00926/laws.FnExactLineValue", spec := "fnExactLineValue", apart := false }
def FnExactLineValueSaid : Prop := fnExactLineValueRow.holds Try.pinned (OpenSpec.ofChange fnExactLineValueSpec)

/-- ITS FALSE NEIGHBOUR: 'it returns false'. Refute it at one input. -/
def fnExactLineValueWrong : ChangeSpec := { name := "fnExactLineValue", fn := fun _ => fun
  | [d1, d2, d3] => { results := [.lit (.bool false)], args := [d1, d2, d3] }
  | _ => none }
def FnExactLineValueWrongFalsely : Prop := fnExactLineValueRow.holds Try.pinned (OpenSpec.ofChange fnExactLineValueWrong)

/-- 'laws.FnExactGameFrom': WHATEVER THE INPUT: true; the input reads as it did. -/
def fnExactGameFromSpec : ChangeSpec := { name := "fnExactGameFrom", fn := fun _ => fun
  | [d1, d2] => { results := [.lit (.bool true)], args := [d1, d2] }
  | _ => none }
def fnExactGameFromRow : OpenClaim := { program := "ytmadcifcbckcnaa", sum := "9c09185eef23f0e0547fe79a67b196c6c5ac55a4d56ab7c5517d55c8586af043", func := "loop.example/g00926/laws.FnExactGameFrom", spec := "fnExactGameFrom", apart := false }
def FnExactGameFromSaid : Prop := fnExactGameFromRow.holds Try.pinned (OpenSpec.ofChange fnExactGameFromSpec)

/-- ITS FALSE NEIGHBOUR: 'it returns false'. Refute it at one input. -/
def fnExactGameFromWrong : ChangeSpec := { name := "fnExactGameFrom", fn := fun _ => fun
  | [d1, d2] => { results := [.lit (.bool false)], args := [d1, d2] }
  | _ => none }
def FnExactGameFromWrongFalsely : Prop := fnExactGameFromRow.holds Try.pinned (OpenSpec.ofChange fnExactGameFromWrong)

/-- 'laws.FnFeeding': WHATEVER THE INPUT: true; the input reads as it did. -/
def fnFeedingSpec : ChangeSpec := { name := "fnFeeding", fn := fun _ => fun
  | [d] => { results := [.lit (.bool true)], args := [d] }
  | _ => none }
def fnFeedingRow : OpenClaim := { program := "ytmadcifcbckcnaa", sum := "9c09185eef23f0e0547fe79a67b196c6c5ac55a4d56ab7c5517d55c8586af043", func := "loop.example/g00926/laws.FnFeeding", spec := "fnFeeding", apart := false }
def FnFeedingSaid : Prop := fnFeedingRow.holds Try.pinned (OpenSpec.ofChange fnFeedingSpec)

/-- ITS FALSE NEIGHBOUR: 'it returns false'. Refute it at one input. -/
def fnFeedingWrong : ChangeSpec := { name := "fnFeeding", fn := fun _ => fun
  | [d] => { results := [.lit (.bool false)], args := [d] }
  | _ => none }
def FnFeedingWrongFalsely : Prop := fnFeedingRow.holds Try.pinned (OpenSpec.ofChange fnFeedingWrong)

/-- 'laws.FnMoves': WHATEVER THE INPUT: true; the input reads as it did. -/
def fnMovesSpec : ChangeSpec := { name := "fnMoves", fn := fun _ => fun
  | [d] => { results := [.lit (.bool true)], args := [d] }
  | _ => none }
def fnMovesRow : OpenClaim := { program := "ytmadcifcbckcnaa", sum := "9c09185eef23f0e0547fe79a67b196c6c5ac55a4d56ab7c5517d55c8586af043", func := "loop.example/g00926/laws.FnMoves", spec := "fnMoves", apart := false }
def FnMovesSaid : Prop := fnMovesRow.holds Try.pinned (OpenSpec.ofChange fnMovesSpec)

/-- ITS FALSE NEIGHBOUR: 'it returns false'. Refute it at one input. -/
def fnMovesWrong : ChangeSpec := { name := "fnMoves", fn := fun _ => fun
  | [d] => { results := [.lit (.bool false)], args := [d] }
  | _ => none }
def FnMovesWrongFalsely : Prop := fnMovesRow.holds Try.pinned (OpenSpec.ofChange fnMovesWrong)

/-- 'laws.FnTurnedMoves': WHATEVER THE INPUT: true; the input reads as it did. -/
def fnTurnedMovesSpec : ChangeSpec := { name := "fnTurnedMoves", fn := fun _ => fun
  | [d1, d2] => { results := [.lit (.bool true)], args := [d1, d2] }
  | _ => none }
def fnTurnedMovesRow : OpenClaim := { program := "ytmadcifcbckcnaa", sum := "9c09185eef23f0e0547fe79a67b196c6c5ac55a4d56ab7c5517d55c8586af043", func := "loop.example/g00926/laws.FnTurnedMoves", spec := "fnTurnedMoves", apart := false }
def FnTurnedMovesSaid : Prop := fnTurnedMovesRow.holds Try.pinned (OpenSpec.ofChange fnTurnedMovesSpec)

/-- ITS FALSE NEIGHBOUR: 'it returns false'. Refute it at one input. -/
def fnTurnedMovesWrong : ChangeSpec := { name := "fnTurnedMoves", fn := fun _ => fun
  | [d1, d2] => { results := [.lit (.bool false)], args := [d1, d2] }
  | _ => none }
def FnTurnedMovesWrongFalsely : Prop := fnTurnedMovesRow.holds Try.pinned (OpenSpec.ofChange fnTurnedMovesWrong)

/-- 'laws.FnExactViewOf': WHATEVER THE INPUT: true; the input reads as it did. -/
def fnExactViewOfSpec : ChangeSpec := { name := "fnExactViewOf", fn := fun _ => fun
  | [d1, d2] => { results := [.lit (.bool true)], args := [d1, d2] }
  | _ => none }
def fnExactViewOfRow : OpenClaim := { program := "ytmadcifcbckcnaa", sum := "9c09185eef23f0e0547fe79a67b196c6c5ac55a4d56ab7c5517d55c8586af043", func := "loop.example/g00926/laws.FnExactViewOf", spec := "fnExactViewOf", apart := false }
def FnExactViewOfSaid : Prop := fnExactViewOfRow.holds Try.pinned (OpenSpec.ofChange fnExactViewOfSpec)

/-- ITS FALSE NEIGHBOUR: 'it returns false'. Refute it at one input. -/
def fnExactViewOfWrong : ChangeSpec := { name := "fnExactViewOf", fn := fun _ => fun
  | [d1, d2] => { results := [.lit (.bool false)], args := [d1, d2] }
  | _ => none }
def FnExactViewOfWrongFalsely : Prop := fnExactViewOfRow.holds Try.pinned (OpenSpec.ofChange fnExactViewOfWrong)

/- THE SECOND FORM. 'bulk': how many values and letters a reading holds, each counted each time it is reached (what is shared counts as often as it is met; a slice's spare places count too). A statement '..UptoSaid' is the law's where the arguments, and the package variables that the reading takes, are together of bulk at most 1048576: NARROWER than '..Said'. Prove '..Said' where nothing that the law and all that it calls make is longer than what came in: it says more and counts as full. Else prove '..UptoSaid'. A law counts once. -/
mutual
def uptoBulk {H : Type} : DataW H → Nat
  | .lit (.string bytes) => bytes.length + 1
  | .lit _ => 1
  | .nil => 1
  | .ptr d => uptoBulk d + 1
  | .slice elems spare => uptoBulkAll elems + uptoBulkAll spare + 1
  | .agg parts => uptoBulkAll parts + 1
  | .iface _ d => uptoBulk d + 1
  | .map entries => uptoBulkEntries entries + 1
  | .held _ => 1
def uptoBulkAll {H : Type} : List (DataW H) → Nat
  | [] => 0
  | d :: r => uptoBulk d + uptoBulkAll r
def uptoBulkEntries {H : Type} : List (Lit × DataW H) → Nat
  | [] => 0
  | x :: r => uptoBulkEntry x + uptoBulkEntries r
def uptoBulkEntry {H : Type} : Lit × DataW H → Nat
  | (.string bytes, d) => bytes.length + uptoBulk d + 1
  | (_, d) => uptoBulk d + 1
 end
def uptoSmall : (H : Type) → List (DataW H) → Bool := fun _ ds => decide (uptoBulkAll ds ≤ 1048576)
def OpenSpec.upto (s : _root_.Go.ChangeSpec) : _root_.Go.OpenSpec := { _root_.Go.OpenSpec.ofChange s with cond := some uptoSmall }

/-- 'laws.FnExactWhyNot', WHERE WHAT IT READS IS OF BULK AT MOST 1048576: true; the input reads as it did. -/
def fnExactWhyNotUptoRow : OpenClaim := { program := "ytmadcifcbckcnaa", sum := "9c09185eef23f0e0547fe79a67b196c6c5ac55a4d56ab7c5517d55c8586af043", func := "loop.example/g00926/laws.FnExactWhyNot", spec := "fnExactWhyNot", apart := false, narrowed := true }
def FnExactWhyNotUptoSaid : Prop := fnExactWhyNotUptoRow.holds Try.pinned (OpenSpec.upto fnExactWhyNotSpec)

/-- 'laws.FnExactLegalMoves', WHERE WHAT IT READS IS OF BULK AT MOST 1048576: true; the input reads as it did. -/
def fnExactLegalMovesUptoRow : OpenClaim := { program := "ytmadcifcbckcnaa", sum := "9c09185eef23f0e0547fe79a67b196c6c5ac55a4d56ab7c5517d55c8586af043", func := "loop.example/g00926/laws.FnExactLegalMoves", spec := "fnExactLegalMoves", apart := false, narrowed := true }
def FnExactLegalMovesUptoSaid : Prop := fnExactLegalMovesUptoRow.holds Try.pinned (OpenSpec.upto fnExactLegalMovesSpec)

/-- 'laws.FnExactMakeMove', WHERE WHAT IT READS IS OF BULK AT MOST 1048576: true; the input reads as it did. -/
def fnExactMakeMoveUptoRow : OpenClaim := { program := "ytmadcifcbckcnaa", sum := "9c09185eef23f0e0547fe79a67b196c6c5ac55a4d56ab7c5517d55c8586af043", func := "loop.example/g00926/laws.FnExactMakeMove", spec := "fnExactMakeMove", apart := false, narrowed := true }
def FnExactMakeMoveUptoSaid : Prop := fnExactMakeMoveUptoRow.holds Try.pinned (OpenSpec.upto fnExactMakeMoveSpec)

/-- 'laws.FnExactGreedyMove', WHERE WHAT IT READS IS OF BULK AT MOST 1048576: true; the input reads as it did. -/
def fnExactGreedyMoveUptoRow : OpenClaim := { program := "ytmadcifcbckcnaa", sum := "9c09185eef23f0e0547fe79a67b196c6c5ac55a4d56ab7c5517d55c8586af043", func := "loop.example/g00926/laws.FnExactGreedyMove", spec := "fnExactGreedyMove", apart := false, narrowed := true }
def FnExactGreedyMoveUptoSaid : Prop := fnExactGreedyMoveUptoRow.holds Try.pinned (OpenSpec.upto fnExactGreedyMoveSpec)

/-- 'laws.FnExactTouchedPits', WHERE WHAT IT READS IS OF BULK AT MOST 1048576: true; the input reads as it did. -/
def fnExactTouchedPitsUptoRow : OpenClaim := { program := "ytmadcifcbckcnaa", sum := "9c09185eef23f0e0547fe79a67b196c6c5ac55a4d56ab7c5517d55c8586af043", func := "loop.example/g00926/laws.FnExactTouchedPits", spec := "fnExactTouchedPits", apart := false, narrowed := true }
def FnExactTouchedPitsUptoSaid : Prop := fnExactTouchedPitsUptoRow.holds Try.pinned (OpenSpec.upto fnExactTouchedPitsSpec)

/-- 'laws.FnExactResultsOf', WHERE WHAT IT READS IS OF BULK AT MOST 1048576: true; the input reads as it did. -/
def fnExactResultsOfUptoRow : OpenClaim := { program := "ytmadcifcbckcnaa", sum := "9c09185eef23f0e0547fe79a67b196c6c5ac55a4d56ab7c5517d55c8586af043", func := "loop.example/g00926/laws.FnExactResultsOf", spec := "fnExactResultsOf", apart := false, narrowed := true }
def FnExactResultsOfUptoSaid : Prop := fnExactResultsOfUptoRow.holds Try.pinned (OpenSpec.upto fnExactResultsOfSpec)

/-- 'laws.FnExactLineValue', WHERE WHAT IT READS IS OF BULK AT MOST 1048576: true; the input reads as it did. -/
def fnExactLineValueUptoRow : OpenClaim := { program := "ytmadcifcbckcnaa", sum := "9c09185eef23f0e0547fe79a67b196c6c5ac55a4d56ab7c5517d55c8586af043", func := "loop.example/g00926/laws.FnExactLineValue", spec := "fnExactLineValue", apart := false, narrowed := true }
def FnExactLineValueUptoSaid : Prop := fnExactLineValueUptoRow.holds Try.pinned (OpenSpec.upto fnExactLineValueSpec)

/-- 'laws.FnExactGameFrom', WHERE WHAT IT READS IS OF BULK AT MOST 1048576: true; the input reads as it did. -/
def fnExactGameFromUptoRow : OpenClaim := { program := "ytmadcifcbckcnaa", sum := "9c09185eef23f0e0547fe79a67b196c6c5ac55a4d56ab7c5517d55c8586af043", func := "loop.example/g00926/laws.FnExactGameFrom", spec := "fnExactGameFrom", apart := false, narrowed := true }
def FnExactGameFromUptoSaid : Prop := fnExactGameFromUptoRow.holds Try.pinned (OpenSpec.upto fnExactGameFromSpec)

/-- 'laws.FnFeeding', WHERE WHAT IT READS IS OF BULK AT MOST 1048576: true; the input reads as it did. -/
def fnFeedingUptoRow : OpenClaim := { program := "ytmadcifcbckcnaa", sum := "9c09185eef23f0e0547fe79a67b196c6c5ac55a4d56ab7c5517d55c8586af043", func := "loop.example/g00926/laws.FnFeeding", spec := "fnFeeding", apart := false, narrowed := true }
def FnFeedingUptoSaid : Prop := fnFeedingUptoRow.holds Try.pinned (OpenSpec.upto fnFeedingSpec)

/-- 'laws.FnMoves', WHERE WHAT IT READS IS OF BULK AT MOST 1048576: true; the input reads as it did. -/
def fnMovesUptoRow : OpenClaim := { program := "ytmadcifcbckcnaa", sum := "9c09185eef23f0e0547fe79a67b196c6c5ac55a4d56ab7c5517d55c8586af043", func := "loop.example/g00926/laws.FnMoves", spec := "fnMoves", apart := false, narrowed := true }
def FnMovesUptoSaid : Prop := fnMovesUptoRow.holds Try.pinned (OpenSpec.upto fnMovesSpec)

/-- 'laws.FnTurnedMoves', WHERE WHAT IT READS IS OF BULK AT MOST 1048576: true; the input reads as it did. -/
def fnTurnedMovesUptoRow : OpenClaim := { program := "ytmadcifcbckcnaa", sum := "9c09185eef23f0e0547fe79a67b196c6c5ac55a4d56ab7c5517d55c8586af043", func := "loop.example/g00926/laws.FnTurnedMoves", spec := "fnTurnedMoves", apart := false, narrowed := true }
def FnTurnedMovesUptoSaid : Prop := fnTurnedMovesUptoRow.holds Try.pinned (OpenSpec.upto fnTurnedMovesSpec)

/-- 'laws.FnExactViewOf', WHERE WHAT IT READS IS OF BULK AT MOST 1048576: true; the input reads as it did. -/
def fnExactViewOfUptoRow : OpenClaim := { program := "ytmadcifcbckcnaa", sum := "9c09185eef23f0e0547fe79a67b196c6c5ac55a4d56ab7c5517d55c8586af043", func := "loop.example/g00926/laws.FnExactViewOf", spec := "fnExactViewOf", apart := false, narrowed := true }
def FnExactViewOfUptoSaid : Prop := fnExactViewOfUptoRow.holds Try.pinned (OpenSpec.upto fnExactViewOfSpec)

end Rows
end Go.Proofs.Ytmadcifcbckcnaa
