/-
  No cell of these rows narrows 'for every input' (looked for: loops, veiled, ifaces, maps, wideKeys, modest, calm, conditions, laid).
  DERIVED. THE GIVEN ROWS OF THIS SEAT. 12 by the template 'for every input the law returns true; each argument reads behind the call as it read before'; 0 by the template 'total and deterministic' (their statements: YteabheocbkcmnaaTotals.lean).
  GIVEN WITH THE SEED: the statements are not yours to turn. If you find one false, say at which input.
  Laid BY PROGRAM, IN A SANDBOX (cutbox-rows.mjs): the forced cells as the released guide's own fill.sh prints them over the translation 5c4ca923a3a63b00… (all of the seat's roots in one cut). By AI agents, Wed Nov 11 2026. No macro, syntax, notation, axiom, sorry.
-/
import Derived.Test.YteabheocbkcmnaaChecked
import GoSem.Claim
import GoSem.ClaimJoined
import GoSem.ClaimMapViews
import Derived.JoinedTies
import Derived.KernelRfl
namespace Go.Proofs.Yteabheocbkcmnaa
/- THE CELL 'sum', in the pinned program and in every row, IS THE sha256 OF THE DUMP (.gsa) THAT YteabheocbkcmnaaProg.lean LOADS. Nothing in Lean hashes anything: it is a label: what it is worth is what the hold of that sum in a sandbox is worth. -/
noncomputable def Try.pinned : Pinned := { name := "yteabheocbkcmnaa", sum := "5c4ca923a3a63b007738c1ddbafaa7d07674bc42ed65ef4f57da84ac90809e2d", checked := Try.checked }
namespace Rows
def none {H : Type} : Left H := { results := [], args := [] }

/-- 'laws.FnExactNewGame': WHATEVER THE INPUT: true; the input reads as it did. -/
def fnExactNewGameSpec : ChangeSpec := { name := "fnExactNewGame", fn := fun _ => fun
  | [d] => { results := [.lit (.bool true)], args := [d] }
  | _ => none }
def fnExactNewGameRow : OpenClaim := { program := "yteabheocbkcmnaa", sum := "5c4ca923a3a63b007738c1ddbafaa7d07674bc42ed65ef4f57da84ac90809e2d", func := "loop.example/g00926/laws.FnExactNewGame", spec := "fnExactNewGame", apart := false }
def FnExactNewGameSaid : Prop := fnExactNewGameRow.holds Try.pinned (OpenSpec.ofChange fnExactNewGameSpec)

/-- ITS FALSE NEIGHBOUR: 'it returns false'. Refute it at one input. -/
def fnExactNewGameWrong : ChangeSpec := { name := "fnExactNewGame", fn := fun _ => fun
  | [d] => { results := [.lit (.bool false)], args := [d] }
  | _ => none }
def FnExactNewGameWrongFalsely : Prop := fnExactNewGameRow.holds Try.pinned (OpenSpec.ofChange fnExactNewGameWrong)

/-- 'laws.FnExactGameFrom': WHATEVER THE INPUT: true; the input reads as it did. -/
def fnExactGameFromSpec : ChangeSpec := { name := "fnExactGameFrom", fn := fun _ => fun
  | [d1, d2] => { results := [.lit (.bool true)], args := [d1, d2] }
  | _ => none }
def fnExactGameFromRow : OpenClaim := { program := "yteabheocbkcmnaa", sum := "5c4ca923a3a63b007738c1ddbafaa7d07674bc42ed65ef4f57da84ac90809e2d", func := "loop.example/g00926/laws.FnExactGameFrom", spec := "fnExactGameFrom", apart := false }
def FnExactGameFromSaid : Prop := fnExactGameFromRow.holds Try.pinned (OpenSpec.ofChange fnExactGameFromSpec)

/-- ITS FALSE NEIGHBOUR: 'it returns false'. Refute it at one input. -/
def fnExactGameFromWrong : ChangeSpec := { name := "fnExactGameFrom", fn := fun _ => fun
  | [d1, d2] => { results := [.lit (.bool false)], args := [d1, d2] }
  | _ => none }
def FnExactGameFromWrongFalsely : Prop := fnExactGameFromRow.holds Try.pinned (OpenSpec.ofChange fnExactGameFromWrong)

/-- 'laws.FnExactValidGame': WHATEVER THE INPUT: true; the input reads as it did. -/
def fnExactValidGameSpec : ChangeSpec := { name := "fnExactValidGame", fn := fun _ => fun
  | [d] => { results := [.lit (.bool true)], args := [d] }
  | _ => none }
def fnExactValidGameRow : OpenClaim := { program := "yteabheocbkcmnaa", sum := "5c4ca923a3a63b007738c1ddbafaa7d07674bc42ed65ef4f57da84ac90809e2d", func := "loop.example/g00926/laws.FnExactValidGame", spec := "fnExactValidGame", apart := false }
def FnExactValidGameSaid : Prop := fnExactValidGameRow.holds Try.pinned (OpenSpec.ofChange fnExactValidGameSpec)

/-- ITS FALSE NEIGHBOUR: 'it returns false'. Refute it at one input. -/
def fnExactValidGameWrong : ChangeSpec := { name := "fnExactValidGame", fn := fun _ => fun
  | [d] => { results := [.lit (.bool false)], args := [d] }
  | _ => none }
def FnExactValidGameWrongFalsely : Prop := fnExactValidGameRow.holds Try.pinned (OpenSpec.ofChange fnExactValidGameWrong)

/-- 'laws.FnExactSetField': WHATEVER THE INPUT: true; the input reads as it did. -/
def fnExactSetFieldSpec : ChangeSpec := { name := "fnExactSetField", fn := fun _ => fun
  | [d1, d2, d3] => { results := [.lit (.bool true)], args := [d1, d2, d3] }
  | _ => none }
def fnExactSetFieldRow : OpenClaim := { program := "yteabheocbkcmnaa", sum := "5c4ca923a3a63b007738c1ddbafaa7d07674bc42ed65ef4f57da84ac90809e2d", func := "loop.example/g00926/laws.FnExactSetField", spec := "fnExactSetField", apart := false }
def FnExactSetFieldSaid : Prop := fnExactSetFieldRow.holds Try.pinned (OpenSpec.ofChange fnExactSetFieldSpec)

/-- ITS FALSE NEIGHBOUR: 'it returns false'. Refute it at one input. -/
def fnExactSetFieldWrong : ChangeSpec := { name := "fnExactSetField", fn := fun _ => fun
  | [d1, d2, d3] => { results := [.lit (.bool false)], args := [d1, d2, d3] }
  | _ => none }
def FnExactSetFieldWrongFalsely : Prop := fnExactSetFieldRow.holds Try.pinned (OpenSpec.ofChange fnExactSetFieldWrong)

/-- 'laws.FnExactNearestGame': WHATEVER THE INPUT: true; the input reads as it did. -/
def fnExactNearestGameSpec : ChangeSpec := { name := "fnExactNearestGame", fn := fun _ => fun
  | [d] => { results := [.lit (.bool true)], args := [d] }
  | _ => none }
def fnExactNearestGameRow : OpenClaim := { program := "yteabheocbkcmnaa", sum := "5c4ca923a3a63b007738c1ddbafaa7d07674bc42ed65ef4f57da84ac90809e2d", func := "loop.example/g00926/laws.FnExactNearestGame", spec := "fnExactNearestGame", apart := false }
def FnExactNearestGameSaid : Prop := fnExactNearestGameRow.holds Try.pinned (OpenSpec.ofChange fnExactNearestGameSpec)

/-- ITS FALSE NEIGHBOUR: 'it returns false'. Refute it at one input. -/
def fnExactNearestGameWrong : ChangeSpec := { name := "fnExactNearestGame", fn := fun _ => fun
  | [d] => { results := [.lit (.bool false)], args := [d] }
  | _ => none }
def FnExactNearestGameWrongFalsely : Prop := fnExactNearestGameRow.holds Try.pinned (OpenSpec.ofChange fnExactNearestGameWrong)

/-- 'laws.FnFields': WHATEVER THE INPUT: true; the input reads as it did. -/
def fnFieldsSpec : ChangeSpec := { name := "fnFields", fn := fun _ => fun
  | [d] => { results := [.lit (.bool true)], args := [d] }
  | _ => none }
def fnFieldsRow : OpenClaim := { program := "yteabheocbkcmnaa", sum := "5c4ca923a3a63b007738c1ddbafaa7d07674bc42ed65ef4f57da84ac90809e2d", func := "loop.example/g00926/laws.FnFields", spec := "fnFields", apart := false }
def FnFieldsSaid : Prop := fnFieldsRow.holds Try.pinned (OpenSpec.ofChange fnFieldsSpec)

/-- ITS FALSE NEIGHBOUR: 'it returns false'. Refute it at one input. -/
def fnFieldsWrong : ChangeSpec := { name := "fnFields", fn := fun _ => fun
  | [d] => { results := [.lit (.bool false)], args := [d] }
  | _ => none }
def FnFieldsWrongFalsely : Prop := fnFieldsRow.holds Try.pinned (OpenSpec.ofChange fnFieldsWrong)

/-- 'laws.FnExactSamePart': WHATEVER THE INPUT: true; the input reads as it did. -/
def fnExactSamePartSpec : ChangeSpec := { name := "fnExactSamePart", fn := fun _ => fun
  | [d1, d2] => { results := [.lit (.bool true)], args := [d1, d2] }
  | _ => none }
def fnExactSamePartRow : OpenClaim := { program := "yteabheocbkcmnaa", sum := "5c4ca923a3a63b007738c1ddbafaa7d07674bc42ed65ef4f57da84ac90809e2d", func := "loop.example/g00926/laws.FnExactSamePart", spec := "fnExactSamePart", apart := false }
def FnExactSamePartSaid : Prop := fnExactSamePartRow.holds Try.pinned (OpenSpec.ofChange fnExactSamePartSpec)

/-- ITS FALSE NEIGHBOUR: 'it returns false'. Refute it at one input. -/
def fnExactSamePartWrong : ChangeSpec := { name := "fnExactSamePart", fn := fun _ => fun
  | [d1, d2] => { results := [.lit (.bool false)], args := [d1, d2] }
  | _ => none }
def FnExactSamePartWrongFalsely : Prop := fnExactSamePartRow.holds Try.pinned (OpenSpec.ofChange fnExactSamePartWrong)

/-- 'laws.FnExactSameDesk': WHATEVER THE INPUT: true; the input reads as it did. -/
def fnExactSameDeskSpec : ChangeSpec := { name := "fnExactSameDesk", fn := fun _ => fun
  | [d1, d2] => { results := [.lit (.bool true)], args := [d1, d2] }
  | _ => none }
def fnExactSameDeskRow : OpenClaim := { program := "yteabheocbkcmnaa", sum := "5c4ca923a3a63b007738c1ddbafaa7d07674bc42ed65ef4f57da84ac90809e2d", func := "loop.example/g00926/laws.FnExactSameDesk", spec := "fnExactSameDesk", apart := false }
def FnExactSameDeskSaid : Prop := fnExactSameDeskRow.holds Try.pinned (OpenSpec.ofChange fnExactSameDeskSpec)

/-- ITS FALSE NEIGHBOUR: 'it returns false'. Refute it at one input. -/
def fnExactSameDeskWrong : ChangeSpec := { name := "fnExactSameDesk", fn := fun _ => fun
  | [d1, d2] => { results := [.lit (.bool false)], args := [d1, d2] }
  | _ => none }
def FnExactSameDeskWrongFalsely : Prop := fnExactSameDeskRow.holds Try.pinned (OpenSpec.ofChange fnExactSameDeskWrong)

/-- 'laws.FnLaps': WHATEVER THE INPUT: true; the input reads as it did. -/
def fnLapsSpec : ChangeSpec := { name := "fnLaps", fn := fun _ => fun
  | [d1, d2] => { results := [.lit (.bool true)], args := [d1, d2] }
  | _ => none }
def fnLapsRow : OpenClaim := { program := "yteabheocbkcmnaa", sum := "5c4ca923a3a63b007738c1ddbafaa7d07674bc42ed65ef4f57da84ac90809e2d", func := "loop.example/g00926/laws.FnLaps", spec := "fnLaps", apart := false }
def FnLapsSaid : Prop := fnLapsRow.holds Try.pinned (OpenSpec.ofChange fnLapsSpec)

/-- ITS FALSE NEIGHBOUR: 'it returns false'. Refute it at one input. -/
def fnLapsWrong : ChangeSpec := { name := "fnLaps", fn := fun _ => fun
  | [d1, d2] => { results := [.lit (.bool false)], args := [d1, d2] }
  | _ => none }
def FnLapsWrongFalsely : Prop := fnLapsRow.holds Try.pinned (OpenSpec.ofChange fnLapsWrong)

/-- 'laws.FnMoves': WHATEVER THE INPUT: true; the input reads as it did. -/
def fnMovesSpec : ChangeSpec := { name := "fnMoves", fn := fun _ => fun
  | [d] => { results := [.lit (.bool true)], args := [d] }
  | _ => none }
def fnMovesRow : OpenClaim := { program := "yteabheocbkcmnaa", sum := "5c4ca923a3a63b007738c1ddbafaa7d07674bc42ed65ef4f57da84ac90809e2d", func := "loop.example/g00926/laws.FnMoves", spec := "fnMoves", apart := false }
def FnMovesSaid : Prop := fnMovesRow.holds Try.pinned (OpenSpec.ofChange fnMovesSpec)

/-- ITS FALSE NEIGHBOUR: 'it returns false'. Refute it at one input. -/
def fnMovesWrong : ChangeSpec := { name := "fnMoves", fn := fun _ => fun
  | [d] => { results := [.lit (.bool false)], args := [d] }
  | _ => none }
def FnMovesWrongFalsely : Prop := fnMovesRow.holds Try.pinned (OpenSpec.ofChange fnMovesWrong)

/-- 'laws.FnTurnedMoves': WHATEVER THE INPUT: true; the input reads as it did. -/
def fnTurnedMovesSpec : ChangeSpec := { name := "fnTurnedMoves", fn := fun _ => fun
  | [d1, d2] => { results := [.lit (.bool true)], args := [d1, d2] }
  | _ => none }
def fnTurnedMovesRow : OpenClaim := { program := "yteabheocbkcmnaa", sum := "5c4ca923a3a63b007738c1ddbafaa7d07674bc42ed65ef4f57da84ac90809e2d", func := "loop.example/g00926/laws.FnTurnedMoves", spec := "fnTurnedMoves", apart := false }
def FnTurnedMovesSaid : Prop := fnTurnedMovesRow.holds Try.pinned (OpenSpec.ofChange fnTurnedMovesSpec)

/-- ITS FALSE NEIGHBOUR: 'it returns false'. Refute it at one input. -/
def fnTurnedMovesWrong : ChangeSpec := { name := "fnTurnedMoves", fn := fun _ => fun
  | [d1, d2] => { results := [.lit (.bool false)], args := [d1, d2] }
  | _ => none }
def FnTurnedMovesWrongFalsely : Prop := fnTurnedMovesRow.holds Try.pinned (OpenSpec.ofChange fnTurnedMovesWrong)

/-- 'laws.FnFeeding': WHATEVER THE INPUT: true; the input reads as it did. -/
def fnFeedingSpec : ChangeSpec := { name := "fnFeeding", fn := fun _ => fun
  | [d] => { results := [.lit (.bool true)], args := [d] }
  | _ => none }
def fnFeedingRow : OpenClaim := { program := "yteabheocbkcmnaa", sum := "5c4ca923a3a63b007738c1ddbafaa7d07674bc42ed65ef4f57da84ac90809e2d", func := "loop.example/g00926/laws.FnFeeding", spec := "fnFeeding", apart := false }
def FnFeedingSaid : Prop := fnFeedingRow.holds Try.pinned (OpenSpec.ofChange fnFeedingSpec)

/-- ITS FALSE NEIGHBOUR: 'it returns false'. Refute it at one input. -/
def fnFeedingWrong : ChangeSpec := { name := "fnFeeding", fn := fun _ => fun
  | [d] => { results := [.lit (.bool false)], args := [d] }
  | _ => none }
def FnFeedingWrongFalsely : Prop := fnFeedingRow.holds Try.pinned (OpenSpec.ofChange fnFeedingWrong)

/- THE SECOND FORM. 'bulk': how many values and letters a reading holds, each counted each time it is reached (what is shared counts as often as it is met; a slice's spare places count too). A statement '..UptoSaid' is the law's where the arguments, and the package variables that the reading takes, are together of bulk at most 1048576: NARROWER than '..Said'. Prove '..Said' where nothing that the law and all that it calls make is longer than what came in: it says more and counts as full. Else prove '..UptoSaid'. A law counts once. -/
mutual
def uptoBulk {H : Type} : DataW H → Nat
  | .lit (.string bytes) => bytes.length + 1
  | .lit _ => 1
  | .nil => 1
  | .ptr d => uptoBulk d + 1
  | .slice elems spare => uptoBulkAll elems + uptoBulkAll spare + 1
  | .agg parts => uptoBulkAll parts + 1
  | .iface _ d => uptoBulk d + 1
  | .map entries => uptoBulkEntries entries + 1
  | .held _ => 1
def uptoBulkAll {H : Type} : List (DataW H) → Nat
  | [] => 0
  | d :: r => uptoBulk d + uptoBulkAll r
def uptoBulkEntries {H : Type} : List (Lit × DataW H) → Nat
  | [] => 0
  | x :: r => uptoBulkEntry x + uptoBulkEntries r
def uptoBulkEntry {H : Type} : Lit × DataW H → Nat
  | (.string bytes, d) => bytes.length + uptoBulk d + 1
  | (_, d) => uptoBulk d + 1
 end
def uptoSmall : (H : Type) → List (DataW H) → Bool := fun _ ds => decide (uptoBulkAll ds ≤ 1048576)
def OpenSpec.upto (s : _root_.Go.ChangeSpec) : _root_.Go.OpenSpec := { _root_.Go.OpenSpec.ofChange s with cond := some uptoSmall }

/-- 'laws.FnExactNewGame', WHERE WHAT IT READS IS OF BULK AT MOST 1048576: true; the input reads as it did. -/
def fnExactNewGameUptoRow : OpenClaim := { program := "yteabheocbkcmnaa", sum := "5c4ca923a3a63b007738c1ddbafaa7d07674bc42ed65ef4f57da84ac90809e2d", func := "loop.example/g00926/laws.FnExactNewGame", spec := "fnExactNewGame", apart := false, narrowed := true }
def FnExactNewGameUptoSaid : Prop := fnExactNewGameUptoRow.holds Try.pinned (OpenSpec.upto fnExactNewGameSpec)

/-- 'laws.FnExactGameFrom', WHERE WHAT IT READS IS OF BULK AT MOST 1048576: true; the input reads as it did. -/
def fnExactGameFromUptoRow : OpenClaim := { program := "yteabheocbkcmnaa", sum := "5c4ca923a3a63b007738c1ddbafaa7d07674bc42ed65ef4f57da84ac90809e2d", func := "loop.example/g00926/laws.FnExactGameFrom", spec := "fnExactGameFrom", apart := false, narrowed := true }
def FnExactGameFromUptoSaid : Prop := fnExactGameFromUptoRow.holds Try.pinned (OpenSpec.upto fnExactGameFromSpec)

/-- 'laws.FnExactValidGame', WHERE WHAT IT READS IS OF BULK AT MOST 1048576: true; the input reads as it did. -/
def fnExactValidGameUptoRow : OpenClaim := { program := "yteabheocbkcmnaa", sum := "5c4ca923a3a63b007738c1ddbafaa7d07674bc42ed65ef4f57da84ac90809e2d", func := "loop.example/g00926/laws.FnExactValidGame", spec := "fnExactValidGame", apart := false, narrowed := true }
def FnExactValidGameUptoSaid : Prop := fnExactValidGameUptoRow.holds Try.pinned (OpenSpec.upto fnExactValidGameSpec)

/-- 'laws.FnExactSetField', WHERE WHAT IT READS IS OF BULK AT MOST 1048576: true; the input reads as it did. -/
def fnExactSetFieldUptoRow : OpenClaim := { program := "yteabheocbkcmnaa", sum := "5c4ca923a3a63b007738c1ddbafaa7d07674bc42ed65ef4f57da84ac90809e2d", func := "loop.example/g00926/laws.FnExactSetField", spec := "fnExactSetField", apart := false, narrowed := true }
def FnExactSetFieldUptoSaid : Prop := fnExactSetFieldUptoRow.holds Try.pinned (OpenSpec.upto fnExactSetFieldSpec)

/-- 'laws.FnExactNearestGame', WHERE WHAT IT READS IS OF BULK AT MOST 1048576: true; the input reads as it did. -/
def fnExactNearestGameUptoRow : OpenClaim := { program := "yteabheocbkcmnaa", sum := "5c4ca923a3a63b007738c1ddbafaa7d07674bc42ed65ef4f57da84ac90809e2d", func := "loop.example/g00926/laws.FnExactNearestGame", spec := "fnExactNearestGame", apart := false, narrowed := true }
def FnExactNearestGameUptoSaid : Prop := fnExactNearestGameUptoRow.holds Try.pinned (OpenSpec.upto fnExactNearestGameSpec)

/-- 'laws.FnFields', WHERE WHAT IT READS IS OF BULK AT MOST 1048576: true; the input reads as it did. -/
def fnFieldsUptoRow : OpenClaim := { program := "yteabheocbkcmnaa", sum := "5c4ca923a3a63b007738c1ddbafaa7d07674bc42ed65ef4f57da84ac90809e2d", func := "loop.example/g00926/laws.FnFields", spec := "fnFields", apart := false, narrowed := true }
def FnFieldsUptoSaid : Prop := fnFieldsUptoRow.holds Try.pinned (OpenSpec.upto fnFieldsSpec)

/-- 'laws.FnExactSamePart', WHERE WHAT IT READS IS OF BULK AT MOST 1048576: true; the input reads as it did. -/
def fnExactSamePartUptoRow : OpenClaim := { program := "yteabheocbkcmnaa", sum := "5c4ca923a3a63b007738c1ddbafaa7d07674bc42ed65ef4f57da84ac90809e2d", func := "loop.example/g00926/laws.FnExactSamePart", spec := "fnExactSamePart", apart := false, narrowed := true }
def FnExactSamePartUptoSaid : Prop := fnExactSamePartUptoRow.holds Try.pinned (OpenSpec.upto fnExactSamePartSpec)

/-- 'laws.FnExactSameDesk', WHERE WHAT IT READS IS OF BULK AT MOST 1048576: true; the input reads as it did. -/
def fnExactSameDeskUptoRow : OpenClaim := { program := "yteabheocbkcmnaa", sum := "5c4ca923a3a63b007738c1ddbafaa7d07674bc42ed65ef4f57da84ac90809e2d", func := "loop.example/g00926/laws.FnExactSameDesk", spec := "fnExactSameDesk", apart := false, narrowed := true }
def FnExactSameDeskUptoSaid : Prop := fnExactSameDeskUptoRow.holds Try.pinned (OpenSpec.upto fnExactSameDeskSpec)

/-- 'laws.FnLaps', WHERE WHAT IT READS IS OF BULK AT MOST 1048576: true; the input reads as it did. -/
def fnLapsUptoRow : OpenClaim := { program := "yteabheocbkcmnaa", sum := "5c4ca923a3a63b007738c1ddbafaa7d07674bc42ed65ef4f57da84ac90809e2d", func := "loop.example/g00926/laws.FnLaps", spec := "fnLaps", apart := false, narrowed := true }
def FnLapsUptoSaid : Prop := fnLapsUptoRow.holds Try.pinned (OpenSpec.upto fnLapsSpec)

/-- 'laws.FnMoves', WHERE WHAT IT READS IS OF BULK AT MOST 1048576: true; the input reads as it did. -/
def fnMovesUptoRow : OpenClaim := { program := "yteabheocbkcmnaa", sum := "5c4ca923a3a63b007738c1ddbafaa7d07674bc42ed65ef4f57da84ac90809e2d", func := "loop.example/g00926/laws.FnMoves", spec := "fnMoves", apart := false, narrowed := true }
def FnMovesUptoSaid : Prop := fnMovesUptoRow.holds Try.pinned (OpenSpec.upto fnMovesSpec)

/-- 'laws.FnTurnedMoves', WHERE WHAT IT READS IS OF BULK AT MOST 1048576: true; the input reads as it did. -/
def fnTurnedMovesUptoRow : OpenClaim := { program := "yteabheocbkcmnaa", sum := "5c4ca923a3a63b007738c1ddbafaa7d07674bc42ed65ef4f57da84ac90809e2d", func := "loop.example/g00926/laws.FnTurnedMoves", spec := "fnTurnedMoves", apart := false, narrowed := true }
def FnTurnedMovesUptoSaid : Prop := fnTurnedMovesUptoRow.holds Try.pinned (OpenSpec.upto fnTurnedMovesSpec)

/-- 'laws.FnFeeding', WHERE WHAT IT READS IS OF BULK AT MOST 1048576: true; the input reads as it did. -/
def fnFeedingUptoRow : OpenClaim := { program := "yteabheocbkcmnaa", sum := "5c4ca923a3a63b007738c1ddbafaa7d07674bc42ed65ef4f57da84ac90809e2d", func := "loop.example/g00926/laws.FnFeeding", spec := "fnFeeding", apart := false, narrowed := true }
def FnFeedingUptoSaid : Prop := fnFeedingUptoRow.holds Try.pinned (OpenSpec.upto fnFeedingSpec)

end Rows
end Go.Proofs.Yteabheocbkcmnaa
