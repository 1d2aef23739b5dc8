/-
  No cell of these rows narrows 'for every input' (looked for: loops, veiled, ifaces, maps, wideKeys, modest, calm, conditions, laid).
  DERIVED. THE GIVEN ROWS OF THIS SEAT. 12 by the template 'for every input the law returns true; each argument reads behind the call as it read before'; 0 by the template 'total and deterministic' (their statements: YtfnkfipeacjeaaaTotals.lean).
  GIVEN WITH THE SEED: the statements are not yours to turn. If you find one false, say at which input.
  Laid BY PROGRAM, IN A SANDBOX (cutbox-rows.mjs): the forced cells as the released guide's own fill.sh prints them over the translation 33c66bf409ec760f… (all of the seat's roots in one cut). By AI agents, Wed Nov 11 2026. No macro, syntax, notation, axiom, sorry.
-/
import Derived.Test.YtfnkfipeacjeaaaChecked
import GoSem.Claim
import GoSem.ClaimJoined
import GoSem.ClaimMapViews
import Derived.JoinedTies
import Derived.KernelRfl
namespace Go.Proofs.Ytfnkfipeacjeaaa
/- THE CELL 'sum', in the pinned program and in every row, IS THE sha256 OF THE DUMP (.gsa) THAT YtfnkfipeacjeaaaProg.lean LOADS. Nothing in Lean hashes anything: it is a label: what it is worth is what the hold of that sum in a sandbox is worth. -/
noncomputable def Try.pinned : Pinned := { name := "ytfnkfipeacjeaaa", sum := "33c66bf409ec760f62d9f8490c755e167afca83c3d035e397fbcf41b2b6c07be", checked := Try.checked }
namespace Rows
def none {H : Type} : Left H := { results := [], args := [] }

/-- 'laws.FnExactLastPlace': WHATEVER THE INPUT: true; the input reads as it did. -/
def fnExactLastPlaceSpec : ChangeSpec := { name := "fnExactLastPlace", fn := fun _ => fun
  | [d1, d2, d3, d4] => { results := [.lit (.bool true)], args := [d1, d2, d3, d4] }
  | _ => none }
def fnExactLastPlaceRow : OpenClaim := { program := "ytfnkfipeacjeaaa", sum := "33c66bf409ec760f62d9f8490c755e167afca83c3d035e397fbcf41b2b6c07be", func := "loop.example/g00926/laws.FnExactLastPlace", spec := "fnExactLastPlace", apart := false }
def FnExactLastPlaceSaid : Prop := fnExactLastPlaceRow.holds Try.pinned (OpenSpec.ofChange fnExactLastPlaceSpec)

/-- ITS FALSE NEIGHBOUR: 'it returns false'. Refute it at one input. -/
def fnExactLastPlaceWrong : ChangeSpec := { name := "fnExactLastPlace", fn := fun _ => fun
  | [d1, d2, d3, d4] => { results := [.lit (.bool false)], args := [d1, d2, d3, d4] }
  | _ => none }
def FnExactLastPlaceWrongFalsely : Prop := fnExactLastPlaceRow.holds Try.pinned (OpenSpec.ofChange fnExactLastPlaceWrong)

/-- 'laws.FnLaps': WHATEVER THE INPUT: true; the input reads as it did. -/
def fnLapsSpec : ChangeSpec := { name := "fnLaps", fn := fun _ => fun
  | [d1, d2] => { results := [.lit (.bool true)], args := [d1, d2] }
  | _ => none }
def fnLapsRow : OpenClaim := { program := "ytfnkfipeacjeaaa", sum := "33c66bf409ec760f62d9f8490c755e167afca83c3d035e397fbcf41b2b6c07be", func := "loop.example/g00926/laws.FnLaps", spec := "fnLaps", apart := false }
def FnLapsSaid : Prop := fnLapsRow.holds Try.pinned (OpenSpec.ofChange fnLapsSpec)

/-- ITS FALSE NEIGHBOUR: 'it returns false'. Refute it at one input. -/
def fnLapsWrong : ChangeSpec := { name := "fnLaps", fn := fun _ => fun
  | [d1, d2] => { results := [.lit (.bool false)], args := [d1, d2] }
  | _ => none }
def FnLapsWrongFalsely : Prop := fnLapsRow.holds Try.pinned (OpenSpec.ofChange fnLapsWrong)

/-- 'laws.FnExactSowLap': WHATEVER THE INPUT: true; the input reads as it did. -/
def fnExactSowLapSpec : ChangeSpec := { name := "fnExactSowLap", fn := fun _ => fun
  | [d1, d2, d3] => { results := [.lit (.bool true)], args := [d1, d2, d3] }
  | _ => none }
def fnExactSowLapRow : OpenClaim := { program := "ytfnkfipeacjeaaa", sum := "33c66bf409ec760f62d9f8490c755e167afca83c3d035e397fbcf41b2b6c07be", func := "loop.example/g00926/laws.FnExactSowLap", spec := "fnExactSowLap", apart := false }
def FnExactSowLapSaid : Prop := fnExactSowLapRow.holds Try.pinned (OpenSpec.ofChange fnExactSowLapSpec)

/-- ITS FALSE NEIGHBOUR: 'it returns false'. Refute it at one input. -/
def fnExactSowLapWrong : ChangeSpec := { name := "fnExactSowLap", fn := fun _ => fun
  | [d1, d2, d3] => { results := [.lit (.bool false)], args := [d1, d2, d3] }
  | _ => none }
def FnExactSowLapWrongFalsely : Prop := fnExactSowLapRow.holds Try.pinned (OpenSpec.ofChange fnExactSowLapWrong)

/-- 'laws.FnExactSowPath': WHATEVER THE INPUT: true; the input reads as it did. -/
def fnExactSowPathSpec : ChangeSpec := { name := "fnExactSowPath", fn := fun _ => fun
  | [d1, d2, d3] => { results := [.lit (.bool true)], args := [d1, d2, d3] }
  | _ => none }
def fnExactSowPathRow : OpenClaim := { program := "ytfnkfipeacjeaaa", sum := "33c66bf409ec760f62d9f8490c755e167afca83c3d035e397fbcf41b2b6c07be", func := "loop.example/g00926/laws.FnExactSowPath", spec := "fnExactSowPath", apart := false }
def FnExactSowPathSaid : Prop := fnExactSowPathRow.holds Try.pinned (OpenSpec.ofChange fnExactSowPathSpec)

/-- ITS FALSE NEIGHBOUR: 'it returns false'. Refute it at one input. -/
def fnExactSowPathWrong : ChangeSpec := { name := "fnExactSowPath", fn := fun _ => fun
  | [d1, d2, d3] => { results := [.lit (.bool false)], args := [d1, d2, d3] }
  | _ => none }
def FnExactSowPathWrongFalsely : Prop := fnExactSowPathRow.holds Try.pinned (OpenSpec.ofChange fnExactSowPathWrong)

/-- 'laws.FnExactSowMove': WHATEVER THE INPUT: true; the input reads as it did. -/
def fnExactSowMoveSpec : ChangeSpec := { name := "fnExactSowMove", fn := fun _ => fun
  | [d1, d2, d3] => { results := [.lit (.bool true)], args := [d1, d2, d3] }
  | _ => none }
def fnExactSowMoveRow : OpenClaim := { program := "ytfnkfipeacjeaaa", sum := "33c66bf409ec760f62d9f8490c755e167afca83c3d035e397fbcf41b2b6c07be", func := "loop.example/g00926/laws.FnExactSowMove", spec := "fnExactSowMove", apart := false }
def FnExactSowMoveSaid : Prop := fnExactSowMoveRow.holds Try.pinned (OpenSpec.ofChange fnExactSowMoveSpec)

/-- ITS FALSE NEIGHBOUR: 'it returns false'. Refute it at one input. -/
def fnExactSowMoveWrong : ChangeSpec := { name := "fnExactSowMove", fn := fun _ => fun
  | [d1, d2, d3] => { results := [.lit (.bool false)], args := [d1, d2, d3] }
  | _ => none }
def FnExactSowMoveWrongFalsely : Prop := fnExactSowMoveRow.holds Try.pinned (OpenSpec.ofChange fnExactSowMoveWrong)

/-- 'laws.FnSowing': WHATEVER THE INPUT: true; the input reads as it did. -/
def fnSowingSpec : ChangeSpec := { name := "fnSowing", fn := fun _ => fun
  | [d1, d2] => { results := [.lit (.bool true)], args := [d1, d2] }
  | _ => none }
def fnSowingRow : OpenClaim := { program := "ytfnkfipeacjeaaa", sum := "33c66bf409ec760f62d9f8490c755e167afca83c3d035e397fbcf41b2b6c07be", func := "loop.example/g00926/laws.FnSowing", spec := "fnSowing", apart := false }
def FnSowingSaid : Prop := fnSowingRow.holds Try.pinned (OpenSpec.ofChange fnSowingSpec)

/-- ITS FALSE NEIGHBOUR: 'it returns false'. Refute it at one input. -/
def fnSowingWrong : ChangeSpec := { name := "fnSowing", fn := fun _ => fun
  | [d1, d2] => { results := [.lit (.bool false)], args := [d1, d2] }
  | _ => none }
def FnSowingWrongFalsely : Prop := fnSowingRow.holds Try.pinned (OpenSpec.ofChange fnSowingWrong)

/-- 'laws.FnExactIsEndless': WHATEVER THE INPUT: true; the input reads as it did. -/
def fnExactIsEndlessSpec : ChangeSpec := { name := "fnExactIsEndless", fn := fun _ => fun
  | [d1, d2, d3] => { results := [.lit (.bool true)], args := [d1, d2, d3] }
  | _ => none }
def fnExactIsEndlessRow : OpenClaim := { program := "ytfnkfipeacjeaaa", sum := "33c66bf409ec760f62d9f8490c755e167afca83c3d035e397fbcf41b2b6c07be", func := "loop.example/g00926/laws.FnExactIsEndless", spec := "fnExactIsEndless", apart := false }
def FnExactIsEndlessSaid : Prop := fnExactIsEndlessRow.holds Try.pinned (OpenSpec.ofChange fnExactIsEndlessSpec)

/-- ITS FALSE NEIGHBOUR: 'it returns false'. Refute it at one input. -/
def fnExactIsEndlessWrong : ChangeSpec := { name := "fnExactIsEndless", fn := fun _ => fun
  | [d1, d2, d3] => { results := [.lit (.bool false)], args := [d1, d2, d3] }
  | _ => none }
def FnExactIsEndlessWrongFalsely : Prop := fnExactIsEndlessRow.holds Try.pinned (OpenSpec.ofChange fnExactIsEndlessWrong)

/-- 'laws.FnExactNewGame': WHATEVER THE INPUT: true; the input reads as it did. -/
def fnExactNewGameSpec : ChangeSpec := { name := "fnExactNewGame", fn := fun _ => fun
  | [d] => { results := [.lit (.bool true)], args := [d] }
  | _ => none }
def fnExactNewGameRow : OpenClaim := { program := "ytfnkfipeacjeaaa", sum := "33c66bf409ec760f62d9f8490c755e167afca83c3d035e397fbcf41b2b6c07be", func := "loop.example/g00926/laws.FnExactNewGame", spec := "fnExactNewGame", apart := false }
def FnExactNewGameSaid : Prop := fnExactNewGameRow.holds Try.pinned (OpenSpec.ofChange fnExactNewGameSpec)

/-- ITS FALSE NEIGHBOUR: 'it returns false'. Refute it at one input. -/
def fnExactNewGameWrong : ChangeSpec := { name := "fnExactNewGame", fn := fun _ => fun
  | [d] => { results := [.lit (.bool false)], args := [d] }
  | _ => none }
def FnExactNewGameWrongFalsely : Prop := fnExactNewGameRow.holds Try.pinned (OpenSpec.ofChange fnExactNewGameWrong)

/-- 'laws.FnExactMoveFault': WHATEVER THE INPUT: true; the input reads as it did. -/
def fnExactMoveFaultSpec : ChangeSpec := { name := "fnExactMoveFault", fn := fun _ => fun
  | [d1, d2, d3] => { results := [.lit (.bool true)], args := [d1, d2, d3] }
  | _ => none }
def fnExactMoveFaultRow : OpenClaim := { program := "ytfnkfipeacjeaaa", sum := "33c66bf409ec760f62d9f8490c755e167afca83c3d035e397fbcf41b2b6c07be", func := "loop.example/g00926/laws.FnExactMoveFault", spec := "fnExactMoveFault", apart := false }
def FnExactMoveFaultSaid : Prop := fnExactMoveFaultRow.holds Try.pinned (OpenSpec.ofChange fnExactMoveFaultSpec)

/-- ITS FALSE NEIGHBOUR: 'it returns false'. Refute it at one input. -/
def fnExactMoveFaultWrong : ChangeSpec := { name := "fnExactMoveFault", fn := fun _ => fun
  | [d1, d2, d3] => { results := [.lit (.bool false)], args := [d1, d2, d3] }
  | _ => none }
def FnExactMoveFaultWrongFalsely : Prop := fnExactMoveFaultRow.holds Try.pinned (OpenSpec.ofChange fnExactMoveFaultWrong)

/-- 'laws.FnExactCanMove': WHATEVER THE INPUT: true; the input reads as it did. -/
def fnExactCanMoveSpec : ChangeSpec := { name := "fnExactCanMove", fn := fun _ => fun
  | [d1, d2] => { results := [.lit (.bool true)], args := [d1, d2] }
  | _ => none }
def fnExactCanMoveRow : OpenClaim := { program := "ytfnkfipeacjeaaa", sum := "33c66bf409ec760f62d9f8490c755e167afca83c3d035e397fbcf41b2b6c07be", func := "loop.example/g00926/laws.FnExactCanMove", spec := "fnExactCanMove", apart := false }
def FnExactCanMoveSaid : Prop := fnExactCanMoveRow.holds Try.pinned (OpenSpec.ofChange fnExactCanMoveSpec)

/-- ITS FALSE NEIGHBOUR: 'it returns false'. Refute it at one input. -/
def fnExactCanMoveWrong : ChangeSpec := { name := "fnExactCanMove", fn := fun _ => fun
  | [d1, d2] => { results := [.lit (.bool false)], args := [d1, d2] }
  | _ => none }
def FnExactCanMoveWrongFalsely : Prop := fnExactCanMoveRow.holds Try.pinned (OpenSpec.ofChange fnExactCanMoveWrong)

/-- 'laws.FnExactSeedsMoved': WHATEVER THE INPUT: true; the input reads as it did. -/
def fnExactSeedsMovedSpec : ChangeSpec := { name := "fnExactSeedsMoved", fn := fun _ => fun
  | [d1, d2, d3] => { results := [.lit (.bool true)], args := [d1, d2, d3] }
  | _ => none }
def fnExactSeedsMovedRow : OpenClaim := { program := "ytfnkfipeacjeaaa", sum := "33c66bf409ec760f62d9f8490c755e167afca83c3d035e397fbcf41b2b6c07be", func := "loop.example/g00926/laws.FnExactSeedsMoved", spec := "fnExactSeedsMoved", apart := false }
def FnExactSeedsMovedSaid : Prop := fnExactSeedsMovedRow.holds Try.pinned (OpenSpec.ofChange fnExactSeedsMovedSpec)

/-- ITS FALSE NEIGHBOUR: 'it returns false'. Refute it at one input. -/
def fnExactSeedsMovedWrong : ChangeSpec := { name := "fnExactSeedsMoved", fn := fun _ => fun
  | [d1, d2, d3] => { results := [.lit (.bool false)], args := [d1, d2, d3] }
  | _ => none }
def FnExactSeedsMovedWrongFalsely : Prop := fnExactSeedsMovedRow.holds Try.pinned (OpenSpec.ofChange fnExactSeedsMovedWrong)

/-- 'laws.FnExactMovesAgain': WHATEVER THE INPUT: true; the input reads as it did. -/
def fnExactMovesAgainSpec : ChangeSpec := { name := "fnExactMovesAgain", fn := fun _ => fun
  | [d1, d2, d3] => { results := [.lit (.bool true)], args := [d1, d2, d3] }
  | _ => none }
def fnExactMovesAgainRow : OpenClaim := { program := "ytfnkfipeacjeaaa", sum := "33c66bf409ec760f62d9f8490c755e167afca83c3d035e397fbcf41b2b6c07be", func := "loop.example/g00926/laws.FnExactMovesAgain", spec := "fnExactMovesAgain", apart := false }
def FnExactMovesAgainSaid : Prop := fnExactMovesAgainRow.holds Try.pinned (OpenSpec.ofChange fnExactMovesAgainSpec)

/-- ITS FALSE NEIGHBOUR: 'it returns false'. Refute it at one input. -/
def fnExactMovesAgainWrong : ChangeSpec := { name := "fnExactMovesAgain", fn := fun _ => fun
  | [d1, d2, d3] => { results := [.lit (.bool false)], args := [d1, d2, d3] }
  | _ => none }
def FnExactMovesAgainWrongFalsely : Prop := fnExactMovesAgainRow.holds Try.pinned (OpenSpec.ofChange fnExactMovesAgainWrong)

/- THE SECOND FORM. 'bulk': how many values and letters a reading holds, each counted each time it is reached (what is shared counts as often as it is met; a slice's spare places count too). A statement '..UptoSaid' is the law's where the arguments, and the package variables that the reading takes, are together of bulk at most 1048576: NARROWER than '..Said'. Prove '..Said' where nothing that the law and all that it calls make is longer than what came in: it says more and counts as full. Else prove '..UptoSaid'. A law counts once. -/
mutual
def uptoBulk {H : Type} : DataW H → Nat
  | .lit (.string bytes) => bytes.length + 1
  | .lit _ => 1
  | .nil => 1
  | .ptr d => uptoBulk d + 1
  | .slice elems spare => uptoBulkAll elems + uptoBulkAll spare + 1
  | .agg parts => uptoBulkAll parts + 1
  | .iface _ d => uptoBulk d + 1
  | .map entries => uptoBulkEntries entries + 1
  | .held _ => 1
def uptoBulkAll {H : Type} : List (DataW H) → Nat
  | [] => 0
  | d :: r => uptoBulk d + uptoBulkAll r
def uptoBulkEntries {H : Type} : List (Lit × DataW H) → Nat
  | [] => 0
  | x :: r => uptoBulkEntry x + uptoBulkEntries r
def uptoBulkEntry {H : Type} : Lit × DataW H → Nat
  | (.string bytes, d) => bytes.length + uptoBulk d + 1
  | (_, d) => uptoBulk d + 1
 end
def uptoSmall : (H : Type) → List (DataW H) → Bool := fun _ ds => decide (uptoBulkAll ds ≤ 1048576)
def OpenSpec.upto (s : _root_.Go.ChangeSpec) : _root_.Go.OpenSpec := { _root_.Go.OpenSpec.ofChange s with cond := some uptoSmall }

/-- 'laws.FnExactLastPlace', WHERE WHAT IT READS IS OF BULK AT MOST 1048576: true; the input reads as it did. -/
def fnExactLastPlaceUptoRow : OpenClaim := { program := "ytfnkfipeacjeaaa", sum := "33c66bf409ec760f62d9f8490c755e167afca83c3d035e397fbcf41b2b6c07be", func := "loop.example/g00926/laws.FnExactLastPlace", spec := "fnExactLastPlace", apart := false, narrowed := true }
def FnExactLastPlaceUptoSaid : Prop := fnExactLastPlaceUptoRow.holds Try.pinned (OpenSpec.upto fnExactLastPlaceSpec)

/-- 'laws.FnLaps', WHERE WHAT IT READS IS OF BULK AT MOST 1048576: true; the input reads as it did. -/
def fnLapsUptoRow : OpenClaim := { program := "ytfnkfipeacjeaaa", sum := "33c66bf409ec760f62d9f8490c755e167afca83c3d035e397fbcf41b2b6c07be", func := "loop.example/g00926/laws.FnLaps", spec := "fnLaps", apart := false, narrowed := true }
def FnLapsUptoSaid : Prop := fnLapsUptoRow.holds Try.pinned (OpenSpec.upto fnLapsSpec)

/-- 'laws.FnExactSowLap', WHERE WHAT IT READS IS OF BULK AT MOST 1048576: true; the input reads as it did. -/
def fnExactSowLapUptoRow : OpenClaim := { program := "ytfnkfipeacjeaaa", sum := "33c66bf409ec760f62d9f8490c755e167afca83c3d035e397fbcf41b2b6c07be", func := "loop.example/g00926/laws.FnExactSowLap", spec := "fnExactSowLap", apart := false, narrowed := true }
def FnExactSowLapUptoSaid : Prop := fnExactSowLapUptoRow.holds Try.pinned (OpenSpec.upto fnExactSowLapSpec)

/-- 'laws.FnExactSowPath', WHERE WHAT IT READS IS OF BULK AT MOST 1048576: true; the input reads as it did. -/
def fnExactSowPathUptoRow : OpenClaim := { program := "ytfnkfipeacjeaaa", sum := "33c66bf409ec760f62d9f8490c755e167afca83c3d035e397fbcf41b2b6c07be", func := "loop.example/g00926/laws.FnExactSowPath", spec := "fnExactSowPath", apart := false, narrowed := true }
def FnExactSowPathUptoSaid : Prop := fnExactSowPathUptoRow.holds Try.pinned (OpenSpec.upto fnExactSowPathSpec)

/-- 'laws.FnExactSowMove', WHERE WHAT IT READS IS OF BULK AT MOST 1048576: true; the input reads as it did. -/
def fnExactSowMoveUptoRow : OpenClaim := { program := "ytfnkfipeacjeaaa", sum := "33c66bf409ec760f62d9f8490c755e167afca83c3d035e397fbcf41b2b6c07be", func := "loop.example/g00926/laws.FnExactSowMove", spec := "fnExactSowMove", apart := false, narrowed := true }
def FnExactSowMoveUptoSaid : Prop := fnExactSowMoveUptoRow.holds Try.pinned (OpenSpec.upto fnExactSowMoveSpec)

/-- 'laws.FnSowing', WHERE WHAT IT READS IS OF BULK AT MOST 1048576: true; the input reads as it did. -/
def fnSowingUptoRow : OpenClaim := { program := "ytfnkfipeacjeaaa", sum := "33c66bf409ec760f62d9f8490c755e167afca83c3d035e397fbcf41b2b6c07be", func := "loop.example/g00926/laws.FnSowing", spec := "fnSowing", apart := false, narrowed := true }
def FnSowingUptoSaid : Prop := fnSowingUptoRow.holds Try.pinned (OpenSpec.upto fnSowingSpec)

/-- 'laws.FnExactIsEndless', WHERE WHAT IT READS IS OF BULK AT MOST 1048576: true; the input reads as it did. -/
def fnExactIsEndlessUptoRow : OpenClaim := { program := "ytfnkfipeacjeaaa", sum := "33c66bf409ec760f62d9f8490c755e167afca83c3d035e397fbcf41b2b6c07be", func := "loop.example/g00926/laws.FnExactIsEndless", spec := "fnExactIsEndless", apart := false, narrowed := true }
def FnExactIsEndlessUptoSaid : Prop := fnExactIsEndlessUptoRow.holds Try.pinned (OpenSpec.upto fnExactIsEndlessSpec)

/-- 'laws.FnExactNewGame', WHERE WHAT IT READS IS OF BULK AT MOST 1048576: true; the input reads as it did. -/
def fnExactNewGameUptoRow : OpenClaim := { program := "ytfnkfipeacjeaaa", sum := "33c66bf409ec760f62d9f8490c755e167afca83c3d035e397fbcf41b2b6c07be", func := "loop.example/g00926/laws.FnExactNewGame", spec := "fnExactNewGame", apart := false, narrowed := true }
def FnExactNewGameUptoSaid : Prop := fnExactNewGameUptoRow.holds Try.pinned (OpenSpec.upto fnExactNewGameSpec)

/-- 'laws.FnExactMoveFault', WHERE WHAT IT READS IS OF BULK AT MOST 1048576: true; the input reads as it did. -/
def fnExactMoveFaultUptoRow : OpenClaim := { program := "ytfnkfipeacjeaaa", sum := "33c66bf409ec760f62d9f8490c755e167afca83c3d035e397fbcf41b2b6c07be", func := "loop.example/g00926/laws.FnExactMoveFault", spec := "fnExactMoveFault", apart := false, narrowed := true }
def FnExactMoveFaultUptoSaid : Prop := fnExactMoveFaultUptoRow.holds Try.pinned (OpenSpec.upto fnExactMoveFaultSpec)

/-- 'laws.FnExactCanMove', WHERE WHAT IT READS IS OF BULK AT MOST 1048576: true; the input reads as it did. -/
def fnExactCanMoveUptoRow : OpenClaim := { program := "ytfnkfipeacjeaaa", sum := "33c66bf409ec760f62d9f8490c755e167afca83c3d035e397fbcf41b2b6c07be", func := "loop.example/g00926/laws.FnExactCanMove", spec := "fnExactCanMove", apart := false, narrowed := true }
def FnExactCanMoveUptoSaid : Prop := fnExactCanMoveUptoRow.holds Try.pinned (OpenSpec.upto fnExactCanMoveSpec)

/-- 'laws.FnExactSeedsMoved', WHERE WHAT IT READS IS OF BULK AT MOST 1048576: true; the input reads as it did. -/
def fnExactSeedsMovedUptoRow : OpenClaim := { program := "ytfnkfipeacjeaaa", sum := "33c66bf409ec760f62d9f8490c755e167afca83c3d035e397fbcf41b2b6c07be", func := "loop.example/g00926/laws.FnExactSeedsMoved", spec := "fnExactSeedsMoved", apart := false, narrowed := true }
def FnExactSeedsMovedUptoSaid : Prop := fnExactSeedsMovedUptoRow.holds Try.pinned (OpenSpec.upto fnExactSeedsMovedSpec)

/-- 'laws.FnExactMovesAgain', WHERE WHAT IT READS IS OF BULK AT MOST 1048576: true; the input reads as it did. -/
def fnExactMovesAgainUptoRow : OpenClaim := { program := "ytfnkfipeacjeaaa", sum := "33c66bf409ec760f62d9f8490c755e167afca83c3d035e397fbcf41b2b6c07be", func := "loop.example/g00926/laws.FnExactMovesAgain", spec := "fnExactMovesAgain", apart := false, narrowed := true }
def FnExactMovesAgainUptoSaid : Prop := fnExactMovesAgainUptoRow.holds Try.pinned (OpenSpec.upto fnExactMovesAgainSpec)

end Rows
end Go.Proofs.Ytfnkfipeacjeaaa
