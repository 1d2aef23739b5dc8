/-
  No cell of these rows narrows 'for every input' (looked for: loops, veiled, ifaces, maps, wideKeys, modest, calm, conditions, laid).
  DERIVED. THE GIVEN ROWS OF THIS SEAT. 12 by the template 'for every input the law returns true; each argument reads behind the call as it read before'; 0 by the template 'total and deterministic' (their statements: YtcgbbjlcijhcnaaTotals.lean).
  GIVEN WITH THE SEED: the statements are not yours to turn. If you find one false, say at which input.
  Laid BY PROGRAM, IN A SANDBOX (cutbox-rows.mjs): the forced cells as the released guide's own fill.sh prints them over the translation b7dea4c0abc30ba5… (all of the seat's roots in one cut). By AI agents, Wed Nov 11 2026. No macro, syntax, notation, axiom, sorry.
-/
import Derived.Test.YtcgbbjlcijhcnaaChecked
import GoSem.Claim
import GoSem.ClaimJoined
import GoSem.ClaimMapViews
import Derived.JoinedTies
import Derived.KernelRfl
namespace Go.Proofs.Ytcgbbjlcijhcnaa
/- THE CELL 'sum', in the pinned program and in every row, IS THE sha256 OF THE DUMP (.gsa) THAT YtcgbbjlcijhcnaaProg.lean LOADS. Nothing in Lean hashes anything: it is a label: what it is worth is what the hold of that sum in a sandbox is worth. -/
noncomputable def Try.pinned : Pinned := { name := "ytcgbbjlcijhcnaa", sum := "b7dea4c0abc30ba5527f311a5943cbfa71854f5d3fb0d7df13ad94b985944d30", checked := Try.checked }
namespace Rows
def none {H : Type} : Left H := { results := [], args := [] }

/-- 'laws.FnExactViewOf': WHATEVER THE INPUT: true; the input reads as it did. -/
def fnExactViewOfSpec : ChangeSpec := { name := "fnExactViewOf", fn := fun _ => fun
  | [d1, d2] => { results := [.lit (.bool true)], args := [d1, d2] }
  | _ => none }
def fnExactViewOfRow : OpenClaim := { program := "ytcgbbjlcijhcnaa", sum := "b7dea4c0abc30ba5527f311a5943cbfa71854f5d3fb0d7df13ad94b985944d30", func := "loop.example/g00926/laws.FnExactViewOf", spec := "fnExactViewOf", apart := false }
def FnExactViewOfSaid : Prop := fnExactViewOfRow.holds Try.pinned (OpenSpec.ofChange fnExactViewOfSpec)

/-- ITS FALSE NEIGHBOUR: 'it returns false'. Refute it at one input. -/
def fnExactViewOfWrong : ChangeSpec := { name := "fnExactViewOf", fn := fun _ => fun
  | [d1, d2] => { results := [.lit (.bool false)], args := [d1, d2] }
  | _ => none }
def FnExactViewOfWrongFalsely : Prop := fnExactViewOfRow.holds Try.pinned (OpenSpec.ofChange fnExactViewOfWrong)

/-- 'laws.FnExactResultsOf': WHATEVER THE INPUT: true; the input reads as it did. -/
def fnExactResultsOfSpec : ChangeSpec := { name := "fnExactResultsOf", fn := fun _ => fun
  | [d1, d2] => { results := [.lit (.bool true)], args := [d1, d2] }
  | _ => none }
def fnExactResultsOfRow : OpenClaim := { program := "ytcgbbjlcijhcnaa", sum := "b7dea4c0abc30ba5527f311a5943cbfa71854f5d3fb0d7df13ad94b985944d30", func := "loop.example/g00926/laws.FnExactResultsOf", spec := "fnExactResultsOf", apart := false }
def FnExactResultsOfSaid : Prop := fnExactResultsOfRow.holds Try.pinned (OpenSpec.ofChange fnExactResultsOfSpec)

/-- ITS FALSE NEIGHBOUR: 'it returns false'. Refute it at one input. -/
def fnExactResultsOfWrong : ChangeSpec := { name := "fnExactResultsOf", fn := fun _ => fun
  | [d1, d2] => { results := [.lit (.bool false)], args := [d1, d2] }
  | _ => none }
def FnExactResultsOfWrongFalsely : Prop := fnExactResultsOfRow.holds Try.pinned (OpenSpec.ofChange fnExactResultsOfWrong)

/-- 'laws.FnExactSearchValue': WHATEVER THE INPUT: true; the input reads as it did. -/
def fnExactSearchValueSpec : ChangeSpec := { name := "fnExactSearchValue", fn := fun _ => fun
  | [d1, d2, d3] => { results := [.lit (.bool true)], args := [d1, d2, d3] }
  | _ => none }
def fnExactSearchValueRow : OpenClaim := { program := "ytcgbbjlcijhcnaa", sum := "b7dea4c0abc30ba5527f311a5943cbfa71854f5d3fb0d7df13ad94b985944d30", func := "loop.example/g00926/laws.FnExactSearchValue", spec := "fnExactSearchValue", recurses := true, apart := false }
def FnExactSearchValueSaid : Prop := fnExactSearchValueRow.holds Try.pinned (OpenSpec.ofChange fnExactSearchValueSpec)

/-- ITS FALSE NEIGHBOUR: 'it returns false'. Refute it at one input. -/
def fnExactSearchValueWrong : ChangeSpec := { name := "fnExactSearchValue", fn := fun _ => fun
  | [d1, d2, d3] => { results := [.lit (.bool false)], args := [d1, d2, d3] }
  | _ => none }
def FnExactSearchValueWrongFalsely : Prop := fnExactSearchValueRow.holds Try.pinned (OpenSpec.ofChange fnExactSearchValueWrong)

/-- 'laws.FnExactSearchSize': WHATEVER THE INPUT: true; the input reads as it did. -/
def fnExactSearchSizeSpec : ChangeSpec := { name := "fnExactSearchSize", fn := fun _ => fun
  | [d1, d2, d3] => { results := [.lit (.bool true)], args := [d1, d2, d3] }
  | _ => none }
def fnExactSearchSizeRow : OpenClaim := { program := "ytcgbbjlcijhcnaa", sum := "b7dea4c0abc30ba5527f311a5943cbfa71854f5d3fb0d7df13ad94b985944d30", func := "loop.example/g00926/laws.FnExactSearchSize", spec := "fnExactSearchSize", recurses := true, apart := false }
def FnExactSearchSizeSaid : Prop := fnExactSearchSizeRow.holds Try.pinned (OpenSpec.ofChange fnExactSearchSizeSpec)

/-- ITS FALSE NEIGHBOUR: 'it returns false'. Refute it at one input. -/
def fnExactSearchSizeWrong : ChangeSpec := { name := "fnExactSearchSize", fn := fun _ => fun
  | [d1, d2, d3] => { results := [.lit (.bool false)], args := [d1, d2, d3] }
  | _ => none }
def FnExactSearchSizeWrongFalsely : Prop := fnExactSearchSizeRow.holds Try.pinned (OpenSpec.ofChange fnExactSearchSizeWrong)

/-- 'laws.FnExactSearchWindow': WHATEVER THE INPUT: true; the input reads as it did. -/
def fnExactSearchWindowSpec : ChangeSpec := { name := "fnExactSearchWindow", fn := fun _ => fun
  | [d1, d2, d3, d4, d5] => { results := [.lit (.bool true)], args := [d1, d2, d3, d4, d5] }
  | _ => none }
def fnExactSearchWindowRow : OpenClaim := { program := "ytcgbbjlcijhcnaa", sum := "b7dea4c0abc30ba5527f311a5943cbfa71854f5d3fb0d7df13ad94b985944d30", func := "loop.example/g00926/laws.FnExactSearchWindow", spec := "fnExactSearchWindow", recurses := true, apart := false }
def FnExactSearchWindowSaid : Prop := fnExactSearchWindowRow.holds Try.pinned (OpenSpec.ofChange fnExactSearchWindowSpec)

/-- ITS FALSE NEIGHBOUR: 'it returns false'. Refute it at one input. -/
def fnExactSearchWindowWrong : ChangeSpec := { name := "fnExactSearchWindow", fn := fun _ => fun
  | [d1, d2, d3, d4, d5] => { results := [.lit (.bool false)], args := [d1, d2, d3, d4, d5] }
  | _ => none }
def FnExactSearchWindowWrongFalsely : Prop := fnExactSearchWindowRow.holds Try.pinned (OpenSpec.ofChange fnExactSearchWindowWrong)

/-- 'laws.FnExactSearchMove': WHATEVER THE INPUT: true; the input reads as it did. -/
def fnExactSearchMoveSpec : ChangeSpec := { name := "fnExactSearchMove", fn := fun _ => fun
  | [d1, d2, d3] => { results := [.lit (.bool true)], args := [d1, d2, d3] }
  | _ => none }
def fnExactSearchMoveRow : OpenClaim := { program := "ytcgbbjlcijhcnaa", sum := "b7dea4c0abc30ba5527f311a5943cbfa71854f5d3fb0d7df13ad94b985944d30", func := "loop.example/g00926/laws.FnExactSearchMove", spec := "fnExactSearchMove", recurses := true, apart := false }
def FnExactSearchMoveSaid : Prop := fnExactSearchMoveRow.holds Try.pinned (OpenSpec.ofChange fnExactSearchMoveSpec)

/-- ITS FALSE NEIGHBOUR: 'it returns false'. Refute it at one input. -/
def fnExactSearchMoveWrong : ChangeSpec := { name := "fnExactSearchMove", fn := fun _ => fun
  | [d1, d2, d3] => { results := [.lit (.bool false)], args := [d1, d2, d3] }
  | _ => none }
def FnExactSearchMoveWrongFalsely : Prop := fnExactSearchMoveRow.holds Try.pinned (OpenSpec.ofChange fnExactSearchMoveWrong)

/-- 'laws.FnExactCountLines': WHATEVER THE INPUT: true; the input reads as it did. -/
def fnExactCountLinesSpec : ChangeSpec := { name := "fnExactCountLines", fn := fun _ => fun
  | [d1, d2, d3] => { results := [.lit (.bool true)], args := [d1, d2, d3] }
  | _ => none }
def fnExactCountLinesRow : OpenClaim := { program := "ytcgbbjlcijhcnaa", sum := "b7dea4c0abc30ba5527f311a5943cbfa71854f5d3fb0d7df13ad94b985944d30", func := "loop.example/g00926/laws.FnExactCountLines", spec := "fnExactCountLines", unfollowed := true, recurses := true, apart := false }
def FnExactCountLinesSaid : Prop := fnExactCountLinesRow.holds Try.pinned (OpenSpec.ofChange fnExactCountLinesSpec)

/-- ITS FALSE NEIGHBOUR: 'it returns false'. Refute it at one input. -/
def fnExactCountLinesWrong : ChangeSpec := { name := "fnExactCountLines", fn := fun _ => fun
  | [d1, d2, d3] => { results := [.lit (.bool false)], args := [d1, d2, d3] }
  | _ => none }
def FnExactCountLinesWrongFalsely : Prop := fnExactCountLinesRow.holds Try.pinned (OpenSpec.ofChange fnExactCountLinesWrong)

/-- 'laws.FnExactCountFinished': WHATEVER THE INPUT: true; the input reads as it did. -/
def fnExactCountFinishedSpec : ChangeSpec := { name := "fnExactCountFinished", fn := fun _ => fun
  | [d1, d2, d3] => { results := [.lit (.bool true)], args := [d1, d2, d3] }
  | _ => none }
def fnExactCountFinishedRow : OpenClaim := { program := "ytcgbbjlcijhcnaa", sum := "b7dea4c0abc30ba5527f311a5943cbfa71854f5d3fb0d7df13ad94b985944d30", func := "loop.example/g00926/laws.FnExactCountFinished", spec := "fnExactCountFinished", unfollowed := true, recurses := true, apart := false }
def FnExactCountFinishedSaid : Prop := fnExactCountFinishedRow.holds Try.pinned (OpenSpec.ofChange fnExactCountFinishedSpec)

/-- ITS FALSE NEIGHBOUR: 'it returns false'. Refute it at one input. -/
def fnExactCountFinishedWrong : ChangeSpec := { name := "fnExactCountFinished", fn := fun _ => fun
  | [d1, d2, d3] => { results := [.lit (.bool false)], args := [d1, d2, d3] }
  | _ => none }
def FnExactCountFinishedWrongFalsely : Prop := fnExactCountFinishedRow.holds Try.pinned (OpenSpec.ofChange fnExactCountFinishedWrong)

/-- 'laws.FnExactShortestEnd': WHATEVER THE INPUT: true; the input reads as it did. -/
def fnExactShortestEndSpec : ChangeSpec := { name := "fnExactShortestEnd", fn := fun _ => fun
  | [d1, d2, d3] => { results := [.lit (.bool true)], args := [d1, d2, d3] }
  | _ => none }
def fnExactShortestEndRow : OpenClaim := { program := "ytcgbbjlcijhcnaa", sum := "b7dea4c0abc30ba5527f311a5943cbfa71854f5d3fb0d7df13ad94b985944d30", func := "loop.example/g00926/laws.FnExactShortestEnd", spec := "fnExactShortestEnd", unfollowed := true, recurses := true, apart := false }
def FnExactShortestEndSaid : Prop := fnExactShortestEndRow.holds Try.pinned (OpenSpec.ofChange fnExactShortestEndSpec)

/-- ITS FALSE NEIGHBOUR: 'it returns false'. Refute it at one input. -/
def fnExactShortestEndWrong : ChangeSpec := { name := "fnExactShortestEnd", fn := fun _ => fun
  | [d1, d2, d3] => { results := [.lit (.bool false)], args := [d1, d2, d3] }
  | _ => none }
def FnExactShortestEndWrongFalsely : Prop := fnExactShortestEndRow.holds Try.pinned (OpenSpec.ofChange fnExactShortestEndWrong)

/-- 'laws.FnExactLevelCounts': WHATEVER THE INPUT: true; the input reads as it did. -/
def fnExactLevelCountsSpec : ChangeSpec := { name := "fnExactLevelCounts", fn := fun _ => fun
  | [d1, d2, d3] => { results := [.lit (.bool true)], args := [d1, d2, d3] }
  | _ => none }
def fnExactLevelCountsRow : OpenClaim := { program := "ytcgbbjlcijhcnaa", sum := "b7dea4c0abc30ba5527f311a5943cbfa71854f5d3fb0d7df13ad94b985944d30", func := "loop.example/g00926/laws.FnExactLevelCounts", spec := "fnExactLevelCounts", unfollowed := true, recurses := true, apart := false }
def FnExactLevelCountsSaid : Prop := fnExactLevelCountsRow.holds Try.pinned (OpenSpec.ofChange fnExactLevelCountsSpec)

/-- ITS FALSE NEIGHBOUR: 'it returns false'. Refute it at one input. -/
def fnExactLevelCountsWrong : ChangeSpec := { name := "fnExactLevelCounts", fn := fun _ => fun
  | [d1, d2, d3] => { results := [.lit (.bool false)], args := [d1, d2, d3] }
  | _ => none }
def FnExactLevelCountsWrongFalsely : Prop := fnExactLevelCountsRow.holds Try.pinned (OpenSpec.ofChange fnExactLevelCountsWrong)

/-- 'laws.FnExactCountBehind': WHATEVER THE INPUT: true; the input reads as it did. -/
def fnExactCountBehindSpec : ChangeSpec := { name := "fnExactCountBehind", fn := fun _ => fun
  | [d1, d2, d3, d4] => { results := [.lit (.bool true)], args := [d1, d2, d3, d4] }
  | _ => none }
def fnExactCountBehindRow : OpenClaim := { program := "ytcgbbjlcijhcnaa", sum := "b7dea4c0abc30ba5527f311a5943cbfa71854f5d3fb0d7df13ad94b985944d30", func := "loop.example/g00926/laws.FnExactCountBehind", spec := "fnExactCountBehind", unfollowed := true, recurses := true, apart := false }
def FnExactCountBehindSaid : Prop := fnExactCountBehindRow.holds Try.pinned (OpenSpec.ofChange fnExactCountBehindSpec)

/-- ITS FALSE NEIGHBOUR: 'it returns false'. Refute it at one input. -/
def fnExactCountBehindWrong : ChangeSpec := { name := "fnExactCountBehind", fn := fun _ => fun
  | [d1, d2, d3, d4] => { results := [.lit (.bool false)], args := [d1, d2, d3, d4] }
  | _ => none }
def FnExactCountBehindWrongFalsely : Prop := fnExactCountBehindRow.holds Try.pinned (OpenSpec.ofChange fnExactCountBehindWrong)

/-- 'laws.FnWindows': WHATEVER THE INPUT: true; the input reads as it did. -/
def fnWindowsSpec : ChangeSpec := { name := "fnWindows", fn := fun _ => fun
  | [d1, d2] => { results := [.lit (.bool true)], args := [d1, d2] }
  | _ => none }
def fnWindowsRow : OpenClaim := { program := "ytcgbbjlcijhcnaa", sum := "b7dea4c0abc30ba5527f311a5943cbfa71854f5d3fb0d7df13ad94b985944d30", func := "loop.example/g00926/laws.FnWindows", spec := "fnWindows", recurses := true, apart := false }
def FnWindowsSaid : Prop := fnWindowsRow.holds Try.pinned (OpenSpec.ofChange fnWindowsSpec)

/-- ITS FALSE NEIGHBOUR: 'it returns false'. Refute it at one input. -/
def fnWindowsWrong : ChangeSpec := { name := "fnWindows", fn := fun _ => fun
  | [d1, d2] => { results := [.lit (.bool false)], args := [d1, d2] }
  | _ => none }
def FnWindowsWrongFalsely : Prop := fnWindowsRow.holds Try.pinned (OpenSpec.ofChange fnWindowsWrong)

/- THE SECOND FORM. 'bulk': how many values and letters a reading holds, each counted each time it is reached (what is shared counts as often as it is met; a slice's spare places count too). A statement '..UptoSaid' is the law's where the arguments, and the package variables that the reading takes, are together of bulk at most 1048576: NARROWER than '..Said'. Prove '..Said' where nothing that the law and all that it calls make is longer than what came in: it says more and counts as full. Else prove '..UptoSaid'. A law counts once. -/
mutual
def uptoBulk {H : Type} : DataW H → Nat
  | .lit (.string bytes) => bytes.length + 1
  | .lit _ => 1
  | .nil => 1
  | .ptr d => uptoBulk d + 1
  | .slice elems spare => uptoBulkAll elems + uptoBulkAll spare + 1
  | .agg parts => uptoBulkAll parts + 1
  | .iface _ d => uptoBulk d + 1
  | .map entries => uptoBulkEntries entries + 1
  | .held _ => 1
def uptoBulkAll {H : Type} : List (DataW H) → Nat
  | [] => 0
  | d :: r => uptoBulk d + uptoBulkAll r
def uptoBulkEntries {H : Type} : List (Lit × DataW H) → Nat
  | [] => 0
  | x :: r => uptoBulkEntry x + uptoBulkEntries r
def uptoBulkEntry {H : Type} : Lit × DataW H → Nat
  | (.string bytes, d) => bytes.length + uptoBulk d + 1
  | (_, d) => uptoBulk d + 1
 end
def uptoSmall : (H : Type) → List (DataW H) → Bool := fun _ ds => decide (uptoBulkAll ds ≤ 1048576)
def OpenSpec.upto (s : _root_.Go.ChangeSpec) : _root_.Go.OpenSpec := { _root_.Go.OpenSpec.ofChange s with cond := some uptoSmall }

/-- 'laws.FnExactViewOf', WHERE WHAT IT READS IS OF BULK AT MOST 1048576: true; the input reads as it did. -/
def fnExactViewOfUptoRow : OpenClaim := { program := "ytcgbbjlcijhcnaa", sum := "b7dea4c0abc30ba5527f311a5943cbfa71854f5d3fb0d7df13ad94b985944d30", func := "loop.example/g00926/laws.FnExactViewOf", spec := "fnExactViewOf", apart := false, narrowed := true }
def FnExactViewOfUptoSaid : Prop := fnExactViewOfUptoRow.holds Try.pinned (OpenSpec.upto fnExactViewOfSpec)

/-- 'laws.FnExactResultsOf', WHERE WHAT IT READS IS OF BULK AT MOST 1048576: true; the input reads as it did. -/
def fnExactResultsOfUptoRow : OpenClaim := { program := "ytcgbbjlcijhcnaa", sum := "b7dea4c0abc30ba5527f311a5943cbfa71854f5d3fb0d7df13ad94b985944d30", func := "loop.example/g00926/laws.FnExactResultsOf", spec := "fnExactResultsOf", apart := false, narrowed := true }
def FnExactResultsOfUptoSaid : Prop := fnExactResultsOfUptoRow.holds Try.pinned (OpenSpec.upto fnExactResultsOfSpec)

/-- 'laws.FnExactSearchValue', WHERE WHAT IT READS IS OF BULK AT MOST 1048576: true; the input reads as it did. -/
def fnExactSearchValueUptoRow : OpenClaim := { program := "ytcgbbjlcijhcnaa", sum := "b7dea4c0abc30ba5527f311a5943cbfa71854f5d3fb0d7df13ad94b985944d30", func := "loop.example/g00926/laws.FnExactSearchValue", spec := "fnExactSearchValue", recurses := true, apart := false, narrowed := true }
def FnExactSearchValueUptoSaid : Prop := fnExactSearchValueUptoRow.holds Try.pinned (OpenSpec.upto fnExactSearchValueSpec)

/-- 'laws.FnExactSearchSize', WHERE WHAT IT READS IS OF BULK AT MOST 1048576: true; the input reads as it did. -/
def fnExactSearchSizeUptoRow : OpenClaim := { program := "ytcgbbjlcijhcnaa", sum := "b7dea4c0abc30ba5527f311a5943cbfa71854f5d3fb0d7df13ad94b985944d30", func := "loop.example/g00926/laws.FnExactSearchSize", spec := "fnExactSearchSize", recurses := true, apart := false, narrowed := true }
def FnExactSearchSizeUptoSaid : Prop := fnExactSearchSizeUptoRow.holds Try.pinned (OpenSpec.upto fnExactSearchSizeSpec)

/-- 'laws.FnExactSearchWindow', WHERE WHAT IT READS IS OF BULK AT MOST 1048576: true; the input reads as it did. -/
def fnExactSearchWindowUptoRow : OpenClaim := { program := "ytcgbbjlcijhcnaa", sum := "b7dea4c0abc30ba5527f311a5943cbfa71854f5d3fb0d7df13ad94b985944d30", func := "loop.example/g00926/laws.FnExactSearchWindow", spec := "fnExactSearchWindow", recurses := true, apart := false, narrowed := true }
def FnExactSearchWindowUptoSaid : Prop := fnExactSearchWindowUptoRow.holds Try.pinned (OpenSpec.upto fnExactSearchWindowSpec)

/-- 'laws.FnExactSearchMove', WHERE WHAT IT READS IS OF BULK AT MOST 1048576: true; the input reads as it did. -/
def fnExactSearchMoveUptoRow : OpenClaim := { program := "ytcgbbjlcijhcnaa", sum := "b7dea4c0abc30ba5527f311a5943cbfa71854f5d3fb0d7df13ad94b985944d30", func := "loop.example/g00926/laws.FnExactSearchMove", spec := "fnExactSearchMove", recurses := true, apart := false, narrowed := true }
def FnExactSearchMoveUptoSaid : Prop := fnExactSearchMoveUptoRow.holds Try.pinned (OpenSpec.upto fnExactSearchMoveSpec)

/-- 'laws.FnExactCountLines', WHERE WHAT IT READS IS OF BULK AT MOST 1048576: true; the input reads as it did. -/
def fnExactCountLinesUptoRow : OpenClaim := { program := "ytcgbbjlcijhcnaa", sum := "b7dea4c0abc30ba5527f311a5943cbfa71854f5d3fb0d7df13ad94b985944d30", func := "loop.example/g00926/laws.FnExactCountLines", spec := "fnExactCountLines", unfollowed := true, recurses := true, apart := false, narrowed := true }
def FnExactCountLinesUptoSaid : Prop := fnExactCountLinesUptoRow.holds Try.pinned (OpenSpec.upto fnExactCountLinesSpec)

/-- 'laws.FnExactCountFinished', WHERE WHAT IT READS IS OF BULK AT MOST 1048576: true; the input reads as it did. -/
def fnExactCountFinishedUptoRow : OpenClaim := { program := "ytcgbbjlcijhcnaa", sum := "b7dea4c0abc30ba5527f311a5943cbfa71854f5d3fb0d7df13ad94b985944d30", func := "loop.example/g00926/laws.FnExactCountFinished", spec := "fnExactCountFinished", unfollowed := true, recurses := true, apart := false, narrowed := true }
def FnExactCountFinishedUptoSaid : Prop := fnExactCountFinishedUptoRow.holds Try.pinned (OpenSpec.upto fnExactCountFinishedSpec)

/-- 'laws.FnExactShortestEnd', WHERE WHAT IT READS IS OF BULK AT MOST 1048576: true; the input reads as it did. -/
def fnExactShortestEndUptoRow : OpenClaim := { program := "ytcgbbjlcijhcnaa", sum := "b7dea4c0abc30ba5527f311a5943cbfa71854f5d3fb0d7df13ad94b985944d30", func := "loop.example/g00926/laws.FnExactShortestEnd", spec := "fnExactShortestEnd", unfollowed := true, recurses := true, apart := false, narrowed := true }
def FnExactShortestEndUptoSaid : Prop := fnExactShortestEndUptoRow.holds Try.pinned (OpenSpec.upto fnExactShortestEndSpec)

/-- 'laws.FnExactLevelCounts', WHERE WHAT IT READS IS OF BULK AT MOST 1048576: true; the input reads as it did. -/
def fnExactLevelCountsUptoRow : OpenClaim := { program := "ytcgbbjlcijhcnaa", sum := "b7dea4c0abc30ba5527f311a5943cbfa71854f5d3fb0d7df13ad94b985944d30", func := "loop.example/g00926/laws.FnExactLevelCounts", spec := "fnExactLevelCounts", unfollowed := true, recurses := true, apart := false, narrowed := true }
def FnExactLevelCountsUptoSaid : Prop := fnExactLevelCountsUptoRow.holds Try.pinned (OpenSpec.upto fnExactLevelCountsSpec)

/-- 'laws.FnExactCountBehind', WHERE WHAT IT READS IS OF BULK AT MOST 1048576: true; the input reads as it did. -/
def fnExactCountBehindUptoRow : OpenClaim := { program := "ytcgbbjlcijhcnaa", sum := "b7dea4c0abc30ba5527f311a5943cbfa71854f5d3fb0d7df13ad94b985944d30", func := "loop.example/g00926/laws.FnExactCountBehind", spec := "fnExactCountBehind", unfollowed := true, recurses := true, apart := false, narrowed := true }
def FnExactCountBehindUptoSaid : Prop := fnExactCountBehindUptoRow.holds Try.pinned (OpenSpec.upto fnExactCountBehindSpec)

/-- 'laws.FnWindows', WHERE WHAT IT READS IS OF BULK AT MOST 1048576: true; the input reads as it did. -/
def fnWindowsUptoRow : OpenClaim := { program := "ytcgbbjlcijhcnaa", sum := "b7dea4c0abc30ba5527f311a5943cbfa71854f5d3fb0d7df13ad94b985944d30", func := "loop.example/g00926/laws.FnWindows", spec := "fnWindows", recurses := true, apart := false, narrowed := true }
def FnWindowsUptoSaid : Prop := fnWindowsUptoRow.holds Try.pinned (OpenSpec.upto fnWindowsSpec)

end Rows
end Go.Proofs.Ytcgbbjlcijhcnaa
