/-
  No cell of these rows narrows 'for every input' (looked for: loops, veiled, ifaces, maps, wideKeys, modest, calm, conditions, laid).
  DERIVED. THE GIVEN ROWS OF THIS SEAT. 12 by the template 'for every input the law returns true; each argument reads behind the call as it read before'; 0 by the template 'total and deterministic' (their statements: YtfmkkjjolbcbfaaTotals.lean).
  GIVEN WITH THE SEED: the statements are not yours to turn. If you find one false, say at which input.
  Laid BY PROGRAM, IN A SANDBOX (cutbox-rows.mjs): the forced cells as the released guide's own fill.sh prints them over the translation 05a0b7416beca1df… (all of the seat's roots in one cut). By AI agents, Wed Nov 11 2026. No macro, syntax, notation, axiom, sorry.
-/
import Derived.Test.YtfmkkjjolbcbfaaChecked
import GoSem.Claim
import GoSem.ClaimJoined
import GoSem.ClaimMapViews
import Derived.JoinedTies
import Derived.KernelRfl
namespace Go.Proofs.Ytfmkkjjolbcbfaa
/- THE CELL 'sum', in the pinned program and in every row, IS THE sha256 OF THE DUMP (.gsa) THAT YtfmkkjjolbcbfaaProg.lean LOADS. Nothing in Lean hashes anything: it is a label: what it is worth is what the hold of that sum in a sandbox is worth. -/
noncomputable def Try.pinned : Pinned := { name := "ytfmkkjjolbcbfaa", sum := "05a0b7416beca1df76b45a3a478ab23db6c8ca9788da229da1823bcabba059fa", checked := Try.checked }
namespace Rows
def none {H : Type} : Left H := { results := [], args := [] }

/-- 'laws.FnExactAddTime': WHATEVER THE INPUT: true; the input reads as it did. -/
def fnExactAddTimeSpec : ChangeSpec := { name := "fnExactAddTime", fn := fun _ => fun
  | [d1, d2, d3] => { results := [.lit (.bool true)], args := [d1, d2, d3] }
  | _ => none }
def fnExactAddTimeRow : OpenClaim := { program := "ytfmkkjjolbcbfaa", sum := "05a0b7416beca1df76b45a3a478ab23db6c8ca9788da229da1823bcabba059fa", func := "loop.example/g00926/laws.FnExactAddTime", spec := "fnExactAddTime", apart := false }
def FnExactAddTimeSaid : Prop := fnExactAddTimeRow.holds Try.pinned (OpenSpec.ofChange fnExactAddTimeSpec)

/-- ITS FALSE NEIGHBOUR: 'it returns false'. Refute it at one input. -/
def fnExactAddTimeWrong : ChangeSpec := { name := "fnExactAddTime", fn := fun _ => fun
  | [d1, d2, d3] => { results := [.lit (.bool false)], args := [d1, d2, d3] }
  | _ => none }
def FnExactAddTimeWrongFalsely : Prop := fnExactAddTimeRow.holds Try.pinned (OpenSpec.ofChange fnExactAddTimeWrong)

/-- 'laws.FnExactStartClock': WHATEVER THE INPUT: true; the input reads as it did. -/
def fnExactStartClockSpec : ChangeSpec := { name := "fnExactStartClock", fn := fun _ => fun
  | [d1, d2] => { results := [.lit (.bool true)], args := [d1, d2] }
  | _ => none }
def fnExactStartClockRow : OpenClaim := { program := "ytfmkkjjolbcbfaa", sum := "05a0b7416beca1df76b45a3a478ab23db6c8ca9788da229da1823bcabba059fa", func := "loop.example/g00926/laws.FnExactStartClock", spec := "fnExactStartClock", apart := false }
def FnExactStartClockSaid : Prop := fnExactStartClockRow.holds Try.pinned (OpenSpec.ofChange fnExactStartClockSpec)

/-- ITS FALSE NEIGHBOUR: 'it returns false'. Refute it at one input. -/
def fnExactStartClockWrong : ChangeSpec := { name := "fnExactStartClock", fn := fun _ => fun
  | [d1, d2] => { results := [.lit (.bool false)], args := [d1, d2] }
  | _ => none }
def FnExactStartClockWrongFalsely : Prop := fnExactStartClockRow.holds Try.pinned (OpenSpec.ofChange fnExactStartClockWrong)

/-- 'laws.FnExactStopClock': WHATEVER THE INPUT: true; the input reads as it did. -/
def fnExactStopClockSpec : ChangeSpec := { name := "fnExactStopClock", fn := fun _ => fun
  | [d1, d2] => { results := [.lit (.bool true)], args := [d1, d2] }
  | _ => none }
def fnExactStopClockRow : OpenClaim := { program := "ytfmkkjjolbcbfaa", sum := "05a0b7416beca1df76b45a3a478ab23db6c8ca9788da229da1823bcabba059fa", func := "loop.example/g00926/laws.FnExactStopClock", spec := "fnExactStopClock", apart := false }
def FnExactStopClockSaid : Prop := fnExactStopClockRow.holds Try.pinned (OpenSpec.ofChange fnExactStopClockSpec)

/-- ITS FALSE NEIGHBOUR: 'it returns false'. Refute it at one input. -/
def fnExactStopClockWrong : ChangeSpec := { name := "fnExactStopClock", fn := fun _ => fun
  | [d1, d2] => { results := [.lit (.bool false)], args := [d1, d2] }
  | _ => none }
def FnExactStopClockWrongFalsely : Prop := fnExactStopClockRow.holds Try.pinned (OpenSpec.ofChange fnExactStopClockWrong)

/-- 'laws.FnExactPressClock': WHATEVER THE INPUT: true; the input reads as it did. -/
def fnExactPressClockSpec : ChangeSpec := { name := "fnExactPressClock", fn := fun _ => fun
  | [d1, d2] => { results := [.lit (.bool true)], args := [d1, d2] }
  | _ => none }
def fnExactPressClockRow : OpenClaim := { program := "ytfmkkjjolbcbfaa", sum := "05a0b7416beca1df76b45a3a478ab23db6c8ca9788da229da1823bcabba059fa", func := "loop.example/g00926/laws.FnExactPressClock", spec := "fnExactPressClock", apart := false }
def FnExactPressClockSaid : Prop := fnExactPressClockRow.holds Try.pinned (OpenSpec.ofChange fnExactPressClockSpec)

/-- ITS FALSE NEIGHBOUR: 'it returns false'. Refute it at one input. -/
def fnExactPressClockWrong : ChangeSpec := { name := "fnExactPressClock", fn := fun _ => fun
  | [d1, d2] => { results := [.lit (.bool false)], args := [d1, d2] }
  | _ => none }
def FnExactPressClockWrongFalsely : Prop := fnExactPressClockRow.holds Try.pinned (OpenSpec.ofChange fnExactPressClockWrong)

/-- 'laws.FnPressed': WHATEVER THE INPUT: true; the input reads as it did. -/
def fnPressedSpec : ChangeSpec := { name := "fnPressed", fn := fun _ => fun
  | [d] => { results := [.lit (.bool true)], args := [d] }
  | _ => none }
def fnPressedRow : OpenClaim := { program := "ytfmkkjjolbcbfaa", sum := "05a0b7416beca1df76b45a3a478ab23db6c8ca9788da229da1823bcabba059fa", func := "loop.example/g00926/laws.FnPressed", spec := "fnPressed", apart := false }
def FnPressedSaid : Prop := fnPressedRow.holds Try.pinned (OpenSpec.ofChange fnPressedSpec)

/-- ITS FALSE NEIGHBOUR: 'it returns false'. Refute it at one input. -/
def fnPressedWrong : ChangeSpec := { name := "fnPressed", fn := fun _ => fun
  | [d] => { results := [.lit (.bool false)], args := [d] }
  | _ => none }
def FnPressedWrongFalsely : Prop := fnPressedRow.holds Try.pinned (OpenSpec.ofChange fnPressedWrong)

/-- 'laws.FnStopped': WHATEVER THE INPUT: true; the input reads as it did. -/
def fnStoppedSpec : ChangeSpec := { name := "fnStopped", fn := fun _ => fun
  | [d] => { results := [.lit (.bool true)], args := [d] }
  | _ => none }
def fnStoppedRow : OpenClaim := { program := "ytfmkkjjolbcbfaa", sum := "05a0b7416beca1df76b45a3a478ab23db6c8ca9788da229da1823bcabba059fa", func := "loop.example/g00926/laws.FnStopped", spec := "fnStopped", apart := false }
def FnStoppedSaid : Prop := fnStoppedRow.holds Try.pinned (OpenSpec.ofChange fnStoppedSpec)

/-- ITS FALSE NEIGHBOUR: 'it returns false'. Refute it at one input. -/
def fnStoppedWrong : ChangeSpec := { name := "fnStopped", fn := fun _ => fun
  | [d] => { results := [.lit (.bool false)], args := [d] }
  | _ => none }
def FnStoppedWrongFalsely : Prop := fnStoppedRow.holds Try.pinned (OpenSpec.ofChange fnStoppedWrong)

/-- 'laws.FnSowing': WHATEVER THE INPUT: true; the input reads as it did. -/
def fnSowingSpec : ChangeSpec := { name := "fnSowing", fn := fun _ => fun
  | [d1, d2] => { results := [.lit (.bool true)], args := [d1, d2] }
  | _ => none }
def fnSowingRow : OpenClaim := { program := "ytfmkkjjolbcbfaa", sum := "05a0b7416beca1df76b45a3a478ab23db6c8ca9788da229da1823bcabba059fa", func := "loop.example/g00926/laws.FnSowing", spec := "fnSowing", apart := false }
def FnSowingSaid : Prop := fnSowingRow.holds Try.pinned (OpenSpec.ofChange fnSowingSpec)

/-- ITS FALSE NEIGHBOUR: 'it returns false'. Refute it at one input. -/
def fnSowingWrong : ChangeSpec := { name := "fnSowing", fn := fun _ => fun
  | [d1, d2] => { results := [.lit (.bool false)], args := [d1, d2] }
  | _ => none }
def FnSowingWrongFalsely : Prop := fnSowingRow.holds Try.pinned (OpenSpec.ofChange fnSowingWrong)

/-- 'laws.FnExactIsEndless': WHATEVER THE INPUT: true; the input reads as it did. -/
def fnExactIsEndlessSpec : ChangeSpec := { name := "fnExactIsEndless", fn := fun _ => fun
  | [d1, d2, d3] => { results := [.lit (.bool true)], args := [d1, d2, d3] }
  | _ => none }
def fnExactIsEndlessRow : OpenClaim := { program := "ytfmkkjjolbcbfaa", sum := "05a0b7416beca1df76b45a3a478ab23db6c8ca9788da229da1823bcabba059fa", func := "loop.example/g00926/laws.FnExactIsEndless", spec := "fnExactIsEndless", apart := false }
def FnExactIsEndlessSaid : Prop := fnExactIsEndlessRow.holds Try.pinned (OpenSpec.ofChange fnExactIsEndlessSpec)

/-- ITS FALSE NEIGHBOUR: 'it returns false'. Refute it at one input. -/
def fnExactIsEndlessWrong : ChangeSpec := { name := "fnExactIsEndless", fn := fun _ => fun
  | [d1, d2, d3] => { results := [.lit (.bool false)], args := [d1, d2, d3] }
  | _ => none }
def FnExactIsEndlessWrongFalsely : Prop := fnExactIsEndlessRow.holds Try.pinned (OpenSpec.ofChange fnExactIsEndlessWrong)

/-- 'laws.FnExactSowLap': WHATEVER THE INPUT: true; the input reads as it did. -/
def fnExactSowLapSpec : ChangeSpec := { name := "fnExactSowLap", fn := fun _ => fun
  | [d1, d2, d3] => { results := [.lit (.bool true)], args := [d1, d2, d3] }
  | _ => none }
def fnExactSowLapRow : OpenClaim := { program := "ytfmkkjjolbcbfaa", sum := "05a0b7416beca1df76b45a3a478ab23db6c8ca9788da229da1823bcabba059fa", func := "loop.example/g00926/laws.FnExactSowLap", spec := "fnExactSowLap", apart := false }
def FnExactSowLapSaid : Prop := fnExactSowLapRow.holds Try.pinned (OpenSpec.ofChange fnExactSowLapSpec)

/-- ITS FALSE NEIGHBOUR: 'it returns false'. Refute it at one input. -/
def fnExactSowLapWrong : ChangeSpec := { name := "fnExactSowLap", fn := fun _ => fun
  | [d1, d2, d3] => { results := [.lit (.bool false)], args := [d1, d2, d3] }
  | _ => none }
def FnExactSowLapWrongFalsely : Prop := fnExactSowLapRow.holds Try.pinned (OpenSpec.ofChange fnExactSowLapWrong)

/-- 'laws.FnExactSowPath': WHATEVER THE INPUT: true; the input reads as it did. -/
def fnExactSowPathSpec : ChangeSpec := { name := "fnExactSowPath", fn := fun _ => fun
  | [d1, d2, d3] => { results := [.lit (.bool true)], args := [d1, d2, d3] }
  | _ => none }
def fnExactSowPathRow : OpenClaim := { program := "ytfmkkjjolbcbfaa", sum := "05a0b7416beca1df76b45a3a478ab23db6c8ca9788da229da1823bcabba059fa", func := "loop.example/g00926/laws.FnExactSowPath", spec := "fnExactSowPath", apart := false }
def FnExactSowPathSaid : Prop := fnExactSowPathRow.holds Try.pinned (OpenSpec.ofChange fnExactSowPathSpec)

/-- ITS FALSE NEIGHBOUR: 'it returns false'. Refute it at one input. -/
def fnExactSowPathWrong : ChangeSpec := { name := "fnExactSowPath", fn := fun _ => fun
  | [d1, d2, d3] => { results := [.lit (.bool false)], args := [d1, d2, d3] }
  | _ => none }
def FnExactSowPathWrongFalsely : Prop := fnExactSowPathRow.holds Try.pinned (OpenSpec.ofChange fnExactSowPathWrong)

/-- 'laws.FnExactSowMove': WHATEVER THE INPUT: true; the input reads as it did. -/
def fnExactSowMoveSpec : ChangeSpec := { name := "fnExactSowMove", fn := fun _ => fun
  | [d1, d2, d3] => { results := [.lit (.bool true)], args := [d1, d2, d3] }
  | _ => none }
def fnExactSowMoveRow : OpenClaim := { program := "ytfmkkjjolbcbfaa", sum := "05a0b7416beca1df76b45a3a478ab23db6c8ca9788da229da1823bcabba059fa", func := "loop.example/g00926/laws.FnExactSowMove", spec := "fnExactSowMove", apart := false }
def FnExactSowMoveSaid : Prop := fnExactSowMoveRow.holds Try.pinned (OpenSpec.ofChange fnExactSowMoveSpec)

/-- ITS FALSE NEIGHBOUR: 'it returns false'. Refute it at one input. -/
def fnExactSowMoveWrong : ChangeSpec := { name := "fnExactSowMove", fn := fun _ => fun
  | [d1, d2, d3] => { results := [.lit (.bool false)], args := [d1, d2, d3] }
  | _ => none }
def FnExactSowMoveWrongFalsely : Prop := fnExactSowMoveRow.holds Try.pinned (OpenSpec.ofChange fnExactSowMoveWrong)

/-- 'laws.FnExactNewGame': WHATEVER THE INPUT: true; the input reads as it did. -/
def fnExactNewGameSpec : ChangeSpec := { name := "fnExactNewGame", fn := fun _ => fun
  | [d] => { results := [.lit (.bool true)], args := [d] }
  | _ => none }
def fnExactNewGameRow : OpenClaim := { program := "ytfmkkjjolbcbfaa", sum := "05a0b7416beca1df76b45a3a478ab23db6c8ca9788da229da1823bcabba059fa", func := "loop.example/g00926/laws.FnExactNewGame", spec := "fnExactNewGame", apart := false }
def FnExactNewGameSaid : Prop := fnExactNewGameRow.holds Try.pinned (OpenSpec.ofChange fnExactNewGameSpec)

/-- ITS FALSE NEIGHBOUR: 'it returns false'. Refute it at one input. -/
def fnExactNewGameWrong : ChangeSpec := { name := "fnExactNewGame", fn := fun _ => fun
  | [d] => { results := [.lit (.bool false)], args := [d] }
  | _ => none }
def FnExactNewGameWrongFalsely : Prop := fnExactNewGameRow.holds Try.pinned (OpenSpec.ofChange fnExactNewGameWrong)

/- THE SECOND FORM. 'bulk': how many values and letters a reading holds, each counted each time it is reached (what is shared counts as often as it is met; a slice's spare places count too). A statement '..UptoSaid' is the law's where the arguments, and the package variables that the reading takes, are together of bulk at most 1048576: NARROWER than '..Said'. Prove '..Said' where nothing that the law and all that it calls make is longer than what came in: it says more and counts as full. Else prove '..UptoSaid'. A law counts once. -/
mutual
def uptoBulk {H : Type} : DataW H → Nat
  | .lit (.string bytes) => bytes.length + 1
  | .lit _ => 1
  | .nil => 1
  | .ptr d => uptoBulk d + 1
  | .slice elems spare => uptoBulkAll elems + uptoBulkAll spare + 1
  | .agg parts => uptoBulkAll parts + 1
  | .iface _ d => uptoBulk d + 1
  | .map entries => uptoBulkEntries entries + 1
  | .held _ => 1
def uptoBulkAll {H : Type} : List (DataW H) → Nat
  | [] => 0
  | d :: r => uptoBulk d + uptoBulkAll r
def uptoBulkEntries {H : Type} : List (Lit × DataW H) → Nat
  | [] => 0
  | x :: r => uptoBulkEntry x + uptoBulkEntries r
def uptoBulkEntry {H : Type} : Lit × DataW H → Nat
  | (.string bytes, d) => bytes.length + uptoBulk d + 1
  | (_, d) => uptoBulk d + 1
 end
def uptoSmall : (H : Type) → List (DataW H) → Bool := fun _ ds => decide (uptoBulkAll ds ≤ 1048576)
def OpenSpec.upto (s : _root_.Go.ChangeSpec) : _root_.Go.OpenSpec := { _root_.Go.OpenSpec.ofChange s with cond := some uptoSmall }

/-- 'laws.FnExactAddTime', WHERE WHAT IT READS IS OF BULK AT MOST 1048576: true; the input reads as it did. -/
def fnExactAddTimeUptoRow : OpenClaim := { program := "ytfmkkjjolbcbfaa", sum := "05a0b7416beca1df76b45a3a478ab23db6c8ca9788da229da1823bcabba059fa", func := "loop.example/g00926/laws.FnExactAddTime", spec := "fnExactAddTime", apart := false, narrowed := true }
def FnExactAddTimeUptoSaid : Prop := fnExactAddTimeUptoRow.holds Try.pinned (OpenSpec.upto fnExactAddTimeSpec)

/-- 'laws.FnExactStartClock', WHERE WHAT IT READS IS OF BULK AT MOST 1048576: true; the input reads as it did. -/
def fnExactStartClockUptoRow : OpenClaim := { program := "ytfmkkjjolbcbfaa", sum := "05a0b7416beca1df76b45a3a478ab23db6c8ca9788da229da1823bcabba059fa", func := "loop.example/g00926/laws.FnExactStartClock", spec := "fnExactStartClock", apart := false, narrowed := true }
def FnExactStartClockUptoSaid : Prop := fnExactStartClockUptoRow.holds Try.pinned (OpenSpec.upto fnExactStartClockSpec)

/-- 'laws.FnExactStopClock', WHERE WHAT IT READS IS OF BULK AT MOST 1048576: true; the input reads as it did. -/
def fnExactStopClockUptoRow : OpenClaim := { program := "ytfmkkjjolbcbfaa", sum := "05a0b7416beca1df76b45a3a478ab23db6c8ca9788da229da1823bcabba059fa", func := "loop.example/g00926/laws.FnExactStopClock", spec := "fnExactStopClock", apart := false, narrowed := true }
def FnExactStopClockUptoSaid : Prop := fnExactStopClockUptoRow.holds Try.pinned (OpenSpec.upto fnExactStopClockSpec)

/-- 'laws.FnExactPressClock', WHERE WHAT IT READS IS OF BULK AT MOST 1048576: true; the input reads as it did. -/
def fnExactPressClockUptoRow : OpenClaim := { program := "ytfmkkjjolbcbfaa", sum := "05a0b7416beca1df76b45a3a478ab23db6c8ca9788da229da1823bcabba059fa", func := "loop.example/g00926/laws.FnExactPressClock", spec := "fnExactPressClock", apart := false, narrowed := true }
def FnExactPressClockUptoSaid : Prop := fnExactPressClockUptoRow.holds Try.pinned (OpenSpec.upto fnExactPressClockSpec)

/-- 'laws.FnPressed', WHERE WHAT IT READS IS OF BULK AT MOST 1048576: true; the input reads as it did. -/
def fnPressedUptoRow : OpenClaim := { program := "ytfmkkjjolbcbfaa", sum := "05a0b7416beca1df76b45a3a478ab23db6c8ca9788da229da1823bcabba059fa", func := "loop.example/g00926/laws.FnPressed", spec := "fnPressed", apart := false, narrowed := true }
def FnPressedUptoSaid : Prop := fnPressedUptoRow.holds Try.pinned (OpenSpec.upto fnPressedSpec)

/-- 'laws.FnStopped', WHERE WHAT IT READS IS OF BULK AT MOST 1048576: true; the input reads as it did. -/
def fnStoppedUptoRow : OpenClaim := { program := "ytfmkkjjolbcbfaa", sum := "05a0b7416beca1df76b45a3a478ab23db6c8ca9788da229da1823bcabba059fa", func := "loop.example/g00926/laws.FnStopped", spec := "fnStopped", apart := false, narrowed := true }
def FnStoppedUptoSaid : Prop := fnStoppedUptoRow.holds Try.pinned (OpenSpec.upto fnStoppedSpec)

/-- 'laws.FnSowing', WHERE WHAT IT READS IS OF BULK AT MOST 1048576: true; the input reads as it did. -/
def fnSowingUptoRow : OpenClaim := { program := "ytfmkkjjolbcbfaa", sum := "05a0b7416beca1df76b45a3a478ab23db6c8ca9788da229da1823bcabba059fa", func := "loop.example/g00926/laws.FnSowing", spec := "fnSowing", apart := false, narrowed := true }
def FnSowingUptoSaid : Prop := fnSowingUptoRow.holds Try.pinned (OpenSpec.upto fnSowingSpec)

/-- 'laws.FnExactIsEndless', WHERE WHAT IT READS IS OF BULK AT MOST 1048576: true; the input reads as it did. -/
def fnExactIsEndlessUptoRow : OpenClaim := { program := "ytfmkkjjolbcbfaa", sum := "05a0b7416beca1df76b45a3a478ab23db6c8ca9788da229da1823bcabba059fa", func := "loop.example/g00926/laws.FnExactIsEndless", spec := "fnExactIsEndless", apart := false, narrowed := true }
def FnExactIsEndlessUptoSaid : Prop := fnExactIsEndlessUptoRow.holds Try.pinned (OpenSpec.upto fnExactIsEndlessSpec)

/-- 'laws.FnExactSowLap', WHERE WHAT IT READS IS OF BULK AT MOST 1048576: true; the input reads as it did. -/
def fnExactSowLapUptoRow : OpenClaim := { program := "ytfmkkjjolbcbfaa", sum := "05a0b7416beca1df76b45a3a478ab23db6c8ca9788da229da1823bcabba059fa", func := "loop.example/g00926/laws.FnExactSowLap", spec := "fnExactSowLap", apart := false, narrowed := true }
def FnExactSowLapUptoSaid : Prop := fnExactSowLapUptoRow.holds Try.pinned (OpenSpec.upto fnExactSowLapSpec)

/-- 'laws.FnExactSowPath', WHERE WHAT IT READS IS OF BULK AT MOST 1048576: true; the input reads as it did. -/
def fnExactSowPathUptoRow : OpenClaim := { program := "ytfmkkjjolbcbfaa", sum := "05a0b7416beca1df76b45a3a478ab23db6c8ca9788da229da1823bcabba059fa", func := "loop.example/g00926/laws.FnExactSowPath", spec := "fnExactSowPath", apart := false, narrowed := true }
def FnExactSowPathUptoSaid : Prop := fnExactSowPathUptoRow.holds Try.pinned (OpenSpec.upto fnExactSowPathSpec)

/-- 'laws.FnExactSowMove', WHERE WHAT IT READS IS OF BULK AT MOST 1048576: true; the input reads as it did. -/
def fnExactSowMoveUptoRow : OpenClaim := { program := "ytfmkkjjolbcbfaa", sum := "05a0b7416beca1df76b45a3a478ab23db6c8ca9788da229da1823bcabba059fa", func := "loop.example/g00926/laws.FnExactSowMove", spec := "fnExactSowMove", apart := false, narrowed := true }
def FnExactSowMoveUptoSaid : Prop := fnExactSowMoveUptoRow.holds Try.pinned (OpenSpec.upto fnExactSowMoveSpec)

/-- 'laws.FnExactNewGame', WHERE WHAT IT READS IS OF BULK AT MOST 1048576: true; the input reads as it did. -/
def fnExactNewGameUptoRow : OpenClaim := { program := "ytfmkkjjolbcbfaa", sum := "05a0b7416beca1df76b45a3a478ab23db6c8ca9788da229da1823bcabba059fa", func := "loop.example/g00926/laws.FnExactNewGame", spec := "fnExactNewGame", apart := false, narrowed := true }
def FnExactNewGameUptoSaid : Prop := fnExactNewGameUptoRow.holds Try.pinned (OpenSpec.upto fnExactNewGameSpec)

end Rows
end Go.Proofs.Ytfmkkjjolbcbfaa
