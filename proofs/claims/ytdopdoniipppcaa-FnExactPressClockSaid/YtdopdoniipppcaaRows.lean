/-
  No cell of these rows narrows 'for every input' (looked for: loops, veiled, ifaces, maps, wideKeys, modest, calm, conditions, laid).
  DERIVED. THE GIVEN ROWS OF THIS SEAT. 4 by the template 'for every input the law returns true; each argument reads behind the call as it read before'; 0 by the template 'total and deterministic' (their statements: YtdopdoniipppcaaTotals.lean).
  GIVEN WITH THE SEED: the statements are not yours to turn. If you find one false, say at which input.
  Laid BY PROGRAM, IN A SANDBOX (cutbox-rows.mjs): the forced cells as the released guide's own fill.sh prints them over the translation 5d46e2cc5e6d3570… (all of the seat's roots in one cut). By AI agents, Wed Nov 11 2026. No macro, syntax, notation, axiom, sorry.
-/
import Derived.Test.YtdopdoniipppcaaChecked
import GoSem.Claim
import GoSem.ClaimJoined
import GoSem.ClaimMapViews
import Derived.JoinedTies
import Derived.KernelRfl
namespace Go.Proofs.Ytdopdoniipppcaa
/- THE CELL 'sum', in the pinned program and in every row, IS THE sha256 OF THE DUMP (.gsa) THAT YtdopdoniipppcaaProg.lean LOADS. Nothing in Lean hashes anything: it is a label: what it is worth is what the hold of that sum in a sandbox is worth. -/
noncomputable def Try.pinned : Pinned := { name := "ytdopdoniipppcaa", sum := "5d46e2cc5e6d35703882fb8c038e9ff22e30b17736ba975d01866e83f61605b4", checked := Try.checked }
namespace Rows
def none {H : Type} : Left H := { results := [], args := [] }

/-- 'laws.FnExactStopClock': WHATEVER THE INPUT: true; the input reads as it did. -/
def fnExactStopClockSpec : ChangeSpec := { name := "fnExactStopClock", fn := fun _ => fun
  | [d1, d2] => { results := [.lit (.bool true)], args := [d1, d2] }
  | _ => none }
def fnExactStopClockRow : OpenClaim := { program := "ytdopdoniipppcaa", sum := "5d46e2cc5e6d35703882fb8c038e9ff22e30b17736ba975d01866e83f61605b4", func := "loop.example/g00926/laws.FnExactStopClock", spec := "fnExactStopClock", apart := false }
def FnExactStopClockSaid : Prop := fnExactStopClockRow.holds Try.pinned (OpenSpec.ofChange fnExactStopClockSpec)

/-- ITS FALSE NEIGHBOUR: 'it returns false'. Refute it at one input. -/
def fnExactStopClockWrong : ChangeSpec := { name := "fnExactStopClock", fn := fun _ => fun
  | [d1, d2] => { results := [.lit (.bool false)], args := [d1, d2] }
  | _ => none }
def FnExactStopClockWrongFalsely : Prop := fnExactStopClockRow.holds Try.pinned (OpenSpec.ofChange fnExactStopClockWrong)

/-- 'laws.FnExactPressClock': WHATEVER THE INPUT: true; the input reads as it did. -/
def fnExactPressClockSpec : ChangeSpec := { name := "fnExactPressClock", fn := fun _ => fun
  | [d1, d2] => { results := [.lit (.bool true)], args := [d1, d2] }
  | _ => none }
def fnExactPressClockRow : OpenClaim := { program := "ytdopdoniipppcaa", sum := "5d46e2cc5e6d35703882fb8c038e9ff22e30b17736ba975d01866e83f61605b4", func := "loop.example/g00926/laws.FnExactPressClock", spec := "fnExactPressClock", apart := false }
def FnExactPressClockSaid : Prop := fnExactPressClockRow.holds Try.pinned (OpenSpec.ofChange fnExactPressClockSpec)

/-- ITS FALSE NEIGHBOUR: 'it returns false'. Refute it at one input. -/
def fnExactPressClockWrong : ChangeSpec := { name := "fnExactPressClock", fn := fun _ => fun
  | [d1, d2] => { results := [.lit (.bool false)], args := [d1, d2] }
  | _ => none }
def FnExactPressClockWrongFalsely : Prop := fnExactPressClockRow.holds Try.pinned (OpenSpec.ofChange fnExactPressClockWrong)

/-- 'laws.FnExactLastPlace': WHATEVER THE INPUT: true; the input reads as it did. -/
def fnExactLastPlaceSpec : ChangeSpec := { name := "fnExactLastPlace", fn := fun _ => fun
  | [d1, d2, d3, d4] => { results := [.lit (.bool true)], args := [d1, d2, d3, d4] }
  | _ => none }
def fnExactLastPlaceRow : OpenClaim := { program := "ytdopdoniipppcaa", sum := "5d46e2cc5e6d35703882fb8c038e9ff22e30b17736ba975d01866e83f61605b4", func := "loop.example/g00926/laws.FnExactLastPlace", spec := "fnExactLastPlace", apart := false }
def FnExactLastPlaceSaid : Prop := fnExactLastPlaceRow.holds Try.pinned (OpenSpec.ofChange fnExactLastPlaceSpec)

/-- ITS FALSE NEIGHBOUR: 'it returns false'. Refute it at one input. -/
def fnExactLastPlaceWrong : ChangeSpec := { name := "fnExactLastPlace", fn := fun _ => fun
  | [d1, d2, d3, d4] => { results := [.lit (.bool false)], args := [d1, d2, d3, d4] }
  | _ => none }
def FnExactLastPlaceWrongFalsely : Prop := fnExactLastPlaceRow.holds Try.pinned (OpenSpec.ofChange fnExactLastPlaceWrong)

/-- 'laws.FnExactIsEndless': WHATEVER THE INPUT: true; the input reads as it did. -/
def fnExactIsEndlessSpec : ChangeSpec := { name := "fnExactIsEndless", fn := fun _ => fun
  | [d1, d2, d3] => { results := [.lit (.bool true)], args := [d1, d2, d3] }
  | _ => none }
def fnExactIsEndlessRow : OpenClaim := { program := "ytdopdoniipppcaa", sum := "5d46e2cc5e6d35703882fb8c038e9ff22e30b17736ba975d01866e83f61605b4", func := "loop.example/g00926/laws.FnExactIsEndless", spec := "fnExactIsEndless", apart := false }
def FnExactIsEndlessSaid : Prop := fnExactIsEndlessRow.holds Try.pinned (OpenSpec.ofChange fnExactIsEndlessSpec)

/-- ITS FALSE NEIGHBOUR: 'it returns false'. Refute it at one input. -/
def fnExactIsEndlessWrong : ChangeSpec := { name := "fnExactIsEndless", fn := fun _ => fun
  | [d1, d2, d3] => { results := [.lit (.bool false)], args := [d1, d2, d3] }
  | _ => none }
def FnExactIsEndlessWrongFalsely : Prop := fnExactIsEndlessRow.holds Try.pinned (OpenSpec.ofChange fnExactIsEndlessWrong)

/- THE SECOND FORM. 'bulk': how many values and letters a reading holds, each counted each time it is reached (what is shared counts as often as it is met; a slice's spare places count too). A statement '..UptoSaid' is the law's where the arguments, and the package variables that the reading takes, are together of bulk at most 1048576: NARROWER than '..Said'. Prove '..Said' where nothing that the law and all that it calls make is longer than what came in: it says more and counts as full. Else prove '..UptoSaid'. A law counts once. -/
mutual
def uptoBulk {H : Type} : DataW H → Nat
  | .lit (.string bytes) => bytes.length + 1
  | .lit _ => 1
  | .nil => 1
  | .ptr d => uptoBulk d + 1
  | .slice elems spare => uptoBulkAll elems + uptoBulkAll spare + 1
  | .agg parts => uptoBulkAll parts + 1
  | .iface _ d => uptoBulk d + 1
  | .map entries => uptoBulkEntries entries + 1
  | .held _ => 1
def uptoBulkAll {H : Type} : List (DataW H) → Nat
  | [] => 0
  | d :: r => uptoBulk d + uptoBulkAll r
def uptoBulkEntries {H : Type} : List (Lit × DataW H) → Nat
  | [] => 0
  | x :: r => uptoBulkEntry x + uptoBulkEntries r
def uptoBulkEntry {H : Type} : Lit × DataW H → Nat
  | (.string bytes, d) => bytes.length + uptoBulk d + 1
  | (_, d) => uptoBulk d + 1
 end
def uptoSmall : (H : Type) → List (DataW H) → Bool := fun _ ds => decide (uptoBulkAll ds ≤ 1048576)
def OpenSpec.upto (s : _root_.Go.ChangeSpec) : _root_.Go.OpenSpec := { _root_.Go.OpenSpec.ofChange s with cond := some uptoSmall }

/-- 'laws.FnExactStopClock', WHERE WHAT IT READS IS OF BULK AT MOST 1048576: true; the input reads as it did. -/
def fnExactStopClockUptoRow : OpenClaim := { program := "ytdopdoniipppcaa", sum := "5d46e2cc5e6d35703882fb8c038e9ff22e30b17736ba975d01866e83f61605b4", func := "loop.example/g00926/laws.FnExactStopClock", spec := "fnExactStopClock", apart := false, narrowed := true }
def FnExactStopClockUptoSaid : Prop := fnExactStopClockUptoRow.holds Try.pinned (OpenSpec.upto fnExactStopClockSpec)

/-- 'laws.FnExactPressClock', WHERE WHAT IT READS IS OF BULK AT MOST 1048576: true; the input reads as it did. -/
def fnExactPressClockUptoRow : OpenClaim := { program := "ytdopdoniipppcaa", sum := "5d46e2cc5e6d35703882fb8c038e9ff22e30b17736ba975d01866e83f61605b4", func := "loop.example/g00926/laws.FnExactPressClock", spec := "fnExactPressClock", apart := false, narrowed := true }
def FnExactPressClockUptoSaid : Prop := fnExactPressClockUptoRow.holds Try.pinned (OpenSpec.upto fnExactPressClockSpec)

/-- 'laws.FnExactLastPlace', WHERE WHAT IT READS IS OF BULK AT MOST 1048576: true; the input reads as it did. -/
def fnExactLastPlaceUptoRow : OpenClaim := { program := "ytdopdoniipppcaa", sum := "5d46e2cc5e6d35703882fb8c038e9ff22e30b17736ba975d01866e83f61605b4", func := "loop.example/g00926/laws.FnExactLastPlace", spec := "fnExactLastPlace", apart := false, narrowed := true }
def FnExactLastPlaceUptoSaid : Prop := fnExactLastPlaceUptoRow.holds Try.pinned (OpenSpec.upto fnExactLastPlaceSpec)

/-- 'laws.FnExactIsEndless', WHERE WHAT IT READS IS OF BULK AT MOST 1048576: true; the input reads as it did. -/
def fnExactIsEndlessUptoRow : OpenClaim := { program := "ytdopdoniipppcaa", sum := "5d46e2cc5e6d35703882fb8c038e9ff22e30b17736ba975d01866e83f61605b4", func := "loop.example/g00926/laws.FnExactIsEndless", spec := "fnExactIsEndless", apart := false, narrowed := true }
def FnExactIsEndlessUptoSaid : Prop := fnExactIsEndlessUptoRow.holds Try.pinned (OpenSpec.upto fnExactIsEndlessSpec)

end Rows
end Go.Proofs.Ytdopdoniipppcaa
