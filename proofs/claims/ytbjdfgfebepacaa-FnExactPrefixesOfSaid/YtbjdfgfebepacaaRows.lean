/-
  No cell of these rows narrows 'for every input' (looked for: loops, veiled, ifaces, maps, wideKeys, modest, calm, conditions, laid).
  DERIVED. THE GIVEN ROWS OF THIS SEAT. 9 by the template 'for every input the law returns true; each argument reads behind the call as it read before'; 0 by the template 'total and deterministic' (their statements: YtbjdfgfebepacaaTotals.lean).
  GIVEN WITH THE SEED: the statements are not yours to turn. If you find one false, say at which input.
  Laid BY PROGRAM, IN A SANDBOX (cutbox-rows.mjs): the forced cells as the released guide's own fill.sh prints them over the translation 6f847d9e4068c685… (all of the seat's roots in one cut). By AI agents, Wed Nov 11 2026. No macro, syntax, notation, axiom, sorry.
-/
import Derived.Test.YtbjdfgfebepacaaChecked
import GoSem.Claim
import GoSem.ClaimJoined
import GoSem.ClaimMapViews
import Derived.JoinedTies
import Derived.KernelRfl
namespace Go.Proofs.Ytbjdfgfebepacaa
/- THE CELL 'sum', in the pinned program and in every row, IS THE sha256 OF THE DUMP (.gsa) THAT YtbjdfgfebepacaaProg.lean LOADS. Nothing in Lean hashes anything: it is a label: what it is worth is what the hold of that sum in a sandbox is worth. -/
noncomputable def Try.pinned : Pinned := { name := "ytbjdfgfebepacaa", sum := "6f847d9e4068c685c131fb08fabe9389f4785df4469adb0fc019a95eae81bc81", checked := Try.checked }
namespace Rows
def none {H : Type} : Left H := { results := [], args := [] }

/-- 'laws.FnFields': WHATEVER THE INPUT: true; the input reads as it did. -/
def fnFieldsSpec : ChangeSpec := { name := "fnFields", fn := fun _ => fun
  | [d] => { results := [.lit (.bool true)], args := [d] }
  | _ => none }
def fnFieldsRow : OpenClaim := { program := "ytbjdfgfebepacaa", sum := "6f847d9e4068c685c131fb08fabe9389f4785df4469adb0fc019a95eae81bc81", func := "loop.example/g00926/laws.FnFields", spec := "fnFields", apart := false }
def FnFieldsSaid : Prop := fnFieldsRow.holds Try.pinned (OpenSpec.ofChange fnFieldsSpec)

/-- ITS FALSE NEIGHBOUR: 'it returns false'. Refute it at one input. -/
def fnFieldsWrong : ChangeSpec := { name := "fnFields", fn := fun _ => fun
  | [d] => { results := [.lit (.bool false)], args := [d] }
  | _ => none }
def FnFieldsWrongFalsely : Prop := fnFieldsRow.holds Try.pinned (OpenSpec.ofChange fnFieldsWrong)

/-- 'laws.FnExactSamePart': WHATEVER THE INPUT: true; the input reads as it did. -/
def fnExactSamePartSpec : ChangeSpec := { name := "fnExactSamePart", fn := fun _ => fun
  | [d1, d2] => { results := [.lit (.bool true)], args := [d1, d2] }
  | _ => none }
def fnExactSamePartRow : OpenClaim := { program := "ytbjdfgfebepacaa", sum := "6f847d9e4068c685c131fb08fabe9389f4785df4469adb0fc019a95eae81bc81", func := "loop.example/g00926/laws.FnExactSamePart", spec := "fnExactSamePart", apart := false }
def FnExactSamePartSaid : Prop := fnExactSamePartRow.holds Try.pinned (OpenSpec.ofChange fnExactSamePartSpec)

/-- ITS FALSE NEIGHBOUR: 'it returns false'. Refute it at one input. -/
def fnExactSamePartWrong : ChangeSpec := { name := "fnExactSamePart", fn := fun _ => fun
  | [d1, d2] => { results := [.lit (.bool false)], args := [d1, d2] }
  | _ => none }
def FnExactSamePartWrongFalsely : Prop := fnExactSamePartRow.holds Try.pinned (OpenSpec.ofChange fnExactSamePartWrong)

/-- 'laws.FnPressed': WHATEVER THE INPUT: true; the input reads as it did. -/
def fnPressedSpec : ChangeSpec := { name := "fnPressed", fn := fun _ => fun
  | [d] => { results := [.lit (.bool true)], args := [d] }
  | _ => none }
def fnPressedRow : OpenClaim := { program := "ytbjdfgfebepacaa", sum := "6f847d9e4068c685c131fb08fabe9389f4785df4469adb0fc019a95eae81bc81", func := "loop.example/g00926/laws.FnPressed", spec := "fnPressed", apart := false }
def FnPressedSaid : Prop := fnPressedRow.holds Try.pinned (OpenSpec.ofChange fnPressedSpec)

/-- ITS FALSE NEIGHBOUR: 'it returns false'. Refute it at one input. -/
def fnPressedWrong : ChangeSpec := { name := "fnPressed", fn := fun _ => fun
  | [d] => { results := [.lit (.bool false)], args := [d] }
  | _ => none }
def FnPressedWrongFalsely : Prop := fnPressedRow.holds Try.pinned (OpenSpec.ofChange fnPressedWrong)

/-- 'laws.FnStopped': WHATEVER THE INPUT: true; the input reads as it did. -/
def fnStoppedSpec : ChangeSpec := { name := "fnStopped", fn := fun _ => fun
  | [d] => { results := [.lit (.bool true)], args := [d] }
  | _ => none }
def fnStoppedRow : OpenClaim := { program := "ytbjdfgfebepacaa", sum := "6f847d9e4068c685c131fb08fabe9389f4785df4469adb0fc019a95eae81bc81", func := "loop.example/g00926/laws.FnStopped", spec := "fnStopped", apart := false }
def FnStoppedSaid : Prop := fnStoppedRow.holds Try.pinned (OpenSpec.ofChange fnStoppedSpec)

/-- ITS FALSE NEIGHBOUR: 'it returns false'. Refute it at one input. -/
def fnStoppedWrong : ChangeSpec := { name := "fnStopped", fn := fun _ => fun
  | [d] => { results := [.lit (.bool false)], args := [d] }
  | _ => none }
def FnStoppedWrongFalsely : Prop := fnStoppedRow.holds Try.pinned (OpenSpec.ofChange fnStoppedWrong)

/-- 'laws.FnSowing': WHATEVER THE INPUT: true; the input reads as it did. -/
def fnSowingSpec : ChangeSpec := { name := "fnSowing", fn := fun _ => fun
  | [d1, d2] => { results := [.lit (.bool true)], args := [d1, d2] }
  | _ => none }
def fnSowingRow : OpenClaim := { program := "ytbjdfgfebepacaa", sum := "6f847d9e4068c685c131fb08fabe9389f4785df4469adb0fc019a95eae81bc81", func := "loop.example/g00926/laws.FnSowing", spec := "fnSowing", apart := false }
def FnSowingSaid : Prop := fnSowingRow.holds Try.pinned (OpenSpec.ofChange fnSowingSpec)

/-- ITS FALSE NEIGHBOUR: 'it returns false'. Refute it at one input. -/
def fnSowingWrong : ChangeSpec := { name := "fnSowing", fn := fun _ => fun
  | [d1, d2] => { results := [.lit (.bool false)], args := [d1, d2] }
  | _ => none }
def FnSowingWrongFalsely : Prop := fnSowingRow.holds Try.pinned (OpenSpec.ofChange fnSowingWrong)

/-- 'laws.FnWindows': WHATEVER THE INPUT: true; the input reads as it did. -/
def fnWindowsSpec : ChangeSpec := { name := "fnWindows", fn := fun _ => fun
  | [d1, d2] => { results := [.lit (.bool true)], args := [d1, d2] }
  | _ => none }
def fnWindowsRow : OpenClaim := { program := "ytbjdfgfebepacaa", sum := "6f847d9e4068c685c131fb08fabe9389f4785df4469adb0fc019a95eae81bc81", func := "loop.example/g00926/laws.FnWindows", spec := "fnWindows", recurses := true, apart := false }
def FnWindowsSaid : Prop := fnWindowsRow.holds Try.pinned (OpenSpec.ofChange fnWindowsSpec)

/-- ITS FALSE NEIGHBOUR: 'it returns false'. Refute it at one input. -/
def fnWindowsWrong : ChangeSpec := { name := "fnWindows", fn := fun _ => fun
  | [d1, d2] => { results := [.lit (.bool false)], args := [d1, d2] }
  | _ => none }
def FnWindowsWrongFalsely : Prop := fnWindowsRow.holds Try.pinned (OpenSpec.ofChange fnWindowsWrong)

/-- 'laws.FnSearch': WHATEVER THE INPUT: true; the input reads as it did. -/
def fnSearchSpec : ChangeSpec := { name := "fnSearch", fn := fun _ => fun
  | [d1, d2] => { results := [.lit (.bool true)], args := [d1, d2] }
  | _ => none }
def fnSearchRow : OpenClaim := { program := "ytbjdfgfebepacaa", sum := "6f847d9e4068c685c131fb08fabe9389f4785df4469adb0fc019a95eae81bc81", func := "loop.example/g00926/laws.FnSearch", spec := "fnSearch", recurses := true, apart := false }
def FnSearchSaid : Prop := fnSearchRow.holds Try.pinned (OpenSpec.ofChange fnSearchSpec)

/-- ITS FALSE NEIGHBOUR: 'it returns false'. Refute it at one input. -/
def fnSearchWrong : ChangeSpec := { name := "fnSearch", fn := fun _ => fun
  | [d1, d2] => { results := [.lit (.bool false)], args := [d1, d2] }
  | _ => none }
def FnSearchWrongFalsely : Prop := fnSearchRow.holds Try.pinned (OpenSpec.ofChange fnSearchWrong)

/-- 'laws.FnExactResultsOf': WHATEVER THE INPUT: true; the input reads as it did. -/
def fnExactResultsOfSpec : ChangeSpec := { name := "fnExactResultsOf", fn := fun _ => fun
  | [d1, d2] => { results := [.lit (.bool true)], args := [d1, d2] }
  | _ => none }
def fnExactResultsOfRow : OpenClaim := { program := "ytbjdfgfebepacaa", sum := "6f847d9e4068c685c131fb08fabe9389f4785df4469adb0fc019a95eae81bc81", func := "loop.example/g00926/laws.FnExactResultsOf", spec := "fnExactResultsOf", apart := false }
def FnExactResultsOfSaid : Prop := fnExactResultsOfRow.holds Try.pinned (OpenSpec.ofChange fnExactResultsOfSpec)

/-- ITS FALSE NEIGHBOUR: 'it returns false'. Refute it at one input. -/
def fnExactResultsOfWrong : ChangeSpec := { name := "fnExactResultsOf", fn := fun _ => fun
  | [d1, d2] => { results := [.lit (.bool false)], args := [d1, d2] }
  | _ => none }
def FnExactResultsOfWrongFalsely : Prop := fnExactResultsOfRow.holds Try.pinned (OpenSpec.ofChange fnExactResultsOfWrong)

/-- 'laws.FnExactPrefixesOf': WHATEVER THE INPUT: true; the input reads as it did. -/
def fnExactPrefixesOfSpec : ChangeSpec := { name := "fnExactPrefixesOf", fn := fun _ => fun
  | [d1, d2, d3] => { results := [.lit (.bool true)], args := [d1, d2, d3] }
  | _ => none }
def fnExactPrefixesOfRow : OpenClaim := { program := "ytbjdfgfebepacaa", sum := "6f847d9e4068c685c131fb08fabe9389f4785df4469adb0fc019a95eae81bc81", func := "loop.example/g00926/laws.FnExactPrefixesOf", spec := "fnExactPrefixesOf", unfollowed := true, recurses := true, apart := false }
def FnExactPrefixesOfSaid : Prop := fnExactPrefixesOfRow.holds Try.pinned (OpenSpec.ofChange fnExactPrefixesOfSpec)

/-- ITS FALSE NEIGHBOUR: 'it returns false'. Refute it at one input. -/
def fnExactPrefixesOfWrong : ChangeSpec := { name := "fnExactPrefixesOf", fn := fun _ => fun
  | [d1, d2, d3] => { results := [.lit (.bool false)], args := [d1, d2, d3] }
  | _ => none }
def FnExactPrefixesOfWrongFalsely : Prop := fnExactPrefixesOfRow.holds Try.pinned (OpenSpec.ofChange fnExactPrefixesOfWrong)

/- THE SECOND FORM. 'bulk': how many values and letters a reading holds, each counted each time it is reached (what is shared counts as often as it is met; a slice's spare places count too). A statement '..UptoSaid' is the law's where the arguments, and the package variables that the reading takes, are together of bulk at most 1048576: NARROWER than '..Said'. Prove '..Said' where nothing that the law and all that it calls make is longer than what came in: it says more and counts as full. Else prove '..UptoSaid'. A law counts once. -/
mutual
def uptoBulk {H : Type} : DataW H → Nat
  | .lit (.string bytes) => bytes.length + 1
  | .lit _ => 1
  | .nil => 1
  | .ptr d => uptoBulk d + 1
  | .slice elems spare => uptoBulkAll elems + uptoBulkAll spare + 1
  | .agg parts => uptoBulkAll parts + 1
  | .iface _ d => uptoBulk d + 1
  | .map entries => uptoBulkEntries entries + 1
  | .held _ => 1
def uptoBulkAll {H : Type} : List (DataW H) → Nat
  | [] => 0
  | d :: r => uptoBulk d + uptoBulkAll r
def uptoBulkEntries {H : Type} : List (Lit × DataW H) → Nat
  | [] => 0
  | x :: r => uptoBulkEntry x + uptoBulkEntries r
def uptoBulkEntry {H : Type} : Lit × DataW H → Nat
  | (.string bytes, d) => bytes.length + uptoBulk d + 1
  | (_, d) => uptoBulk d + 1
 end
def uptoSmall : (H : Type) → List (DataW H) → Bool := fun _ ds => decide (uptoBulkAll ds ≤ 1048576)
def OpenSpec.upto (s : _root_.Go.ChangeSpec) : _root_.Go.OpenSpec := { _root_.Go.OpenSpec.ofChange s with cond := some uptoSmall }

/-- 'laws.FnFields', WHERE WHAT IT READS IS OF BULK AT MOST 1048576: true; the input reads as it did. -/
def fnFieldsUptoRow : OpenClaim := { program := "ytbjdfgfebepacaa", sum := "6f847d9e4068c685c131fb08fabe9389f4785df4469adb0fc019a95eae81bc81", func := "loop.example/g00926/laws.FnFields", spec := "fnFields", apart := false, narrowed := true }
def FnFieldsUptoSaid : Prop := fnFieldsUptoRow.holds Try.pinned (OpenSpec.upto fnFieldsSpec)

/-- 'laws.FnExactSamePart', WHERE WHAT IT READS IS OF BULK AT MOST 1048576: true; the input reads as it did. -/
def fnExactSamePartUptoRow : OpenClaim := { program := "ytbjdfgfebepacaa", sum := "6f847d9e4068c685c131fb08fabe9389f4785df4469adb0fc019a95eae81bc81", func := "loop.example/g00926/laws.FnExactSamePart", spec := "fnExactSamePart", apart := false, narrowed := true }
def FnExactSamePartUptoSaid : Prop := fnExactSamePartUptoRow.holds Try.pinned (OpenSpec.upto fnExactSamePartSpec)

/-- 'laws.FnPressed', WHERE WHAT IT READS IS OF BULK AT MOST 1048576: true; the input reads as it did. -/
def fnPressedUptoRow : OpenClaim := { program := "ytbjdfgfebepacaa", sum := "6f847d9e4068c685c131fb08fabe9389f4785df4469adb0fc019a95eae81bc81", func := "loop.example/g00926/laws.FnPressed", spec := "fnPressed", apart := false, narrowed := true }
def FnPressedUptoSaid : Prop := fnPressedUptoRow.holds Try.pinned (OpenSpec.upto fnPressedSpec)

/-- 'laws.FnStopped', WHERE WHAT IT READS IS OF BULK AT MOST 1048576: true; the input reads as it did. -/
def fnStoppedUptoRow : OpenClaim := { program := "ytbjdfgfebepacaa", sum := "6f847d9e4068c685c131fb08fabe9389f4785df4469adb0fc019a95eae81bc81", func := "loop.example/g00926/laws.FnStopped", spec := "fnStopped", apart := false, narrowed := true }
def FnStoppedUptoSaid : Prop := fnStoppedUptoRow.holds Try.pinned (OpenSpec.upto fnStoppedSpec)

/-- 'laws.FnSowing', WHERE WHAT IT READS IS OF BULK AT MOST 1048576: true; the input reads as it did. -/
def fnSowingUptoRow : OpenClaim := { program := "ytbjdfgfebepacaa", sum := "6f847d9e4068c685c131fb08fabe9389f4785df4469adb0fc019a95eae81bc81", func := "loop.example/g00926/laws.FnSowing", spec := "fnSowing", apart := false, narrowed := true }
def FnSowingUptoSaid : Prop := fnSowingUptoRow.holds Try.pinned (OpenSpec.upto fnSowingSpec)

/-- 'laws.FnWindows', WHERE WHAT IT READS IS OF BULK AT MOST 1048576: true; the input reads as it did. -/
def fnWindowsUptoRow : OpenClaim := { program := "ytbjdfgfebepacaa", sum := "6f847d9e4068c685c131fb08fabe9389f4785df4469adb0fc019a95eae81bc81", func := "loop.example/g00926/laws.FnWindows", spec := "fnWindows", recurses := true, apart := false, narrowed := true }
def FnWindowsUptoSaid : Prop := fnWindowsUptoRow.holds Try.pinned (OpenSpec.upto fnWindowsSpec)

/-- 'laws.FnSearch', WHERE WHAT IT READS IS OF BULK AT MOST 1048576: true; the input reads as it did. -/
def fnSearchUptoRow : OpenClaim := { program := "ytbjdfgfebepacaa", sum := "6f847d9e4068c685c131fb08fabe9389f4785df4469adb0fc019a95eae81bc81", func := "loop.example/g00926/laws.FnSearch", spec := "fnSearch", recurses := true, apart := false, narrowed := true }
def FnSearchUptoSaid : Prop := fnSearchUptoRow.holds Try.pinned (OpenSpec.upto fnSearchSpec)

/-- 'laws.FnExactResultsOf', WHERE WHAT IT READS IS OF BULK AT MOST 1048576: true; the input reads as it did. -/
def fnExactResultsOfUptoRow : OpenClaim := { program := "ytbjdfgfebepacaa", sum := "6f847d9e4068c685c131fb08fabe9389f4785df4469adb0fc019a95eae81bc81", func := "loop.example/g00926/laws.FnExactResultsOf", spec := "fnExactResultsOf", apart := false, narrowed := true }
def FnExactResultsOfUptoSaid : Prop := fnExactResultsOfUptoRow.holds Try.pinned (OpenSpec.upto fnExactResultsOfSpec)

/-- 'laws.FnExactPrefixesOf', WHERE WHAT IT READS IS OF BULK AT MOST 1048576: true; the input reads as it did. -/
def fnExactPrefixesOfUptoRow : OpenClaim := { program := "ytbjdfgfebepacaa", sum := "6f847d9e4068c685c131fb08fabe9389f4785df4469adb0fc019a95eae81bc81", func := "loop.example/g00926/laws.FnExactPrefixesOf", spec := "fnExactPrefixesOf", unfollowed := true, recurses := true, apart := false, narrowed := true }
def FnExactPrefixesOfUptoSaid : Prop := fnExactPrefixesOfUptoRow.holds Try.pinned (OpenSpec.upto fnExactPrefixesOfSpec)

end Rows
end Go.Proofs.Ytbjdfgfebepacaa
