/-
  No cell of these rows narrows 'for every input' (looked for: loops, veiled, ifaces, maps, wideKeys, modest, calm, conditions, laid).
  DERIVED. THE GIVEN ROWS OF THIS SEAT. 7 by the template 'for every input the law returns true; each argument reads behind the call as it read before'; 0 by the template 'total and deterministic' (their statements: YtbjgigdkbjabaaaTotals.lean).
  GIVEN WITH THE SEED: the statements are not yours to turn. If you find one false, say at which input.
  Laid BY PROGRAM, IN A SANDBOX (cutbox-rows.mjs): the forced cells as the released guide's own fill.sh prints them over the translation 11a31fd7989f9032… (all of the seat's roots in one cut). By AI agents, Wed Nov 11 2026. No macro, syntax, notation, axiom, sorry.
-/
import Derived.Test.YtbjgigdkbjabaaaChecked
import GoSem.Claim
import GoSem.ClaimJoined
import GoSem.ClaimMapViews
import Derived.JoinedTies
import Derived.KernelRfl
namespace Go.Proofs.Ytbjgigdkbjabaaa
/- THE CELL 'sum', in the pinned program and in every row, IS THE sha256 OF THE DUMP (.gsa) THAT YtbjgigdkbjabaaaProg.lean LOADS. Nothing in Lean hashes anything: it is a label: what it is worth is what the hold of that sum in a sandbox is worth. -/
noncomputable def Try.pinned : Pinned := { name := "ytbjgigdkbjabaaa", sum := "11a31fd7989f903256d311c40aa52940a48670980b7e93abd4de6cf4fd615aff", checked := Try.checked }
namespace Rows
def none {H : Type} : Left H := { results := [], args := [] }

/-- 'laws.FnExactApplyFacts': WHATEVER THE INPUT: true; the input reads as it did. -/
def fnExactApplyFactsSpec : ChangeSpec := { name := "fnExactApplyFacts", fn := fun _ => fun
  | [d1, d2, d3] => { results := [.lit (.bool true)], args := [d1, d2, d3] }
  | _ => none }
def fnExactApplyFactsRow : OpenClaim := { program := "ytbjgigdkbjabaaa", sum := "11a31fd7989f903256d311c40aa52940a48670980b7e93abd4de6cf4fd615aff", func := "loop.example/g00926/laws.FnExactApplyFacts", spec := "fnExactApplyFacts", apart := false }
def FnExactApplyFactsSaid : Prop := fnExactApplyFactsRow.holds Try.pinned (OpenSpec.ofChange fnExactApplyFactsSpec)

/-- ITS FALSE NEIGHBOUR: 'it returns false'. Refute it at one input. -/
def fnExactApplyFactsWrong : ChangeSpec := { name := "fnExactApplyFacts", fn := fun _ => fun
  | [d1, d2, d3] => { results := [.lit (.bool false)], args := [d1, d2, d3] }
  | _ => none }
def FnExactApplyFactsWrongFalsely : Prop := fnExactApplyFactsRow.holds Try.pinned (OpenSpec.ofChange fnExactApplyFactsWrong)

/-- 'laws.FnExactFactsOf': WHATEVER THE INPUT: true; the input reads as it did. -/
def fnExactFactsOfSpec : ChangeSpec := { name := "fnExactFactsOf", fn := fun _ => fun
  | [d1, d2, d3] => { results := [.lit (.bool true)], args := [d1, d2, d3] }
  | _ => none }
def fnExactFactsOfRow : OpenClaim := { program := "ytbjgigdkbjabaaa", sum := "11a31fd7989f903256d311c40aa52940a48670980b7e93abd4de6cf4fd615aff", func := "loop.example/g00926/laws.FnExactFactsOf", spec := "fnExactFactsOf", apart := false }
def FnExactFactsOfSaid : Prop := fnExactFactsOfRow.holds Try.pinned (OpenSpec.ofChange fnExactFactsOfSpec)

/-- ITS FALSE NEIGHBOUR: 'it returns false'. Refute it at one input. -/
def fnExactFactsOfWrong : ChangeSpec := { name := "fnExactFactsOf", fn := fun _ => fun
  | [d1, d2, d3] => { results := [.lit (.bool false)], args := [d1, d2, d3] }
  | _ => none }
def FnExactFactsOfWrongFalsely : Prop := fnExactFactsOfRow.holds Try.pinned (OpenSpec.ofChange fnExactFactsOfWrong)

/-- 'laws.FnExactForgetShallow': WHATEVER THE INPUT: true; the input reads as it did. -/
def fnExactForgetShallowSpec : ChangeSpec := { name := "fnExactForgetShallow", fn := fun _ => fun
  | [d1, d2] => { results := [.lit (.bool true)], args := [d1, d2] }
  | _ => none }
def fnExactForgetShallowRow : OpenClaim := { program := "ytbjgigdkbjabaaa", sum := "11a31fd7989f903256d311c40aa52940a48670980b7e93abd4de6cf4fd615aff", func := "loop.example/g00926/laws.FnExactForgetShallow", spec := "fnExactForgetShallow", apart := false }
def FnExactForgetShallowSaid : Prop := fnExactForgetShallowRow.holds Try.pinned (OpenSpec.ofChange fnExactForgetShallowSpec)

/-- ITS FALSE NEIGHBOUR: 'it returns false'. Refute it at one input. -/
def fnExactForgetShallowWrong : ChangeSpec := { name := "fnExactForgetShallow", fn := fun _ => fun
  | [d1, d2] => { results := [.lit (.bool false)], args := [d1, d2] }
  | _ => none }
def FnExactForgetShallowWrongFalsely : Prop := fnExactForgetShallowRow.holds Try.pinned (OpenSpec.ofChange fnExactForgetShallowWrong)

/-- 'laws.FnExactMergeMemories': WHATEVER THE INPUT: true; the input reads as it did. -/
def fnExactMergeMemoriesSpec : ChangeSpec := { name := "fnExactMergeMemories", fn := fun _ => fun
  | [d1, d2] => { results := [.lit (.bool true)], args := [d1, d2] }
  | _ => none }
def fnExactMergeMemoriesRow : OpenClaim := { program := "ytbjgigdkbjabaaa", sum := "11a31fd7989f903256d311c40aa52940a48670980b7e93abd4de6cf4fd615aff", func := "loop.example/g00926/laws.FnExactMergeMemories", spec := "fnExactMergeMemories", apart := false }
def FnExactMergeMemoriesSaid : Prop := fnExactMergeMemoriesRow.holds Try.pinned (OpenSpec.ofChange fnExactMergeMemoriesSpec)

/-- ITS FALSE NEIGHBOUR: 'it returns false'. Refute it at one input. -/
def fnExactMergeMemoriesWrong : ChangeSpec := { name := "fnExactMergeMemories", fn := fun _ => fun
  | [d1, d2] => { results := [.lit (.bool false)], args := [d1, d2] }
  | _ => none }
def FnExactMergeMemoriesWrongFalsely : Prop := fnExactMergeMemoriesRow.holds Try.pinned (OpenSpec.ofChange fnExactMergeMemoriesWrong)

/-- 'laws.FnExactStoreValue': WHATEVER THE INPUT: true; the input reads as it did. -/
def fnExactStoreValueSpec : ChangeSpec := { name := "fnExactStoreValue", fn := fun _ => fun
  | [d1, d2, d3, d4, d5] => { results := [.lit (.bool true)], args := [d1, d2, d3, d4, d5] }
  | _ => none }
def fnExactStoreValueRow : OpenClaim := { program := "ytbjgigdkbjabaaa", sum := "11a31fd7989f903256d311c40aa52940a48670980b7e93abd4de6cf4fd615aff", func := "loop.example/g00926/laws.FnExactStoreValue", spec := "fnExactStoreValue", apart := false }
def FnExactStoreValueSaid : Prop := fnExactStoreValueRow.holds Try.pinned (OpenSpec.ofChange fnExactStoreValueSpec)

/-- ITS FALSE NEIGHBOUR: 'it returns false'. Refute it at one input. -/
def fnExactStoreValueWrong : ChangeSpec := { name := "fnExactStoreValue", fn := fun _ => fun
  | [d1, d2, d3, d4, d5] => { results := [.lit (.bool false)], args := [d1, d2, d3, d4, d5] }
  | _ => none }
def FnExactStoreValueWrongFalsely : Prop := fnExactStoreValueRow.holds Try.pinned (OpenSpec.ofChange fnExactStoreValueWrong)

/-- 'laws.FnExactTableOf': WHATEVER THE INPUT: true; the input reads as it did. -/
def fnExactTableOfSpec : ChangeSpec := { name := "fnExactTableOf", fn := fun _ => fun
  | [d1, d2] => { results := [.lit (.bool true)], args := [d1, d2] }
  | _ => none }
def fnExactTableOfRow : OpenClaim := { program := "ytbjgigdkbjabaaa", sum := "11a31fd7989f903256d311c40aa52940a48670980b7e93abd4de6cf4fd615aff", func := "loop.example/g00926/laws.FnExactTableOf", spec := "fnExactTableOf", inPlace := ["internal/reflectlite.ValueOf", "internal/reflectlite.Swapper", "(internal/reflectlite.Value).Len"], unfollowed := true, recurses := true, apart := false }
def FnExactTableOfSaid : Prop := fnExactTableOfRow.holds Try.pinned (OpenSpec.ofChange fnExactTableOfSpec)

/-- ITS FALSE NEIGHBOUR: 'it returns false'. Refute it at one input. -/
def fnExactTableOfWrong : ChangeSpec := { name := "fnExactTableOf", fn := fun _ => fun
  | [d1, d2] => { results := [.lit (.bool false)], args := [d1, d2] }
  | _ => none }
def FnExactTableOfWrongFalsely : Prop := fnExactTableOfRow.holds Try.pinned (OpenSpec.ofChange fnExactTableOfWrong)

/-- 'laws.FnTables': WHATEVER THE INPUT: true; the input reads as it did. -/
def fnTablesSpec : ChangeSpec := { name := "fnTables", fn := fun _ => fun
  | [d] => { results := [.lit (.bool true)], args := [d] }
  | _ => none }
def fnTablesRow : OpenClaim := { program := "ytbjgigdkbjabaaa", sum := "11a31fd7989f903256d311c40aa52940a48670980b7e93abd4de6cf4fd615aff", func := "loop.example/g00926/laws.FnTables", spec := "fnTables", inPlace := ["internal/reflectlite.ValueOf", "internal/reflectlite.Swapper", "(internal/reflectlite.Value).Len"], unfollowed := true, recurses := true, apart := false }
def FnTablesSaid : Prop := fnTablesRow.holds Try.pinned (OpenSpec.ofChange fnTablesSpec)

/-- ITS FALSE NEIGHBOUR: 'it returns false'. Refute it at one input. -/
def fnTablesWrong : ChangeSpec := { name := "fnTables", fn := fun _ => fun
  | [d] => { results := [.lit (.bool false)], args := [d] }
  | _ => none }
def FnTablesWrongFalsely : Prop := fnTablesRow.holds Try.pinned (OpenSpec.ofChange fnTablesWrong)

/- THE SECOND FORM. 'bulk': how many values and letters a reading holds, each counted each time it is reached (what is shared counts as often as it is met; a slice's spare places count too). A statement '..UptoSaid' is the law's where the arguments, and the package variables that the reading takes, are together of bulk at most 1048576: NARROWER than '..Said'. Prove '..Said' where nothing that the law and all that it calls make is longer than what came in: it says more and counts as full. Else prove '..UptoSaid'. A law counts once. -/
mutual
def uptoBulk {H : Type} : DataW H → Nat
  | .lit (.string bytes) => bytes.length + 1
  | .lit _ => 1
  | .nil => 1
  | .ptr d => uptoBulk d + 1
  | .slice elems spare => uptoBulkAll elems + uptoBulkAll spare + 1
  | .agg parts => uptoBulkAll parts + 1
  | .iface _ d => uptoBulk d + 1
  | .map entries => uptoBulkEntries entries + 1
  | .held _ => 1
def uptoBulkAll {H : Type} : List (DataW H) → Nat
  | [] => 0
  | d :: r => uptoBulk d + uptoBulkAll r
def uptoBulkEntries {H : Type} : List (Lit × DataW H) → Nat
  | [] => 0
  | x :: r => uptoBulkEntry x + uptoBulkEntries r
def uptoBulkEntry {H : Type} : Lit × DataW H → Nat
  | (.string bytes, d) => bytes.length + uptoBulk d + 1
  | (_, d) => uptoBulk d + 1
 end
def uptoSmall : (H : Type) → List (DataW H) → Bool := fun _ ds => decide (uptoBulkAll ds ≤ 1048576)
def OpenSpec.upto (s : _root_.Go.ChangeSpec) : _root_.Go.OpenSpec := { _root_.Go.OpenSpec.ofChange s with cond := some uptoSmall }

/-- 'laws.FnExactApplyFacts', WHERE WHAT IT READS IS OF BULK AT MOST 1048576: true; the input reads as it did. -/
def fnExactApplyFactsUptoRow : OpenClaim := { program := "ytbjgigdkbjabaaa", sum := "11a31fd7989f903256d311c40aa52940a48670980b7e93abd4de6cf4fd615aff", func := "loop.example/g00926/laws.FnExactApplyFacts", spec := "fnExactApplyFacts", apart := false, narrowed := true }
def FnExactApplyFactsUptoSaid : Prop := fnExactApplyFactsUptoRow.holds Try.pinned (OpenSpec.upto fnExactApplyFactsSpec)

/-- 'laws.FnExactFactsOf', WHERE WHAT IT READS IS OF BULK AT MOST 1048576: true; the input reads as it did. -/
def fnExactFactsOfUptoRow : OpenClaim := { program := "ytbjgigdkbjabaaa", sum := "11a31fd7989f903256d311c40aa52940a48670980b7e93abd4de6cf4fd615aff", func := "loop.example/g00926/laws.FnExactFactsOf", spec := "fnExactFactsOf", apart := false, narrowed := true }
def FnExactFactsOfUptoSaid : Prop := fnExactFactsOfUptoRow.holds Try.pinned (OpenSpec.upto fnExactFactsOfSpec)

/-- 'laws.FnExactForgetShallow', WHERE WHAT IT READS IS OF BULK AT MOST 1048576: true; the input reads as it did. -/
def fnExactForgetShallowUptoRow : OpenClaim := { program := "ytbjgigdkbjabaaa", sum := "11a31fd7989f903256d311c40aa52940a48670980b7e93abd4de6cf4fd615aff", func := "loop.example/g00926/laws.FnExactForgetShallow", spec := "fnExactForgetShallow", apart := false, narrowed := true }
def FnExactForgetShallowUptoSaid : Prop := fnExactForgetShallowUptoRow.holds Try.pinned (OpenSpec.upto fnExactForgetShallowSpec)

/-- 'laws.FnExactMergeMemories', WHERE WHAT IT READS IS OF BULK AT MOST 1048576: true; the input reads as it did. -/
def fnExactMergeMemoriesUptoRow : OpenClaim := { program := "ytbjgigdkbjabaaa", sum := "11a31fd7989f903256d311c40aa52940a48670980b7e93abd4de6cf4fd615aff", func := "loop.example/g00926/laws.FnExactMergeMemories", spec := "fnExactMergeMemories", apart := false, narrowed := true }
def FnExactMergeMemoriesUptoSaid : Prop := fnExactMergeMemoriesUptoRow.holds Try.pinned (OpenSpec.upto fnExactMergeMemoriesSpec)

/-- 'laws.FnExactStoreValue', WHERE WHAT IT READS IS OF BULK AT MOST 1048576: true; the input reads as it did. -/
def fnExactStoreValueUptoRow : OpenClaim := { program := "ytbjgigdkbjabaaa", sum := "11a31fd7989f903256d311c40aa52940a48670980b7e93abd4de6cf4fd615aff", func := "loop.example/g00926/laws.FnExactStoreValue", spec := "fnExactStoreValue", apart := false, narrowed := true }
def FnExactStoreValueUptoSaid : Prop := fnExactStoreValueUptoRow.holds Try.pinned (OpenSpec.upto fnExactStoreValueSpec)

/-- 'laws.FnExactTableOf', WHERE WHAT IT READS IS OF BULK AT MOST 1048576: true; the input reads as it did. -/
def fnExactTableOfUptoRow : OpenClaim := { program := "ytbjgigdkbjabaaa", sum := "11a31fd7989f903256d311c40aa52940a48670980b7e93abd4de6cf4fd615aff", func := "loop.example/g00926/laws.FnExactTableOf", spec := "fnExactTableOf", inPlace := ["internal/reflectlite.ValueOf", "internal/reflectlite.Swapper", "(internal/reflectlite.Value).Len"], unfollowed := true, recurses := true, apart := false, narrowed := true }
def FnExactTableOfUptoSaid : Prop := fnExactTableOfUptoRow.holds Try.pinned (OpenSpec.upto fnExactTableOfSpec)

/-- 'laws.FnTables', WHERE WHAT IT READS IS OF BULK AT MOST 1048576: true; the input reads as it did. -/
def fnTablesUptoRow : OpenClaim := { program := "ytbjgigdkbjabaaa", sum := "11a31fd7989f903256d311c40aa52940a48670980b7e93abd4de6cf4fd615aff", func := "loop.example/g00926/laws.FnTables", spec := "fnTables", inPlace := ["internal/reflectlite.ValueOf", "internal/reflectlite.Swapper", "(internal/reflectlite.Value).Len"], unfollowed := true, recurses := true, apart := false, narrowed := true }
def FnTablesUptoSaid : Prop := fnTablesUptoRow.holds Try.pinned (OpenSpec.upto fnTablesSpec)

end Rows
end Go.Proofs.Ytbjgigdkbjabaaa
