/-
  No cell of these rows narrows 'for every input' (looked for: loops, veiled, ifaces, maps, wideKeys, modest, calm, conditions, laid).
  DERIVED. THE GIVEN ROWS OF THIS SEAT. 12 by the template 'for every input the law returns true; each argument reads behind the call as it read before'; 0 by the template 'total and deterministic' (their statements: YtahbohmipklhdaaTotals.lean).
  GIVEN WITH THE SEED: the statements are not yours to turn. If you find one false, say at which input.
  Laid BY PROGRAM, IN A SANDBOX (cutbox-rows.mjs): the forced cells as the released guide's own fill.sh prints them over the translation 5fcd2c57d0ba326c… (all of the seat's roots in one cut). By AI agents, Wed Nov 11 2026. No macro, syntax, notation, axiom, sorry.
-/
import Derived.Test.YtahbohmipklhdaaChecked
import GoSem.Claim
import GoSem.ClaimJoined
import GoSem.ClaimMapViews
import Derived.JoinedTies
import Derived.KernelRfl
namespace Go.Proofs.Ytahbohmipklhdaa
/- THE CELL 'sum', in the pinned program and in every row, IS THE sha256 OF THE DUMP (.gsa) THAT YtahbohmipklhdaaProg.lean LOADS. Nothing in Lean hashes anything: it is a label: what it is worth is what the hold of that sum in a sandbox is worth. -/
noncomputable def Try.pinned : Pinned := { name := "ytahbohmipklhdaa", sum := "5fcd2c57d0ba326c8c852280f8a551b4be5e3f6a8d65b25cf13d65ad3640e464", checked := Try.checked }
namespace Rows
def none {H : Type} : Left H := { results := [], args := [] }

/-- 'laws.FnExactDeskWords': WHATEVER THE INPUT: true; the input reads as it did. -/
def fnExactDeskWordsSpec : ChangeSpec := { name := "fnExactDeskWords", fn := fun _ => fun
  | [] => { results := [.lit (.bool true)], args := [] }
  | _ => none }
def fnExactDeskWordsRow : OpenClaim := { program := "ytahbohmipklhdaa", sum := "5fcd2c57d0ba326c8c852280f8a551b4be5e3f6a8d65b25cf13d65ad3640e464", func := "loop.example/g00926/laws.FnExactDeskWords", spec := "fnExactDeskWords", apart := false }
def FnExactDeskWordsSaid : Prop := fnExactDeskWordsRow.holds Try.pinned (OpenSpec.ofChange fnExactDeskWordsSpec)

/-- ITS FALSE NEIGHBOUR: 'it returns false'. Refute it at one input. -/
def fnExactDeskWordsWrong : ChangeSpec := { name := "fnExactDeskWords", fn := fun _ => fun
  | [] => { results := [.lit (.bool false)], args := [] }
  | _ => none }
def FnExactDeskWordsWrongFalsely : Prop := fnExactDeskWordsRow.holds Try.pinned (OpenSpec.ofChange fnExactDeskWordsWrong)

/-- 'laws.FnExactFieldOf': WHATEVER THE INPUT: true; the input reads as it did. -/
def fnExactFieldOfSpec : ChangeSpec := { name := "fnExactFieldOf", fn := fun _ => fun
  | [d1, d2] => { results := [.lit (.bool true)], args := [d1, d2] }
  | _ => none }
def fnExactFieldOfRow : OpenClaim := { program := "ytahbohmipklhdaa", sum := "5fcd2c57d0ba326c8c852280f8a551b4be5e3f6a8d65b25cf13d65ad3640e464", func := "loop.example/g00926/laws.FnExactFieldOf", spec := "fnExactFieldOf", apart := false }
def FnExactFieldOfSaid : Prop := fnExactFieldOfRow.holds Try.pinned (OpenSpec.ofChange fnExactFieldOfSpec)

/-- ITS FALSE NEIGHBOUR: 'it returns false'. Refute it at one input. -/
def fnExactFieldOfWrong : ChangeSpec := { name := "fnExactFieldOf", fn := fun _ => fun
  | [d1, d2] => { results := [.lit (.bool false)], args := [d1, d2] }
  | _ => none }
def FnExactFieldOfWrongFalsely : Prop := fnExactFieldOfRow.holds Try.pinned (OpenSpec.ofChange fnExactFieldOfWrong)

/-- 'laws.FnExactLastPlace': WHATEVER THE INPUT: true; the input reads as it did. -/
def fnExactLastPlaceSpec : ChangeSpec := { name := "fnExactLastPlace", fn := fun _ => fun
  | [d1, d2, d3, d4] => { results := [.lit (.bool true)], args := [d1, d2, d3, d4] }
  | _ => none }
def fnExactLastPlaceRow : OpenClaim := { program := "ytahbohmipklhdaa", sum := "5fcd2c57d0ba326c8c852280f8a551b4be5e3f6a8d65b25cf13d65ad3640e464", func := "loop.example/g00926/laws.FnExactLastPlace", spec := "fnExactLastPlace", apart := false }
def FnExactLastPlaceSaid : Prop := fnExactLastPlaceRow.holds Try.pinned (OpenSpec.ofChange fnExactLastPlaceSpec)

/-- ITS FALSE NEIGHBOUR: 'it returns false'. Refute it at one input. -/
def fnExactLastPlaceWrong : ChangeSpec := { name := "fnExactLastPlace", fn := fun _ => fun
  | [d1, d2, d3, d4] => { results := [.lit (.bool false)], args := [d1, d2, d3, d4] }
  | _ => none }
def FnExactLastPlaceWrongFalsely : Prop := fnExactLastPlaceRow.holds Try.pinned (OpenSpec.ofChange fnExactLastPlaceWrong)

/-- 'laws.FnLaps': WHATEVER THE INPUT: true; the input reads as it did. -/
def fnLapsSpec : ChangeSpec := { name := "fnLaps", fn := fun _ => fun
  | [d1, d2] => { results := [.lit (.bool true)], args := [d1, d2] }
  | _ => none }
def fnLapsRow : OpenClaim := { program := "ytahbohmipklhdaa", sum := "5fcd2c57d0ba326c8c852280f8a551b4be5e3f6a8d65b25cf13d65ad3640e464", func := "loop.example/g00926/laws.FnLaps", spec := "fnLaps", apart := false }
def FnLapsSaid : Prop := fnLapsRow.holds Try.pinned (OpenSpec.ofChange fnLapsSpec)

/-- ITS FALSE NEIGHBOUR: 'it returns false'. Refute it at one input. -/
def fnLapsWrong : ChangeSpec := { name := "fnLaps", fn := fun _ => fun
  | [d1, d2] => { results := [.lit (.bool false)], args := [d1, d2] }
  | _ => none }
def FnLapsWrongFalsely : Prop := fnLapsRow.holds Try.pinned (OpenSpec.ofChange fnLapsWrong)

/-- 'laws.FnExactDifferentFields': WHATEVER THE INPUT: true; the input reads as it did. -/
def fnExactDifferentFieldsSpec : ChangeSpec := { name := "fnExactDifferentFields", fn := fun _ => fun
  | [d1, d2] => { results := [.lit (.bool true)], args := [d1, d2] }
  | _ => none }
def fnExactDifferentFieldsRow : OpenClaim := { program := "ytahbohmipklhdaa", sum := "5fcd2c57d0ba326c8c852280f8a551b4be5e3f6a8d65b25cf13d65ad3640e464", func := "loop.example/g00926/laws.FnExactDifferentFields", spec := "fnExactDifferentFields", apart := false }
def FnExactDifferentFieldsSaid : Prop := fnExactDifferentFieldsRow.holds Try.pinned (OpenSpec.ofChange fnExactDifferentFieldsSpec)

/-- ITS FALSE NEIGHBOUR: 'it returns false'. Refute it at one input. -/
def fnExactDifferentFieldsWrong : ChangeSpec := { name := "fnExactDifferentFields", fn := fun _ => fun
  | [d1, d2] => { results := [.lit (.bool false)], args := [d1, d2] }
  | _ => none }
def FnExactDifferentFieldsWrongFalsely : Prop := fnExactDifferentFieldsRow.holds Try.pinned (OpenSpec.ofChange fnExactDifferentFieldsWrong)

/-- 'laws.FnExactSetField': WHATEVER THE INPUT: true; the input reads as it did. -/
def fnExactSetFieldSpec : ChangeSpec := { name := "fnExactSetField", fn := fun _ => fun
  | [d1, d2, d3] => { results := [.lit (.bool true)], args := [d1, d2, d3] }
  | _ => none }
def fnExactSetFieldRow : OpenClaim := { program := "ytahbohmipklhdaa", sum := "5fcd2c57d0ba326c8c852280f8a551b4be5e3f6a8d65b25cf13d65ad3640e464", func := "loop.example/g00926/laws.FnExactSetField", spec := "fnExactSetField", apart := false }
def FnExactSetFieldSaid : Prop := fnExactSetFieldRow.holds Try.pinned (OpenSpec.ofChange fnExactSetFieldSpec)

/-- ITS FALSE NEIGHBOUR: 'it returns false'. Refute it at one input. -/
def fnExactSetFieldWrong : ChangeSpec := { name := "fnExactSetField", fn := fun _ => fun
  | [d1, d2, d3] => { results := [.lit (.bool false)], args := [d1, d2, d3] }
  | _ => none }
def FnExactSetFieldWrongFalsely : Prop := fnExactSetFieldRow.holds Try.pinned (OpenSpec.ofChange fnExactSetFieldWrong)

/-- 'laws.FnExactSameWork': WHATEVER THE INPUT: true; the input reads as it did. -/
def fnExactSameWorkSpec : ChangeSpec := { name := "fnExactSameWork", fn := fun _ => fun
  | [d1, d2] => { results := [.lit (.bool true)], args := [d1, d2] }
  | _ => none }
def fnExactSameWorkRow : OpenClaim := { program := "ytahbohmipklhdaa", sum := "5fcd2c57d0ba326c8c852280f8a551b4be5e3f6a8d65b25cf13d65ad3640e464", func := "loop.example/g00926/laws.FnExactSameWork", spec := "fnExactSameWork", apart := false }
def FnExactSameWorkSaid : Prop := fnExactSameWorkRow.holds Try.pinned (OpenSpec.ofChange fnExactSameWorkSpec)

/-- ITS FALSE NEIGHBOUR: 'it returns false'. Refute it at one input. -/
def fnExactSameWorkWrong : ChangeSpec := { name := "fnExactSameWork", fn := fun _ => fun
  | [d1, d2] => { results := [.lit (.bool false)], args := [d1, d2] }
  | _ => none }
def FnExactSameWorkWrongFalsely : Prop := fnExactSameWorkRow.holds Try.pinned (OpenSpec.ofChange fnExactSameWorkWrong)

/-- 'laws.FnExactNearestGame': WHATEVER THE INPUT: true; the input reads as it did. -/
def fnExactNearestGameSpec : ChangeSpec := { name := "fnExactNearestGame", fn := fun _ => fun
  | [d] => { results := [.lit (.bool true)], args := [d] }
  | _ => none }
def fnExactNearestGameRow : OpenClaim := { program := "ytahbohmipklhdaa", sum := "5fcd2c57d0ba326c8c852280f8a551b4be5e3f6a8d65b25cf13d65ad3640e464", func := "loop.example/g00926/laws.FnExactNearestGame", spec := "fnExactNearestGame", apart := false }
def FnExactNearestGameSaid : Prop := fnExactNearestGameRow.holds Try.pinned (OpenSpec.ofChange fnExactNearestGameSpec)

/-- ITS FALSE NEIGHBOUR: 'it returns false'. Refute it at one input. -/
def fnExactNearestGameWrong : ChangeSpec := { name := "fnExactNearestGame", fn := fun _ => fun
  | [d] => { results := [.lit (.bool false)], args := [d] }
  | _ => none }
def FnExactNearestGameWrongFalsely : Prop := fnExactNearestGameRow.holds Try.pinned (OpenSpec.ofChange fnExactNearestGameWrong)

/-- 'laws.FnFields': WHATEVER THE INPUT: true; the input reads as it did. -/
def fnFieldsSpec : ChangeSpec := { name := "fnFields", fn := fun _ => fun
  | [d] => { results := [.lit (.bool true)], args := [d] }
  | _ => none }
def fnFieldsRow : OpenClaim := { program := "ytahbohmipklhdaa", sum := "5fcd2c57d0ba326c8c852280f8a551b4be5e3f6a8d65b25cf13d65ad3640e464", func := "loop.example/g00926/laws.FnFields", spec := "fnFields", apart := false }
def FnFieldsSaid : Prop := fnFieldsRow.holds Try.pinned (OpenSpec.ofChange fnFieldsSpec)

/-- ITS FALSE NEIGHBOUR: 'it returns false'. Refute it at one input. -/
def fnFieldsWrong : ChangeSpec := { name := "fnFields", fn := fun _ => fun
  | [d] => { results := [.lit (.bool false)], args := [d] }
  | _ => none }
def FnFieldsWrongFalsely : Prop := fnFieldsRow.holds Try.pinned (OpenSpec.ofChange fnFieldsWrong)

/-- 'laws.FnExactSamePart': WHATEVER THE INPUT: true; the input reads as it did. -/
def fnExactSamePartSpec : ChangeSpec := { name := "fnExactSamePart", fn := fun _ => fun
  | [d1, d2] => { results := [.lit (.bool true)], args := [d1, d2] }
  | _ => none }
def fnExactSamePartRow : OpenClaim := { program := "ytahbohmipklhdaa", sum := "5fcd2c57d0ba326c8c852280f8a551b4be5e3f6a8d65b25cf13d65ad3640e464", func := "loop.example/g00926/laws.FnExactSamePart", spec := "fnExactSamePart", apart := false }
def FnExactSamePartSaid : Prop := fnExactSamePartRow.holds Try.pinned (OpenSpec.ofChange fnExactSamePartSpec)

/-- ITS FALSE NEIGHBOUR: 'it returns false'. Refute it at one input. -/
def fnExactSamePartWrong : ChangeSpec := { name := "fnExactSamePart", fn := fun _ => fun
  | [d1, d2] => { results := [.lit (.bool false)], args := [d1, d2] }
  | _ => none }
def FnExactSamePartWrongFalsely : Prop := fnExactSamePartRow.holds Try.pinned (OpenSpec.ofChange fnExactSamePartWrong)

/-- 'laws.FnExactViewOf': WHATEVER THE INPUT: true; the input reads as it did. -/
def fnExactViewOfSpec : ChangeSpec := { name := "fnExactViewOf", fn := fun _ => fun
  | [d1, d2] => { results := [.lit (.bool true)], args := [d1, d2] }
  | _ => none }
def fnExactViewOfRow : OpenClaim := { program := "ytahbohmipklhdaa", sum := "5fcd2c57d0ba326c8c852280f8a551b4be5e3f6a8d65b25cf13d65ad3640e464", func := "loop.example/g00926/laws.FnExactViewOf", spec := "fnExactViewOf", apart := false }
def FnExactViewOfSaid : Prop := fnExactViewOfRow.holds Try.pinned (OpenSpec.ofChange fnExactViewOfSpec)

/-- ITS FALSE NEIGHBOUR: 'it returns false'. Refute it at one input. -/
def fnExactViewOfWrong : ChangeSpec := { name := "fnExactViewOf", fn := fun _ => fun
  | [d1, d2] => { results := [.lit (.bool false)], args := [d1, d2] }
  | _ => none }
def FnExactViewOfWrongFalsely : Prop := fnExactViewOfRow.holds Try.pinned (OpenSpec.ofChange fnExactViewOfWrong)

/-- 'laws.FnExactSameDesk': WHATEVER THE INPUT: true; the input reads as it did. -/
def fnExactSameDeskSpec : ChangeSpec := { name := "fnExactSameDesk", fn := fun _ => fun
  | [d1, d2] => { results := [.lit (.bool true)], args := [d1, d2] }
  | _ => none }
def fnExactSameDeskRow : OpenClaim := { program := "ytahbohmipklhdaa", sum := "5fcd2c57d0ba326c8c852280f8a551b4be5e3f6a8d65b25cf13d65ad3640e464", func := "loop.example/g00926/laws.FnExactSameDesk", spec := "fnExactSameDesk", apart := false }
def FnExactSameDeskSaid : Prop := fnExactSameDeskRow.holds Try.pinned (OpenSpec.ofChange fnExactSameDeskSpec)

/-- ITS FALSE NEIGHBOUR: 'it returns false'. Refute it at one input. -/
def fnExactSameDeskWrong : ChangeSpec := { name := "fnExactSameDesk", fn := fun _ => fun
  | [d1, d2] => { results := [.lit (.bool false)], args := [d1, d2] }
  | _ => none }
def FnExactSameDeskWrongFalsely : Prop := fnExactSameDeskRow.holds Try.pinned (OpenSpec.ofChange fnExactSameDeskWrong)

/- THE SECOND FORM. 'bulk': how many values and letters a reading holds, each counted each time it is reached (what is shared counts as often as it is met; a slice's spare places count too). A statement '..UptoSaid' is the law's where the arguments, and the package variables that the reading takes, are together of bulk at most 1048576: NARROWER than '..Said'. Prove '..Said' where nothing that the law and all that it calls make is longer than what came in: it says more and counts as full. Else prove '..UptoSaid'. A law counts once. -/
mutual
def uptoBulk {H : Type} : DataW H → Nat
  | .lit (.string bytes) => bytes.length + 1
  | .lit _ => 1
  | .nil => 1
  | .ptr d => uptoBulk d + 1
  | .slice elems spare => uptoBulkAll elems + uptoBulkAll spare + 1
  | .agg parts => uptoBulkAll parts + 1
  | .iface _ d => uptoBulk d + 1
  | .map entries => uptoBulkEntries entries + 1
  | .held _ => 1
def uptoBulkAll {H : Type} : List (DataW H) → Nat
  | [] => 0
  | d :: r => uptoBulk d + uptoBulkAll r
def uptoBulkEntries {H : Type} : List (Lit × DataW H) → Nat
  | [] => 0
  | x :: r => uptoBulkEntry x + uptoBulkEntries r
def uptoBulkEntry {H : Type} : Lit × DataW H → Nat
  | (.string bytes, d) => bytes.length + uptoBulk d + 1
  | (_, d) => uptoBulk d + 1
 end
def uptoSmall : (H : Type) → List (DataW H) → Bool := fun _ ds => decide (uptoBulkAll ds ≤ 1048576)
def OpenSpec.upto (s : _root_.Go.ChangeSpec) : _root_.Go.OpenSpec := { _root_.Go.OpenSpec.ofChange s with cond := some uptoSmall }

/-- 'laws.FnExactDeskWords', WHERE WHAT IT READS IS OF BULK AT MOST 1048576: true; the input reads as it did. -/
def fnExactDeskWordsUptoRow : OpenClaim := { program := "ytahbohmipklhdaa", sum := "5fcd2c57d0ba326c8c852280f8a551b4be5e3f6a8d65b25cf13d65ad3640e464", func := "loop.example/g00926/laws.FnExactDeskWords", spec := "fnExactDeskWords", apart := false, narrowed := true }
def FnExactDeskWordsUptoSaid : Prop := fnExactDeskWordsUptoRow.holds Try.pinned (OpenSpec.upto fnExactDeskWordsSpec)

/-- 'laws.FnExactFieldOf', WHERE WHAT IT READS IS OF BULK AT MOST 1048576: true; the input reads as it did. -/
def fnExactFieldOfUptoRow : OpenClaim := { program := "ytahbohmipklhdaa", sum := "5fcd2c57d0ba326c8c852280f8a551b4be5e3f6a8d65b25cf13d65ad3640e464", func := "loop.example/g00926/laws.FnExactFieldOf", spec := "fnExactFieldOf", apart := false, narrowed := true }
def FnExactFieldOfUptoSaid : Prop := fnExactFieldOfUptoRow.holds Try.pinned (OpenSpec.upto fnExactFieldOfSpec)

/-- 'laws.FnExactLastPlace', WHERE WHAT IT READS IS OF BULK AT MOST 1048576: true; the input reads as it did. -/
def fnExactLastPlaceUptoRow : OpenClaim := { program := "ytahbohmipklhdaa", sum := "5fcd2c57d0ba326c8c852280f8a551b4be5e3f6a8d65b25cf13d65ad3640e464", func := "loop.example/g00926/laws.FnExactLastPlace", spec := "fnExactLastPlace", apart := false, narrowed := true }
def FnExactLastPlaceUptoSaid : Prop := fnExactLastPlaceUptoRow.holds Try.pinned (OpenSpec.upto fnExactLastPlaceSpec)

/-- 'laws.FnLaps', WHERE WHAT IT READS IS OF BULK AT MOST 1048576: true; the input reads as it did. -/
def fnLapsUptoRow : OpenClaim := { program := "ytahbohmipklhdaa", sum := "5fcd2c57d0ba326c8c852280f8a551b4be5e3f6a8d65b25cf13d65ad3640e464", func := "loop.example/g00926/laws.FnLaps", spec := "fnLaps", apart := false, narrowed := true }
def FnLapsUptoSaid : Prop := fnLapsUptoRow.holds Try.pinned (OpenSpec.upto fnLapsSpec)

/-- 'laws.FnExactDifferentFields', WHERE WHAT IT READS IS OF BULK AT MOST 1048576: true; the input reads as it did. -/
def fnExactDifferentFieldsUptoRow : OpenClaim := { program := "ytahbohmipklhdaa", sum := "5fcd2c57d0ba326c8c852280f8a551b4be5e3f6a8d65b25cf13d65ad3640e464", func := "loop.example/g00926/laws.FnExactDifferentFields", spec := "fnExactDifferentFields", apart := false, narrowed := true }
def FnExactDifferentFieldsUptoSaid : Prop := fnExactDifferentFieldsUptoRow.holds Try.pinned (OpenSpec.upto fnExactDifferentFieldsSpec)

/-- 'laws.FnExactSetField', WHERE WHAT IT READS IS OF BULK AT MOST 1048576: true; the input reads as it did. -/
def fnExactSetFieldUptoRow : OpenClaim := { program := "ytahbohmipklhdaa", sum := "5fcd2c57d0ba326c8c852280f8a551b4be5e3f6a8d65b25cf13d65ad3640e464", func := "loop.example/g00926/laws.FnExactSetField", spec := "fnExactSetField", apart := false, narrowed := true }
def FnExactSetFieldUptoSaid : Prop := fnExactSetFieldUptoRow.holds Try.pinned (OpenSpec.upto fnExactSetFieldSpec)

/-- 'laws.FnExactSameWork', WHERE WHAT IT READS IS OF BULK AT MOST 1048576: true; the input reads as it did. -/
def fnExactSameWorkUptoRow : OpenClaim := { program := "ytahbohmipklhdaa", sum := "5fcd2c57d0ba326c8c852280f8a551b4be5e3f6a8d65b25cf13d65ad3640e464", func := "loop.example/g00926/laws.FnExactSameWork", spec := "fnExactSameWork", apart := false, narrowed := true }
def FnExactSameWorkUptoSaid : Prop := fnExactSameWorkUptoRow.holds Try.pinned (OpenSpec.upto fnExactSameWorkSpec)

/-- 'laws.FnExactNearestGame', WHERE WHAT IT READS IS OF BULK AT MOST 1048576: true; the input reads as it did. -/
def fnExactNearestGameUptoRow : OpenClaim := { program := "ytahbohmipklhdaa", sum := "5fcd2c57d0ba326c8c852280f8a551b4be5e3f6a8d65b25cf13d65ad3640e464", func := "loop.example/g00926/laws.FnExactNearestGame", spec := "fnExactNearestGame", apart := false, narrowed := true }
def FnExactNearestGameUptoSaid : Prop := fnExactNearestGameUptoRow.holds Try.pinned (OpenSpec.upto fnExactNearestGameSpec)

/-- 'laws.FnFields', WHERE WHAT IT READS IS OF BULK AT MOST 1048576: true; the input reads as it did. -/
def fnFieldsUptoRow : OpenClaim := { program := "ytahbohmipklhdaa", sum := "5fcd2c57d0ba326c8c852280f8a551b4be5e3f6a8d65b25cf13d65ad3640e464", func := "loop.example/g00926/laws.FnFields", spec := "fnFields", apart := false, narrowed := true }
def FnFieldsUptoSaid : Prop := fnFieldsUptoRow.holds Try.pinned (OpenSpec.upto fnFieldsSpec)

/-- 'laws.FnExactSamePart', WHERE WHAT IT READS IS OF BULK AT MOST 1048576: true; the input reads as it did. -/
def fnExactSamePartUptoRow : OpenClaim := { program := "ytahbohmipklhdaa", sum := "5fcd2c57d0ba326c8c852280f8a551b4be5e3f6a8d65b25cf13d65ad3640e464", func := "loop.example/g00926/laws.FnExactSamePart", spec := "fnExactSamePart", apart := false, narrowed := true }
def FnExactSamePartUptoSaid : Prop := fnExactSamePartUptoRow.holds Try.pinned (OpenSpec.upto fnExactSamePartSpec)

/-- 'laws.FnExactViewOf', WHERE WHAT IT READS IS OF BULK AT MOST 1048576: true; the input reads as it did. -/
def fnExactViewOfUptoRow : OpenClaim := { program := "ytahbohmipklhdaa", sum := "5fcd2c57d0ba326c8c852280f8a551b4be5e3f6a8d65b25cf13d65ad3640e464", func := "loop.example/g00926/laws.FnExactViewOf", spec := "fnExactViewOf", apart := false, narrowed := true }
def FnExactViewOfUptoSaid : Prop := fnExactViewOfUptoRow.holds Try.pinned (OpenSpec.upto fnExactViewOfSpec)

/-- 'laws.FnExactSameDesk', WHERE WHAT IT READS IS OF BULK AT MOST 1048576: true; the input reads as it did. -/
def fnExactSameDeskUptoRow : OpenClaim := { program := "ytahbohmipklhdaa", sum := "5fcd2c57d0ba326c8c852280f8a551b4be5e3f6a8d65b25cf13d65ad3640e464", func := "loop.example/g00926/laws.FnExactSameDesk", spec := "fnExactSameDesk", apart := false, narrowed := true }
def FnExactSameDeskUptoSaid : Prop := fnExactSameDeskUptoRow.holds Try.pinned (OpenSpec.upto fnExactSameDeskSpec)

end Rows
end Go.Proofs.Ytahbohmipklhdaa
