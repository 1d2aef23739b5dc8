/- Ints: the contracts of the laws' own functions on slices of numbers: equal, marked, held, copied, counted. Each holds for every argument, under the premises that it states. -/
import Derived.Test.YtbjgigdkbjabaaaDoorRules
import Derived.BigQuiet
import Derived.Deep.QuietTactic
import Derived.Laws.MakeOwn
import Derived.OwnWalk
namespace Go.Proofs.YtbjgigdkbjabaaaDoor
set_option linter.unusedSimpArgs false
set_option linter.unusedVariables false
set_option linter.unnecessarySimpa false
open Go.RowKit Go.ChangeShapes Go.WideShapes Go.ChangeAt Go.Joins

theorem list_eq_of {α : Type} {xs ys : List α} (hl : xs.length = ys.length) (h : ∀ j (h1 : j < xs.length) (h2 : j < ys.length), xs[j] = ys[j]) : xs = ys :=
  List.ext_getElem hl (fun j h1 h2 => h j h1 h2)

theorem infoI : (Tryd.prog.info? 2).map (fun i => (i.zero, i.size, i.bytes)) = some (some (.int .i64 0), 1, 8) := by kernel_rfl

/-- n numbers from k on -/
def marks (k : Int) (n : Nat) : List Int := (List.range n).map fun (j : Nat) => k + (j : Int)
theorem marks_length (k : Int) (n : Nat) : (marks k n).length = n := by simp [marks]
theorem marks_get (k : Int) {n j : Nat} (h : j < (marks k n).length) : (marks k n)[j] = k + j := by simp [marks]
theorem marks_set (k : Int) (xs : List Int) {j : Nat} (h : j < xs.length) : ((marks k j ++ xs.drop j).map (Value.int .i64)).set j (.int .i64 (k + j)) = (marks k (j + 1) ++ xs.drop (j + 1)).map (Value.int .i64) := by
  apply List.ext_getElem
  · simp [marks]; omega
  · intro m h1 h2
    rcases Nat.lt_trichotomy m j with hm | hm | hm
    · simp [List.getElem_set, marks, List.getElem_append, hm, show ¬ j = m by omega, show m < j + 1 by omega]
    · subst hm
      simp [List.getElem_set, marks, List.getElem_append]
    · have h3 : ¬ m < j := by omega
      have h4 : ¬ m < j + 1 := by omega
      have h5 : j + (m - j) = m := by omega
      have h6 : j + 1 + (m - (j + 1)) = m := by omega
      simp [List.getElem_set, marks, List.getElem_append, show ¬ j = m by omega, h3, h4, h5, h6]
      intro h; omega

def szI (left : Int) (n : Nat) : Int := if left < n then -1 else left - n
end Go.Proofs.YtbjgigdkbjabaaaDoor
