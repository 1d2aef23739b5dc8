/- RsOf: the result of a move, out of the list of all: the program's functions. Each contract holds for every argument, under the premises that it states. -/
import Derived.Test.YtolfanonjmfgcaaCan
namespace Go.Proofs.Ytolfanonjmfgcaa
set_option linter.unusedSimpArgs false
set_option linter.unusedVariables false
set_option linter.unnecessarySimpa false
open Go.RowKit Go.ChangeShapes Go.WideShapes Go.ChangeAt Go.Joins

theorem allP_of {r : R} {p : P} {x : Mk} (h : x ∈ allP r p) : ∃ m : Nat, x = makeP r p m ∧ (makeP r p m).code = 0 ∧ x.move = m := by
  obtain ⟨m, _, hm⟩ := List.mem_filterMap.1 h
  unfold mkO at hm
  split at hm
  · rename_i hc
    have hx : makeP r p m = x := by simpa using hm
    refine ⟨m, hx.symm, hc, ?_⟩
    rw [← hx, makeP_ok (by rw [← makeP_code]; exact hc)]
  · cases hm
theorem allP_in {r : R} {p : P} {move : Int} (h : (doneP r p move).code = 0) : makeP r p move ∈ allP r p := by
  obtain ⟨hc0, L, n, ho⟩ := doneP_zero h
  obtain ⟨hok, ⟨h0, h1⟩, _⟩ := codeP_zero hc0
  obtain ⟨m, rfl⟩ : ∃ m : Nat, move = m := ⟨move.toNat, by omega⟩
  refine List.mem_filterMap.2 ⟨m, by simp; omega, ?_⟩
  unfold mkO
  rw [if_pos (by rw [makeP_code]; exact h)]
theorem makeP_bad {r : R} {p : P} {move c : Int} (h : (doneP r p move).code = c) (hc : ¬ c = 0) : makeP r p move = .bad c := by
  unfold makeP makeL
  rw [if_neg (by rw [h]; exact hc), h]

end Go.Proofs.Ytolfanonjmfgcaa
