/- Mf: why a move is not legal: both functions. Each contract holds for every argument, under the premises that it states. -/
import Derived.Test.YtolfanonjmfgcaaDone
import Derived.Test.YtolfanonjmfgcaaSMake
namespace Go.Proofs.Ytolfanonjmfgcaa
set_option linter.unusedSimpArgs false
set_option linter.unusedVariables false
set_option linter.unnecessarySimpa false
open Go.RowKit Go.ChangeShapes Go.WideShapes Go.ChangeAt Go.Joins

theorem makeP_code (r : R) (p : P) (move : Int) : (makeP r p move).code = (doneP r p move).code := by
  unfold makeP makeL
  split
  · rename_i h; simp [h]
  · rfl
theorem doneP_zero {r : R} {p : P} {move : Int} (h : (doneP r p move).code = 0) : codeP r p move = 0 ∧ ∃ L n, sowP r p.player (p.player * r.pits + move) p.pits p.stores = some (L, n) := by
  by_cases hc : codeP r p move = 0
  · refine ⟨hc, ?_⟩
    cases ho : sowP r p.player (p.player * r.pits + move) p.pits p.stores with
    | none =>
      rw [doneP_bad (c := 10) (by omega) (.inr ⟨hc, ho, rfl⟩)] at h
      cases h
    | some x => exact ⟨x.1, x.2, rfl⟩
  · rw [doneP_bad hc (.inl rfl)] at h
    exact absurd h hc
theorem DoneRes.below {w w' : World} {d : Done} {e : Ending} (h : DoneRes w d e w') : Below w.heap.size w w' := by
  obtain ⟨_, _, _, _, _, _, hb⟩ := h; exact hb
theorem MkRes.below {w w' : World} {m : Mk} {e : Ending} (h : MkRes w m e w') : Below w.heap.size w w' := by
  obtain ⟨_, _, _, _, _, _, hb⟩ := h; exact hb

end Go.Proofs.Ytolfanonjmfgcaa
