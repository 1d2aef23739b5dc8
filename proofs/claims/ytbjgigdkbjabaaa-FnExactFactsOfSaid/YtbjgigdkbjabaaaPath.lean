/- Path: the path of a move: the contracts of both sides. Each holds for every argument, under the premises that it states. -/
import Derived.Test.YtbjgigdkbjabaaaSMove
import Derived.Test.YtbjgigdkbjabaaaMov2
namespace Go.Proofs.Ytbjgigdkbjabaaa
set_option linter.unusedSimpArgs false
set_option linter.unusedVariables false
set_option linter.unnecessarySimpa false
open Go.RowKit Go.ChangeShapes Go.WideShapes Go.ChangeAt Go.Joins

/-- a new row of numbers, with a code -/
def IntsRes2 (w : World) (y : List Int × Int) (e : Ending) (w' : World) : Prop := ∃ a c, e = .returned (.tuple #[.slice a y.1.length c, .int .i64 y.2]) ∧ OwnI w' w.heap.size a c y.1 ∧ Below w.heap.size w w'
def pathP (r : R) (p : P) (move : Int) : List Int × Int :=
  if codeP r p move = 0 then (match sowP r p.player (p.player * r.pits + move) p.pits p.stores with | none => ([], 10) | some (L, _) => (L.path, 0)) else ([], codeP r p move)
theorem pathP_bad {r : R} {p : P} {move c : Int} (hc : ¬ c = 0) (h : c = codeP r p move ∨ codeP r p move = 0 ∧ sowP r p.player (p.player * r.pits + move) p.pits p.stores = none ∧ c = 10) : pathP r p move = ([], c) := by
  unfold pathP
  rcases h with rfl | ⟨h1, h2, rfl⟩
  · rw [if_neg hc]
  · rw [if_pos h1, h2]
theorem pathP_ok {r : R} {p : P} {move n : Int} {L : Lap} (h1 : codeP r p move = 0) (h2 : sowP r p.player (p.player * r.pits + move) p.pits p.stores = some (L, n)) : pathP r p move = (L.path, 0) := by
  unfold pathP
  rw [if_pos h1, h2]
theorem pathP_len (r : R) (p : P) (move : Int) : (pathP r p move).1.length ≤ 1048576 := by
  unfold pathP
  split
  · rename_i hc
    cases hs : sowP r p.player (p.player * r.pits + move) p.pits p.stores with
    | none => simp
    | some x =>
      obtain ⟨L, n⟩ := x
      obtain ⟨hok, mv, hnz⟩ := codeP_zero hc
      obtain ⟨hbd, ⟨pn, hpn, hpn1⟩, t, hB, ht0, ht1⟩ := P.ok_parts hok
      obtain ⟨fn, hfn, hfl⟩ := from_ok hok mv
      rw [hfn] at hs
      obtain ⟨k1, k2, k3⟩ := lapP_brd hbd p.player fn (by omega) p.pits p.stores [] t hB hfl
      obtain ⟨j1, j2, j3, j4, j5⟩ := sowGo_brd hbd p.player (by omega) 99 _ L n k1 k3 hs
      have := hB.bp (Int.le_refl t) _ (List.getElem_mem hfl)
      simp only [List.length_nil] at k2
      simp
      omega
  · simp

end Go.Proofs.Ytbjgigdkbjabaaa
