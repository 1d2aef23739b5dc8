/- View3: ViewOf: both functions. Each contract holds for every argument, under the premises that it states. -/
import Derived.Test.YtbjgigdkbjabaaaView2
namespace Go.Proofs.Ytbjgigdkbjabaaa
set_option linter.unusedSimpArgs false
set_option linter.unusedVariables false
set_option linter.unnecessarySimpa false
open Go.RowKit Go.ChangeShapes Go.WideShapes Go.ChangeAt Go.Joins

/-- a position and a number, out of a call -/
def PvRes (w : World) (y : P × Int) (e : Ending) (w' : World) : Prop := ∃ A : A2, e = .returned (.tuple #[y.1.val A.pa A.pc A.sa A.sc, .int .i64 y.2]) ∧ POwn w' w.heap.size y.1 A.pa A.pc A.sa A.sc ∧ Below w.heap.size w w'
def vofP (r : R) (p : P) : P × Int := if p.ok r = true then (viewP p, 0) else (⟨[], [], 0⟩, 1)
theorem vofP_len (r : R) (p : P) : (vofP r p).1.pits.length ≤ 1048576 ∧ (vofP r p).1.stores.length ≤ 1048576 := by
  unfold vofP
  split
  · rename_i h
    have := viewP_len h
    dsimp only
    omega
  · simp

end Go.Proofs.Ytbjgigdkbjabaaa
