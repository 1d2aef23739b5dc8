/- Clock5: the frame's places for clocks; the laws' copy of a clock. Each contract holds for every argument, under the premises that it states. -/
import Derived.Test.YtbjdfgfebepacaaClock4
import Derived.Test.YtbjdfgfebepacaaFrame
namespace Go.Proofs.Ytbjdfgfebepacaa
set_option linter.unusedSimpArgs false
set_option linter.unusedVariables false
set_option linter.unnecessarySimpa false
open Go.RowKit Go.ChangeShapes Go.WideShapes Go.ChangeAt Go.Joins

theorem Ck.boxc {w : World} {b : Nat} {x : Ck} {a : Option Addr} {c : Nat} (h : BoxP b (x.cells a c).toList w) :
    w.cell? ⟨b, 0, none⟩ = some (.slice a x.left.length c) ∧ w.cell? ⟨b, 1, none⟩ = some (.int .i64 x.inc) ∧ w.cell? ⟨b, 2, none⟩ = some (.int .i64 x.delay) ∧ w.cell? ⟨b, 3, none⟩ = some (.int .i64 x.player) ∧
    w.cell? ⟨b, 4, none⟩ = some (.int .i64 x.since) ∧ w.cell? ⟨b, 5, none⟩ = some (.bool x.running) ∧ w.cell? ⟨b, 6, none⟩ = some (.bool x.fallen) :=
  ⟨h 0 _ rfl, h 1 _ rfl, h 2 _ rfl, h 3 _ rfl, h 4 _ rfl, h 5 _ rfl, h 6 _ rfl⟩

end Go.Proofs.Ytbjdfgfebepacaa
