/- Clock3: a clock is started: both sides return the same. Each contract holds for every argument, under the premises that it states. -/
import Derived.Test.YtdopdoniipppcaaClock2
namespace Go.Proofs.Ytdopdoniipppcaa
set_option linter.unusedSimpArgs false
set_option linter.unusedVariables false
set_option linter.unnecessarySimpa false
open Go.RowKit Go.ChangeShapes Go.WideShapes Go.ChangeAt Go.Joins

theorem ckAt_lit (x : Ck) (a : Option Addr) (c : Nat) (w : World) (e : TypeId) (o : Obj) : Ck.At ((w.alloc (.cells (x.cells a c) e)).alloc o) w.heap.size 0 x a c := by
  constructor <;> simp [Ck.cells]
end Go.Proofs.Ytdopdoniipppcaa
