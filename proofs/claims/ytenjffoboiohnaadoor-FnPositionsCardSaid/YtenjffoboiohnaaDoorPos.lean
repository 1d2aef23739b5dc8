/- Pos: positions: the laws' argument, opened, and the contracts of the laws' own functions on positions. Each holds for every argument, under the premises that it states. -/
import Derived.Test.YtenjffoboiohnaaDoorInts
namespace Go.Proofs.YtenjffoboiohnaaDoor
set_option linter.unusedSimpArgs false
set_option linter.unusedVariables false
set_option linter.unnecessarySimpa false
open Go.RowKit Go.ChangeShapes Go.WideShapes Go.ChangeAt Go.Joins

structure P where
  pits : List Int
  stores : List Int
  player : Int
  deriving DecidableEq
/-- a position as a value: two slices and a number -/
@[go_sem] def P.cells (p : P) (pa : Option Addr) (pc : Nat) (sa : Option Addr) (sc : Nat) : Array Value := #[.slice pa p.pits.length pc, .slice sa p.stores.length sc, .int .i64 p.player]
@[go_sem] def P.val (p : P) (pa : Option Addr) (pc : Nat) (sa : Option Addr) (sc : Nat) : Value := .agg (p.cells pa pc sa sc)
/-- the position's slices read as its lists -/
structure PRow (w : World) (p : P) (pa sa : Option Addr) : Prop where
  pits : Ints w pa p.pits
  stores : Ints w sa p.stores
theorem PRow.below {B : Nat} {w w' : World} {p : P} {pa sa : Option Addr} (h : PRow w p pa sa) (hb : Below B w w') (hB : w.heap.size ≤ B) : PRow w' p pa sa := ⟨h.pits.below hb hB, h.stores.below hb hB⟩
/-- the position's slices are two rows of the call's own -/
structure POwn (w : World) (base : Nat) (p : P) (pa : Option Addr) (pc : Nat) (sa : Option Addr) (sc : Nat) : Prop where
  pits : w.ownsRow base 2 1 (.slice pa p.pits.length pc) p.pits.length (p.pits.map (Value.int .i64))
  stores : w.ownsRow base 2 1 (.slice sa p.stores.length sc) p.stores.length (p.stores.map (Value.int .i64))
  apart : (Value.slice pa p.pits.length pc).ownBlock = none ∨ (Value.slice pa p.pits.length pc).ownBlock ≠ (Value.slice sa p.stores.length sc).ownBlock
theorem POwn.row {w : World} {base : Nat} {p : P} {pa sa : Option Addr} {pc sc : Nat} (h : POwn w base p pa pc sa sc) : PRow w p pa sa := ⟨own_row h.pits, own_row h.stores⟩
theorem POwn.below {w w' : World} {B base : Nat} {p : P} {pa sa : Option Addr} {pc sc : Nat} (h : POwn w base p pa pc sa sc) (hb : Below B w w') (hB : w.heap.size ≤ B) : POwn w' base p pa pc sa sc := ⟨own_below h.pits hb hB, own_below h.stores hb hB, h.apart⟩

end Go.Proofs.YtenjffoboiohnaaDoor
