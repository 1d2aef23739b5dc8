/- Table: tables and work: the laws' arguments, opened, and the contracts of the functions that copy and compare them. Each holds for every argument, under the premises that it states. -/
import Derived.Test.YtbjdfgfebepacaaPos
namespace Go.Proofs.Ytbjdfgfebepacaa
set_option linter.unusedSimpArgs false
set_option linter.unusedVariables false
set_option linter.unnecessarySimpa false
open Go.RowKit Go.ChangeShapes Go.WideShapes Go.ChangeAt Go.Joins

structure Tb where
  rules : R
  most : Int
  values : List Int
  ranks : List Int
  deriving DecidableEq
/-- where a table's slices lie -/
structure TA where
  va : Option Addr
  vc : Nat
  ra : Option Addr
  rc : Nat
@[go_sem] def Tb.cells (t : Tb) (k : TA) : Array Value := #[.int .i64 t.rules.pits, .int .i64 t.rules.seeds, .bool t.rules.stores, .bool t.rules.skip, .bool t.rules.relay, .bool t.rules.feed, .bool t.rules.again, .int .i64 t.rules.capture, .int .i64 t.rules.slam, .int .i64 t.most, .slice k.va t.values.length k.vc, .slice k.ra t.ranks.length k.rc]
@[go_sem] def Tb.val (t : Tb) (k : TA) : Value := .agg (t.cells k)
structure TRow (w : World) (t : Tb) (k : TA) : Prop where
  values : Ints w k.va t.values
  ranks : Ints w k.ra t.ranks
theorem TRow.below {B : Nat} {w w' : World} {t : Tb} {k : TA} (h : TRow w t k) (hb : Below B w w') (hB : w.heap.size ≤ B) : TRow w' t k := ⟨h.values.below hb hB, h.ranks.below hb hB⟩

structure TOwn (w : World) (base : Nat) (t : Tb) (k : TA) : Prop where
  values : w.ownsRow base 2 1 (.slice k.va t.values.length k.vc) t.values.length (t.values.map (Value.int .i64))
  ranks : w.ownsRow base 2 1 (.slice k.ra t.ranks.length k.rc) t.ranks.length (t.ranks.map (Value.int .i64))
theorem TOwn.row {w : World} {base : Nat} {t : Tb} {k : TA} (h : TOwn w base t k) : TRow w t k := ⟨own_row h.values, own_row h.ranks⟩
theorem TOwn.below {w w' : World} {B base : Nat} {t : Tb} {k : TA} (h : TOwn w base t k) (hb : Below B w w') (hB : w.heap.size ≤ B) : TOwn w' base t k := ⟨own_below h.values hb hB, own_below h.ranks hb hB⟩
theorem TOwn.set {w : World} {base : Nat} {t : Tb} {k : TA} (h : TOwn w base t k) {p : Addr} (hp : p.block < base) (u : Value) : TOwn (w.setCell p u) base t k := ⟨ownsRow_setCell_below h.values hp u, ownsRow_setCell_below h.ranks hp u⟩
theorem TOwn.le {w : World} {base base' : Nat} {t : Tb} {k : TA} (h : TOwn w base t k) (hb : base' ≤ base) : TOwn w base' t k := ⟨ownsRow_le h.values hb, ownsRow_le h.ranks hb⟩

/-! ### the laws' arguments -/
theorem list12 {α : Type} {cs : List α} (h : cs.length = 12) : ∃ a b c d e f g i j k l m, cs = [a, b, c, d, e, f, g, i, j, k, l, m] := by
  match cs, h with
  | [a, b, c, d, e, f, g, i, j, k, l, m], _ => exact ⟨a, b, c, d, e, f, g, i, j, k, l, m, rfl⟩
theorem list13 {α : Type} {cs : List α} (h : cs.length = 13) : ∃ a b c d e f g i j k l m n, cs = [a, b, c, d, e, f, g, i, j, k, l, m, n] := by
  match cs, h with
  | [a, b, c, d, e, f, g, i, j, k, l, m, n], _ => exact ⟨a, b, c, d, e, f, g, i, j, k, l, m, n, rfl⟩
theorem list4 {α : Type} {cs : List α} (h : cs.length = 4) : ∃ a b c d, cs = [a, b, c, d] := by
  match cs, h with
  | [a, b, c, d], _ => exact ⟨a, b, c, d, rfl⟩
theorem list2 {α : Type} {cs : List α} (h : cs.length = 2) : ∃ a b, cs = [a, b] := by
  match cs, h with
  | [a, b], _ => exact ⟨a, b, rfl⟩

end Go.Proofs.Ytbjdfgfebepacaa
