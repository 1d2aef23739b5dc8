/- New: positions that are copied, and the sowing of a position: the contracts. Each holds for every argument, under the premises that it states. -/
import Derived.Test.YtenjffoboiohnaaDoorPos
import Derived.Test.YtenjffoboiohnaaDoorLap2
import Derived.Test.YtenjffoboiohnaaDoorCopy
import Derived.Deep.RegionHeld3
import Derived.Test.YtenjffoboiohnaaDoorSowP
import Derived.Outline
namespace Go.Proofs.YtenjffoboiohnaaDoor
set_option linter.unusedSimpArgs false
set_option linter.unusedVariables false
set_option linter.unnecessarySimpa false
open Go.RowKit Go.ChangeShapes Go.WideShapes Go.ChangeAt Go.Joins

/-- a result that is a position of the call's own -/
def PosRes (w : World) (p : P) (e : Ending) (w' : World) : Prop := ∃ pa pc sa sc, e = .returned (p.val pa pc sa sc) ∧ POwn w' w.heap.size p pa pc sa sc ∧ Below w.heap.size w w'
theorem apart_of {w1 w2 : World} {b1 b2 n1 n2 c1 c2 : Nat} {a1 a2 : Option Addr} {l1 l2 : List Value} (h1 : w1.ownsRow b1 2 1 (.slice a1 n1 c1) n1 l1) (h2 : w2.ownsRow b2 2 1 (.slice a2 n2 c2) n2 l2) (hs : w1.heap.size ≤ b2) :
    (Value.slice a1 n1 c1).ownBlock = none ∨ (Value.slice a1 n1 c1).ownBlock ≠ (Value.slice a2 n2 c2).ownBlock := by
  cases h : (Value.slice a1 n1 c1).ownBlock with
  | none => exact .inl rfl
  | some k =>
    refine .inr (fun e => ?_)
    have := (h1.lt k h).2
    have := (h2.lt k e.symm).1
    omega

set_option maxRecDepth 100000 in
set_option maxHeartbeats 4000000 in
theorem copied_c (p : P) (pa sa : Option Addr) (pc sc : Nat) (w : World) (h : PRow w p pa sa) (m1 : p.pits.length ≤ 16777216) (m2 : p.stores.length ≤ 16777216) :
    Calls Tryd.prog 42 #[p.val pa pc sa sc] w (PosRes w p) := by
  go_enter Tryd.func42, Tryd.ntmps42
  go_wp2_with fail
  go_region_held3 (fun w' => w'.cell? ⟨w.heap.size, 0, none⟩ = some (.slice pa p.pits.length pc) ∧ w'.cell? ⟨w.heap.size, 1, none⟩ = some (.slice sa p.stores.length sc) ∧ w'.cell? ⟨w.heap.size, 2, none⟩ = some (.int .i64 p.player))
    (first | (with_reducible exact hSB) | (with_reducible exact hSA) | (refine ⟨?_, ?_, ?_⟩ <;> simp [go_sem, P.cells]; done) | (refine ⟨?_, ?_, ?_⟩ <;> simp [go_sem, hSB.1, hSB.2.1, hSB.2.2]; done) | go_keep)
    (first
      | (go_at_call 38; have tk := hb1; refine (copyNumbers_c sa sc p.stores _ (h.stores.below (below_next (below_alloc2 _ _ _).drew hb1) (Nat.le_refl _)) m2).mono ?_; rintro e w2 ⟨sa', sc', rfl, ho2, hb2⟩; have hSB : w2.cell? ⟨w.heap.size, 0, none⟩ = some (.slice pa p.pits.length pc) ∧ w2.cell? ⟨w.heap.size, 1, none⟩ = some (.slice sa p.stores.length sc) ∧ w2.cell? ⟨w.heap.size, 2, none⟩ = some (.int .i64 p.player) := ⟨((bcell hb2).1 _ _ hz1).trans hSA.1, ((bcell hb2).1 _ _ hz1).trans hSA.2.1, ((bcell hb2).1 _ _ hz1).trans hSA.2.2⟩; have z0 := ((bcell hb2).1 _ _ hz1b).trans y0; have z1 := ((bcell hb2).1 _ _ hz1b).trans y1; have z2 := ((bcell hb2).1 _ _ hz1b).trans y2; have zf := fun o => ((bcell hb2).2 _ o hz1b).trans (yf o))
      | (go_at_call 38; refine (copyNumbers_c pa pc p.pits _ (h.pits.below (below_alloc2 _ _ _).drew (Nat.le_refl _)) m1).mono ?_; rintro e w1 ⟨pa', pc', rfl, ho1, hb1⟩; have hz1 : w.heap.size < w1.heap.size := (Nat.lt_of_lt_of_le (by simp; try omega) hb1.size); have hz1b : w.heap.size + 1 < w1.heap.size := (Nat.lt_of_lt_of_le (by simp; try omega) hb1.size); have hSA : w1.cell? ⟨w.heap.size, 0, none⟩ = some (.slice pa p.pits.length pc) ∧ w1.cell? ⟨w.heap.size, 1, none⟩ = some (.slice sa p.stores.length sc) ∧ w1.cell? ⟨w.heap.size, 2, none⟩ = some (.int .i64 p.player) := ⟨((bcell hb1).1 w.heap.size 0 (by (simp <;> omega))).trans (by simp [go_sem, P.cells]), ((bcell hb1).1 w.heap.size 1 (by (simp <;> omega))).trans (by simp [go_sem, P.cells]), ((bcell hb1).1 w.heap.size 2 (by (simp <;> omega))).trans (by simp [go_sem, P.cells])⟩; have y0 : w1.cell? ⟨w.heap.size + 1, 0, none⟩ = some (.slice none 0 0) := ((bcell hb1).1 (w.heap.size + 1) 0 (by (simp <;> omega))).trans (by simp [go_sem]); have y1 : w1.cell? ⟨w.heap.size + 1, 1, none⟩ = some (.slice none 0 0) := ((bcell hb1).1 (w.heap.size + 1) 1 (by (simp <;> omega))).trans (by simp [go_sem]); have y2 : w1.cell? ⟨w.heap.size + 1, 2, none⟩ = some (.int .i64 0) := ((bcell hb1).1 (w.heap.size + 1) 2 (by (simp <;> omega))).trans (by simp [go_sem]); have yf : ∀ o, w1.frozen? ⟨w.heap.size + 1, o, none⟩ = false := fun o => ((bcell hb1).2 (w.heap.size + 1) o (by (simp <;> omega))).trans (by simp [go_sem])))
  have B1 : Below w.heap.size w w1 := below_next (below_alloc2 _ _ _).drew hb1
  have B2 := Lib.hid (below_next B1 hb2)
  simp only [World.size_alloc, World.size_drew] at ho1
  have HA := Lib.hid (apart_of ho1 ho2 (Nat.le_refl _))
  have O1 := Lib.hid (own_below ho1 hb2 (Nat.le_refl _))
  have O2 := Lib.hid ho2
  clear ho1 ho2 hb1 hb2 hSA y0 y1 y2 yf B1
  go_wp2
  refine bodyPost_ret (v := p.val pa' pc' sa' sc') (by simp [results, Tryd.results42, go_sem, z0, z1, z2, P.val, P.cells]) rfl ?_
  refine ⟨pa', pc', sa', sc', rfl, ⟨?_, ?_, HA.out⟩, ?_⟩
  · have k0 := O1.out
    refine ownsRow_le (base := w.heap.size + 1 + 1) ?_ (by omega)
    repeat (first | (with_reducible exact k0) | ((with_reducible refine ownsRow_setCell_below ?_ ?_ _); rotate_left; (simp <;> omega)))
  · have k0 := O2.out
    refine ownsRow_le (base := w1.heap.size) ?_ (by omega)
    repeat (first | (with_reducible exact k0) | ((with_reducible refine ownsRow_setCell_below ?_ ?_ _); rotate_left; (simp <;> omega)))
  · have k0 := B2.out
    repeat (first | (with_reducible exact k0) | ((with_reducible refine Below.setCell ?_ ?_ _); rotate_left; (simp <;> omega)))


/-! ### New2: the sowing of a position: the contract. Holds for every argument, under the premises that it states. -/

end Go.Proofs.YtenjffoboiohnaaDoor
