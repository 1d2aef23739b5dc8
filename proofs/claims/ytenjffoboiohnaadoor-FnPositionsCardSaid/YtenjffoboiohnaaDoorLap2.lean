/- Lap2: a lap is sown: the program's function. The contract holds for every argument, under the premises that it states. -/
import Derived.Test.YtenjffoboiohnaaDoorLap
import Derived.Deep.RegionHeld3
import Derived.StillTailTactics
namespace Go.Proofs.YtenjffoboiohnaaDoor
set_option linter.unusedSimpArgs false
set_option linter.unusedVariables false
set_option linter.unnecessarySimpa false
open Go.RowKit Go.ChangeShapes Go.WideShapes Go.ChangeAt Go.Joins

/-- the rules, the player and the path of a sowing, in memory -/
structure SwF (w : World) (sb : Nat) (r : R) (pn : Nat) (ta : Option Addr) (tn tc : Nat) : Prop where
  rules : R.At w sb 0 r
  c9 : w.cell? ⟨sb, 9, none⟩ = some (.int .i64 (pn : Int))
  c14 : w.cell? ⟨sb, 14, none⟩ = some (.slice ta tn tc)
theorem R.At.same {w w' : World} {b o : Nat} {r : R} (h : R.At w b o r) (e : ∀ j, j < o + 9 → w'.cell? ⟨b, j, none⟩ = w.cell? ⟨b, j, none⟩) : R.At w' b o r :=
  ⟨(e _ (by omega)).trans h.c0, (e _ (by omega)).trans h.c1, (e _ (by omega)).trans h.c2, (e _ (by omega)).trans h.c3, (e _ (by omega)).trans h.c4, (e _ (by omega)).trans h.c5, (e _ (by omega)).trans h.c6, (e _ (by omega)).trans h.c7, (e _ (by omega)).trans h.c8⟩
theorem SwF.same {w w' : World} {sb : Nat} {r : R} {pn : Nat} {ta : Option Addr} {tn tc : Nat} (h : SwF w sb r pn ta tn tc) (e : ∀ j, w'.cell? ⟨sb, j, none⟩ = w.cell? ⟨sb, j, none⟩) : SwF w' sb r pn ta tn tc :=
  ⟨h.rules.same (fun j _ => e j), (e 9).trans h.c9, (e 14).trans h.c14⟩
theorem cell_block {w w' : World} {b : Nat} (hk : w'.heap[b]? = w.heap[b]?) (o : Nat) : w'.cell? ⟨b, o, none⟩ = w.cell? ⟨b, o, none⟩ := World.cell?_of_block (w := w) hk
theorem SwF.grown {w w' : World} {sb : Nat} {r : R} {pn : Nat} {ta : Option Addr} {tn tc : Nat} {row : Option Nat} (h : SwF w sb r pn ta tn tc) (hg : w.grownBy w' row) (h1 : row ≠ some sb) : SwF w' sb r pn ta tn tc :=
  h.same (fun j => cell_block (hg.block sb (World.block_lt_of_cell? w _ h.c9) (fun e => h1 e.symm)) j)
theorem SwF.below {w w' : World} {sb : Nat} {r : R} {pn : Nat} {ta : Option Addr} {tn tc : Nat} (h : SwF w sb r pn ta tn tc) (hb : Below w.heap.size w w') : SwF w' sb r pn ta tn tc := h.grown (grown_below hb none) (by simp)
theorem SwF.other {w : World} {sb : Nat} {r : R} {pn : Nat} {ta : Option Addr} {tn tc : Nat} (h : SwF w sb r pn ta tn tc) {g i : Nat} (hg : ¬ sb = g) (v : Value) : SwF (w.setCell ⟨g, i, none⟩ v) sb r pn ta tn tc := h.same (fun j => cell_other hg)
theorem SwF.path {w : World} {sb : Nat} {r : R} {pn : Nat} {ta ta' : Option Addr} {tn tc tn' tc' : Nat} (h : SwF w sb r pn ta tn tc) : SwF (w.setCell ⟨sb, 14, none⟩ (.slice ta' tn' tc')) sb r pn ta' tn' tc' :=
  ⟨h.rules.same (fun j hj => cell_off (by omega)), (cell_off (by omega)).trans h.c9, World.cell?_setCell_same _ _ _ h.c14⟩
theorem SwF.off {w : World} {sb : Nat} {r : R} {pn : Nat} {ta : Option Addr} {tn tc : Nat} (h : SwF w sb r pn ta tn tc) {o : Nat} (v : Value) (ho : o = 12 ∨ o = 13) : SwF (w.setCell ⟨sb, o, none⟩ v) sb r pn ta tn tc :=
  ⟨h.rules.same (fun j hj => cell_off (by omega)), (cell_off (by omega)).trans h.c9, (cell_off (by omega)).trans h.c14⟩
theorem Fld.below {w w' : World} {nb no : Nat} {last laps : Int} (h : Fld w nb no last laps) (hb : Below w.heap.size w w') : Fld w' nb no last laps := h.grown (grown_below hb none) (by simp) (World.block_lt_of_cell? w _ h.c2)
theorem Fld.off {w : World} {nb no : Nat} {last laps : Int} (h : Fld w nb no last laps) {o : Nat} (v : Value) (h2 : ¬ o = no + 2) (h3 : ¬ o = no + 3) : Fld (w.setCell ⟨nb, o, none⟩ v) nb no last laps :=
  ⟨(cell_off (fun e => h2 e.symm)).trans h.c2, (cell_off (fun e => h3 e.symm)).trans h.c3, fun o => by simpa using h.fz o⟩
theorem LapSt.below {base : Nat} {w wr w1 : World} {nb no pg pc sg sc : Nat} {r : R} {pn fn : Nat} {L : Lap} {len n : Nat} {pl : Int} {P S T : List Int} {ta : Option Addr} {tc : Nat}
    (h : LapSt base w wr nb no pg pc sg sc r pn fn L len n pl P S T ta tc) (hb : Below wr.heap.size wr w1) : LapSt base w w1 nb no pg pc sg sc r pn fn L len n pl P S T ta tc :=
  ⟨h.ok, h.go, h.n1, h.bp, h.bs, h.pt, h.lp, h.ls, h.sn.below hb, own_below h.ow hb (Nat.le_refl _), h.ap, h.bl.trans (hb.mono (by have := h.sn.lt; have := h.sn.nb0; omega))⟩
theorem LapSt.fld {base : Nat} {w wr : World} {nb no pg pc sg sc : Nat} {r : R} {pn fn : Nat} {L : Lap} {len n : Nat} {pl : Int} {P S T : List Int} {ta : Option Addr} {tc : Nat}
    (h : LapSt base w wr nb no pg pc sg sc r pn fn L len n pl P S T ta tc) (j : Nat) (v : Value) (hj : no + 2 ≤ j) : LapSt base w (wr.setCell ⟨nb, j, none⟩ v) nb no pg pc sg sc r pn fn L len n pl P S T ta tc :=
  ⟨h.ok, h.go, h.n1, h.bp, h.bs, h.pt, h.lp, h.ls, h.sn.fld j v hj, ownsRow_setCell_other h.ow (fun e => (h.ap _ e).1 rfl) _, h.ap, h.bl.setCell h.sn.nb0 _⟩
/-- a further lap begins where this one ends -/
def moreP (r : R) (L : Lap) : Bool := r.relay && decide (0 ≤ L.last) && decide (1 < L.pits.getD L.last.toNat 0)
/-- the number of seeds that were in the last pit, against the pits -/
def BF (pl bf : Int) (P : List Int) : Prop := (0 ≤ bf ∧ bf ≤ 2000000) ∧ (0 ≤ pl → (0 < bf ↔ 1 < P.getD pl.toNat 0))

/-- what a lap leaves -/
def LapRes (base sb pg pc sg sc : Nat) (r : R) (pn : Nat) (L : Lap) (laps : Int) (w : World) (e : Ending) (w' : World) : Prop := ∃ ta' tc',
  e = .returned (.bool (moreP r L)) ∧ SnI base w' sb 10 pg pc sg sc L.pits L.stores ∧ Fld w' sb 10 L.last (laps + 1) ∧ SwF w' sb r pn ta' L.path.length tc' ∧
    OwnI w' base ta' tc' L.path ∧ TAp ta' L.path.length tc' sb pg sg ∧ Below base w w'

theorem grown_undrew {w w' : World} {row : Option Nat} (h : w.drew.grownBy w' row) : w.grownBy w' row := ⟨h.os, h.tape, h.output, h.size, h.block⟩
end Go.Proofs.YtenjffoboiohnaaDoor
