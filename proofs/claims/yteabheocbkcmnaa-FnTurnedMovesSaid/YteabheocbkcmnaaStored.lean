/- Stored: a box that is made among calls that make memory, and filled behind them. Holds under the premises that each statement names. -/
import Derived.Test.YteabheocbkcmnaaPos3
import Derived.Test.YteabheocbkcmnaaLap
import Derived.Test.YteabheocbkcmnaaSown
namespace Go.Proofs.Yteabheocbkcmnaa
set_option linter.unusedSimpArgs false
set_option linter.unusedVariables false
set_option linter.unnecessarySimpa false
open Go.RowKit Go.ChangeShapes Go.WideShapes Go.ChangeAt Go.Joins

/-- the first cells of block b, none of them frozen -/
def BoxF (b : Nat) (cs : List Value) : World → Prop := fun w => BoxP b cs w ∧ ∀ o, w.frozen? ⟨b, o, none⟩ = false
theorem BoxF.stab (b : Nat) (cs : List Value) : Stab b (b + 1) (BoxF b cs) := fun w w' h hk => ⟨BoxP.stab b cs w w' h.1 hk, fun o => (World.frozen?_of_block (w := w) (hk b (Nat.le_refl _) (by omega))).trans (h.2 o)⟩
theorem Fr.allocF {w0 w : World} {ls : List Res} (h : Fr w0 w ls) (cs : Array Value) (t : TypeId) : Fr w0 (w.alloc (.cells cs t)) (⟨w.heap.size, w.heap.size + 1, BoxF w.heap.size cs.toList⟩ :: ls) :=
  (h.step (below_alloc1 _ _)).add _ _ _ (BoxF.stab _ _) ⟨fun j v hv => by simpa using hv, fun o => by simp⟩ (by simp)
theorem Fr.chg0 {w0 w w' : World} {ls : List Res} (h : Fr w0 w ls) {lo hi : Nat} (hc : Chg lo hi w w') (hw : w0.heap.size ≤ lo) (hd : ∀ r ∈ ls, r.hi ≤ lo ∨ hi ≤ r.lo) : Fr w0 w' ls :=
  ⟨hc.below h.below hw, fun r hr => by
    obtain ⟨h1, h2, h3⟩ := h.res r hr
    have := hd r hr
    exact ⟨Nat.le_trans h1 hc.size, h2, h2 w w' h3 (fun k k1 k2 => hc.block k (by omega) (by omega))⟩⟩
theorem chg_set (w : World) (b o : Nat) (v : Value) : Chg b (b + 1) w (w.setCell ⟨b, o, none⟩ v) :=
  ⟨rfl, rfl, rfl, by simp, fun k hk hn => Below.heap_setCell _ _ _ k (by simp; omega)⟩
theorem Fr.stored4 {w0 w : World} {ls : List Res} (h : Fr w0 w ls) {nb : Nat} {v0 v1 v2 v3 u0 u1 u2 u3 : Value} (hw : w0.heap.size ≤ nb) (hd : ∀ r ∈ ls, r.hi ≤ nb ∨ nb + 1 ≤ r.lo)
    (x0 : w.cell? ⟨nb, 0, none⟩ = some u0) (x1 : w.cell? ⟨nb, 1, none⟩ = some u1) (x2 : w.cell? ⟨nb, 2, none⟩ = some u2) (x3 : w.cell? ⟨nb, 3, none⟩ = some u3) :
    Fr w0 ((((w.setCell ⟨nb, 0, none⟩ v0).setCell ⟨nb, 1, none⟩ v1).setCell ⟨nb, 2, none⟩ v2).setCell ⟨nb, 3, none⟩ v3) (⟨nb, nb + 1, BoxP nb [v0, v1, v2, v3]⟩ :: ls) := by
  have h1 := h.chg0 ((((chg_set w nb 0 v0).trans (chg_set _ nb 1 v1)).trans (chg_set _ nb 2 v2)).trans (chg_set _ nb 3 v3)) hw hd
  have hs : nb < w.heap.size := World.block_lt_of_cell? w _ x0
  refine h1.add _ _ _ (BoxP.stab _ _) (fun j v hv => ?_) (by simp; omega)
  match j, hv with
  | 0, hv => (simp at hv; subst hv; rw [cell_off (by omega), cell_off (by omega), cell_off (by omega)]; exact World.cell?_setCell_same _ _ _ x0)
  | 1, hv => (simp at hv; subst hv; rw [cell_off (by omega), cell_off (by omega)]; refine World.cell?_setCell_same _ _ (u := u1) _ ?_; rw [cell_off (by omega)]; exact x1)
  | 2, hv => (simp at hv; subst hv; rw [cell_off (by omega)]; refine World.cell?_setCell_same _ _ (u := u2) _ ?_; rw [cell_off (by omega), cell_off (by omega)]; exact x2)
  | 3, hv => (simp at hv; subst hv; refine World.cell?_setCell_same _ _ (u := u3) _ ?_; rw [cell_off (by omega), cell_off (by omega), cell_off (by omega)]; exact x3)
end Go.Proofs.Yteabheocbkcmnaa
