/- Leg: the legal moves: both functions. Each contract holds for every argument, under the premises that it states. -/
import Derived.Test.YtbjgigdkbjabaaaRes
import Derived.Test.YtbjgigdkbjabaaaPath
import Derived.Deep.AppendLies
namespace Go.Proofs.Ytbjgigdkbjabaaa
set_option linter.unusedSimpArgs false
set_option linter.unusedVariables false
set_option linter.unnecessarySimpa false
open Go.RowKit Go.ChangeShapes Go.WideShapes Go.ChangeAt Go.Joins

def legalP (r : R) (p : P) : List Int × Int := if p.ok r = true then ((allP r p).map Mk.move, 0) else ([], 1)
theorem allP_len8 {r : R} {p : P} (h : p.ok r = true) : (allP r p).length ≤ 8 := by
  have h1 := allGo_len r p r.pits.toNat
  have h2 := (P.ok_parts h).1.hi
  unfold allP
  omega
theorem legalP_len (r : R) (p : P) : (legalP r p).1.length ≤ 1048576 := by
  unfold legalP
  split
  · rename_i h; have := allP_len8 h; simp; omega
  · simp
/-- the cells of a list of results, in one block -/
theorem mks_box {w : World} {base c : Nat} {ad : Option Addr} {l : List (Mk × MA)} (h : MksOwn w base ad c l) (hb : base ≤ w.heap.size) : ∃ g, BoxP g (mcells l) w ∧ base ≤ g ∧ (0 < l.length → ad = some ⟨g, 0, none⟩) := by
  by_cases hl : 0 < l.length
  · obtain ⟨g, hg, h1, h2⟩ := own_lt_n h.row hl
    subst hg
    refine ⟨g, fun j v hv => ?_, h1, fun _ => rfl⟩
    have hml : (mcells l).length = l.length * 6 := h.row.1
    have hj : j < l.length * 6 := by
      rcases Nat.lt_or_ge j (l.length * 6) with h | h
      · exact h
      · rw [List.getElem?_eq_none (by omega)] at hv; cases hv
    rw [h.row.cellAt j hj]
    exact hv
  · obtain rfl : l = [] := List.eq_nil_of_length_eq_zero (by omega)
    refine ⟨w.heap.size, ?_, hb, fun h => absurd h hl⟩
    intro j v hv
    simp [mcells] at hv
theorem BoxP.grown2 {w w' : World} {g : Nat} {cs : List Value} {row : Option Nat} (h : BoxP g cs w) (hg : w.grownBy w' row) (hn : ¬ row = some g) : BoxP g cs w' := fun j v hv =>
  (hg.cell_far ⟨g, j, none⟩ (World.block_lt_of_cell? w _ (h j v hv)) (fun e => hn e.symm)).trans (h j v hv)
theorem BoxP.below {w w' : World} {g : Nat} {cs : List Value} (h : BoxP g cs w) (hb : Below w.heap.size w w') : BoxP g cs w' := fun j v hv =>
  (hb.cell (show (Addr.mk g j none).block < _ from World.block_lt_of_cell? w _ (h j v hv))).trans (h j v hv)
theorem box_cells {w : World} {g k : Nat} {l : List (Mk × MA)} {x : Mk × MA} (h : BoxP g (mcells l) w) (hx : l[k]? = some x) :
    w.cell? ⟨g, k * 6, none⟩ = some (.int .i64 x.1.move) ∧ w.cell? ⟨g, k * 6 + 1, none⟩ = some (.int .i64 x.1.gain) ∧ w.cell? ⟨g, k * 6 + 2, none⟩ = some (.bool x.1.again) ∧
    w.cell? ⟨g, k * 6 + 3, none⟩ = some (.slice x.2.pa x.1.pits.length x.2.pc) ∧ w.cell? ⟨g, k * 6 + 4, none⟩ = some (.slice x.2.sa x.1.stores.length x.2.sc) ∧ w.cell? ⟨g, k * 6 + 5, none⟩ = some (.int .i64 x.1.player) := by
  have key : ∀ j v, j < 6 → (x.1.cells x.2.pa x.2.pc x.2.sa x.2.sc).toList[j]? = some v → w.cell? ⟨g, k * 6 + j, none⟩ = some v := fun j v hj hv => h _ _ (by rw [mcells_get l k j x hx hj]; exact hv)
  exact ⟨key 0 _ (by omega) rfl, key 1 _ (by omega) rfl, key 2 _ (by omega) rfl, key 3 _ (by omega) rfl, key 4 _ (by omega) rfl, key 5 _ (by omega) rfl⟩
/-- a round over the results -/
structure LgSt (w wr : World) (l : List (Mk × MA)) (g k : Nat) (ta : Option Addr) (tc : Nat) (acc : List Int) : Prop where
  kl : k ≤ l.length
  ac : acc = (l.take k).map (fun x => x.1.move)
  own : OwnI wr (w.heap.size + 1 + 1) ta tc acc
  no : ∀ b, (Value.slice ta acc.length tc).ownBlock = some b → ¬ b = g
  box : BoxP g (mcells l) wr
  below : Below w.heap.size w wr
  sz : w.heap.size + 1 + 1 ≤ wr.heap.size

end Go.Proofs.Ytbjgigdkbjabaaa
