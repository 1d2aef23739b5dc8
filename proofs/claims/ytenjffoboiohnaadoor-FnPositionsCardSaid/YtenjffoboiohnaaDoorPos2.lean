/- Pos2: positions: the laws' own functions that compare, mark and look at them. Each contract holds for every argument, under the premises that it states. -/
import Derived.Test.YtenjffoboiohnaaDoorCore1
namespace Go.Proofs.YtenjffoboiohnaaDoor
set_option linter.unusedSimpArgs false
set_option linter.unusedVariables false
set_option linter.unnecessarySimpa false
open Go.RowKit Go.ChangeShapes Go.WideShapes Go.ChangeAt Go.Joins

/-- the cells of a row that is not empty -/
theorem Ints.open {w : World} {a : Option Addr} {xs : List Int} (h : Ints w a xs) (hn : 0 < xs.length) : ∃ b o, a = some ⟨b, o, none⟩ ∧ b < w.heap.size ∧ ∀ (j : Nat) (hj : j < xs.length), w.cell? ⟨b, o + j, none⟩ = some (.int .i64 xs[j]) := by
  obtain ⟨b, o, rfl, h0⟩ := h 0 (.int .i64 xs[0]) (by simp [hn])
  refine ⟨b, o, rfl, World.block_lt_of_cell? w _ h0, fun j hj => ?_⟩
  obtain ⟨b', o', e, h1⟩ := h j (.int .i64 xs[j]) (by simp [hj])
  cases e
  exact h1
/-- a position of the call's own, in the blocks from lo to hi -/
def PosP (lo hi : Nat) (p : P) (pa : Option Addr) (pc : Nat) (sa : Option Addr) (sc : Nat) : World → Prop := fun w =>
  POwn w lo p pa pc sa sc ∧ (∀ k, (Value.slice pa p.pits.length pc).ownBlock = some k → k < hi) ∧ (∀ k, (Value.slice sa p.stores.length sc).ownBlock = some k → k < hi)
theorem PosP.stab (lo hi : Nat) (p : P) (pa : Option Addr) (pc : Nat) (sa : Option Addr) (sc : Nat) : Stab lo hi (PosP lo hi p pa pc sa sc) :=
  fun w w' h hk => ⟨⟨own_stab (Nat.le_refl _) h.1.pits h.2.1 hk, own_stab (Nat.le_refl _) h.1.stores h.2.2 hk, h.1.apart⟩, h.2⟩
theorem Fr.pos {w0 w : World} {ls : List Res} (h : Fr w0 w ls) {lo : Nat} {p : P} {pa sa : Option Addr} {pc sc : Nat} (ho : POwn w lo p pa pc sa sc) : Fr w0 w (⟨lo, w.heap.size, PosP lo w.heap.size p pa pc sa sc⟩ :: ls) :=
  h.add _ _ _ (PosP.stab _ _ _ _ _ _ _) ⟨ho, fun k hk => (ho.pits.lt k hk).2, fun k hk => (ho.stores.lt k hk).2⟩ (Nat.le_refl _)
/-! ### Pos3: positions: the law's own function that marks them. The contract holds for every argument, under the premises that it states. -/
theorem apart_symm {a b : Option Nat} (h : a = none ∨ a ≠ b) : b = none ∨ b ≠ a := by
  rcases h with e | e
  · cases b
    · exact .inl rfl
    · exact .inr (by rw [e]; simp)
  · exact .inr (fun h => e h.symm)

end Go.Proofs.YtenjffoboiohnaaDoor
