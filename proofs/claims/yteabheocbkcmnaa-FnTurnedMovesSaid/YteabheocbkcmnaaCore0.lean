/- Core0: small facts on boxes of rules, and on draws. Holds under the premises that each statement names. -/
import Derived.Test.YteabheocbkcmnaaRules
import Derived.Test.YteabheocbkcmnaaFrame
namespace Go.Proofs.Yteabheocbkcmnaa
set_option linter.unusedSimpArgs false
set_option linter.unusedVariables false
set_option linter.unnecessarySimpa false
open Go.RowKit Go.ChangeShapes Go.WideShapes Go.ChangeAt Go.Joins

theorem q_same {Pr : Program} {f : FuncId} {args : Array Value} {w : World} {v : Value} (h : Calls Pr f args w fun e w' => e = .returned v ∧ w = w') : Calls Pr f args w fun e w' => e = .returned v ∧ w' = w :=
  h.mono fun _ _ ⟨he, hm⟩ => ⟨he, hm.symm⟩
theorem Row.drewN {w : World} {a : Option Addr} {vs : List Value} (h : Row w a vs) (n : Nat) : Row (w.drewN n) a vs := h
theorem R.At.draw {w : World} {b o : Nat} {r : R} (h : R.At w b o r) (n : Nat) : R.At (w.drewN n) b o r := ⟨h.c0, h.c1, h.c2, h.c3, h.c4, h.c5, h.c6, h.c7, h.c8⟩
theorem R.boxc {w : World} {b : Nat} {r : R} (h : BoxP b r.cells.toList w) : R.At w b 0 r := ⟨h 0 _ rfl, h 1 _ rfl, h 2 _ rfl, h 3 _ rfl, h 4 _ rfl, h 5 _ rfl, h 6 _ rfl, h 7 _ rfl, h 8 _ rfl⟩
theorem BoxP.row {w : World} {b : Nat} {cs : List Value} (h : BoxP b cs w) : Row w (some ⟨b, 0, none⟩) cs := fun j v hv => ⟨b, 0, rfl, by rw [Nat.zero_add]; exact h j v hv⟩
theorem OwnP.step {lo hi : Nat} {e : TypeId} {size n : Nat} {v : Value} {vs : List Value} {w w' : World} (h : OwnP lo hi e size v n vs w) (hh : hi ≤ w.heap.size) (hb : Below w.heap.size w w') : OwnP lo hi e size v n vs w' :=
  OwnP.stab _ _ _ _ _ _ _ w w' h (fun k _ h2 => hb.block k (by omega))
theorem made {w w' : World} {cs : Array Value} {e : TypeId} (hw : w' = w.alloc (.cells cs e)) : Below w.heap.size w w' ∧ BoxP w.heap.size cs.toList w' ∧ w'.heap.size = w.heap.size + 1 := by
  subst hw
  exact ⟨below_alloc1 _ _, fun j v hv => by simpa using hv, by simp⟩
theorem BoxP.grown {w w' : World} {b : Nat} {cs : List Value} {row : Option Nat} (h : BoxP b cs w) (hg : w.grownBy w' row) (hne : row ≠ some b) (hl : b < w.heap.size) : BoxP b cs w' :=
  fun j v hv => cell_stab (h j v hv) (hg.block b hl (fun e => hne e.symm))
theorem Fr.from {w0 w : World} (h : Below w0.heap.size w0 w) : Fr w0 w [] := ⟨h, fun r hr => by simp at hr⟩
theorem cell_other {w : World} {g o b o' : Nat} {v : Value} (h : ¬ b = g) : (w.setCell ⟨g, o, none⟩ v).cell? ⟨b, o', none⟩ = w.cell? ⟨b, o', none⟩ := by
  apply World.cell?_setCell_other
  intro e
  cases e
  exact h rfl
theorem Fr.box {w0 w : World} {ls : List Res} (h : Fr w0 w ls) {b : Nat} {cs : List Value} (hb : BoxP b cs w) (hl : b < w.heap.size) : Fr w0 w (⟨b, b + 1, BoxP b cs⟩ :: ls) := h.add _ _ _ (BoxP.stab _ _) hb hl

end Go.Proofs.Yteabheocbkcmnaa
