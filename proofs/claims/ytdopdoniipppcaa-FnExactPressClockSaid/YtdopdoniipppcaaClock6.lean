/- Clock6: time is added to a clock: both sides return the same. Each contract holds for every argument, under the premises that it states. -/
import Derived.Test.YtdopdoniipppcaaClock5
namespace Go.Proofs.Ytdopdoniipppcaa
set_option linter.unusedSimpArgs false
set_option linter.unusedVariables false
set_option linter.unnecessarySimpa false
open Go.RowKit Go.ChangeShapes Go.WideShapes Go.ChangeAt Go.Joins

theorem Ck.ok_parts {x : Ck} (h : x.ok = true) : ∃ p q, x.left = [p, q] ∧ (0 ≤ p ∧ p ≤ 36000000) ∧ (0 ≤ q ∧ q ≤ 36000000) ∧ (0 ≤ x.inc ∧ x.inc ≤ 36000000) ∧ (0 ≤ x.delay ∧ x.delay ≤ 36000000) ∧ (0 ≤ x.since ∧ x.since ≤ 36000000) ∧ (0 ≤ x.player ∧ x.player ≤ 1) := by
  unfold Ck.ok at h
  split at h
  · rename_i p q e
    simp only [Bool.and_eq_true, Ck.first] at h
    obtain ⟨⟨⟨⟨⟨⟨h1, h2⟩, h3⟩, h4⟩, h5⟩, h6⟩, _⟩ := h
    exact ⟨p, q, e, isT_iff.1 h1, isT_iff.1 h2, isT_iff.1 h3, isT_iff.1 h4, isT_iff.1 h5, inB_iff.1 h6⟩
  · cases h
/-- the number of the player: left or right -/
def pick2 (pl p q : Int) : Int := if pl = 0 then p else q
def set2 (pl p q v : Int) : List Int := if pl = 0 then [v, q] else [p, v]
def addP (x : Ck) (pl t : Int) : Ck × Int :=
  if x.ok = false then (Ck.zero, 1) else if (inB pl 0 1 && inB t (-36000000) 36000000) = false then (Ck.zero, 2) else
  match x.left with
  | [p, q] => if (x.fallen || !inB (pick2 pl p q + t) 1 36000000) = true then (Ck.zero, 6) else ({ x with left := set2 pl p q (pick2 pl p q + t) }, 0)
  | _ => (Ck.zero, 6)

theorem addP_len (x : Ck) (pl t : Int) : (addP x pl t).1.left.length ≤ 2 := by
  unfold addP
  repeat' split
  all_goals first | (simp [Ck.zero]; done) | (simp [set2]; split <;> simp)
theorem own_two {w : World} {base c : Nat} {a : Option Addr} {p q : Int} (h : OwnI w base a c [p, q]) :
    ∃ g, a = some ⟨g, 0, none⟩ ∧ base ≤ g ∧ g < w.heap.size ∧ w.cell? ⟨g, 0, none⟩ = some (.int .i64 p) ∧ w.cell? ⟨g, 1, none⟩ = some (.int .i64 q) ∧ w.frozen? ⟨g, 0, none⟩ = false ∧ w.frozen? ⟨g, 1, none⟩ = false ∧
      (∀ v, OwnI (w.setCell ⟨g, 0, none⟩ (.int .i64 v)) base a c [v, q]) ∧ (∀ v, OwnI (w.setCell ⟨g, 1, none⟩ (.int .i64 v)) base a c [p, v]) := by
  obtain ⟨g, rfl, hg1, hg2⟩ := own_lt_n h (by simp)
  refine ⟨g, rfl, hg1, hg2, ?_, ?_, ?_, ?_, fun v => ?_, fun v => ?_⟩
  · rw [h.cellAt 0 (by simp)]; rfl
  · rw [h.cellAt 1 (by simp)]; rfl
  · exact h.frozenAt 0
  · exact h.frozenAt 1
  · exact (h.stored 0 (.int .i64 v)).1
  · exact (h.stored 1 (.int .i64 v)).1
end Go.Proofs.Ytdopdoniipppcaa
