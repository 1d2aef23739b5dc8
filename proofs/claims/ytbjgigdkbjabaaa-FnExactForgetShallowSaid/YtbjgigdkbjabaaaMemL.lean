/- MemL: what the laws on memories need beside the walks: sizes of marks, and items of a frame. Each fact holds under the premises that it states. -/
import Derived.Test.YtbjgigdkbjabaaaMemF
namespace Go.Proofs.Ytbjgigdkbjabaaa
set_option linter.unusedSimpArgs false
set_option linter.unusedVariables false
set_option linter.unnecessarySimpa false
open Go.RowKit Go.ChangeShapes Go.WideShapes Go.ChangeAt Go.Joins

theorem mkSum_pl : ∀ (l : List (Sl × SA)), mkSum szSl l = 5 * l.length + mkSum plS l
  | [] => by simp [mkSum]
  | x :: l => by
    have := mkSum_pl l
    simp only [mkSum, List.length_cons, szSl, plS] at this ⊢
    omega
theorem plS_bd : ∀ (l : List (Sl × SA)), (∀ x ∈ l, x.1.pits.length ≤ 1048576) → 0 ≤ mkSum plS l ∧ mkSum plS l ≤ 1048576 * l.length
  | [], _ => by simp [mkSum]
  | x :: l, h => by
    have h1 := plS_bd l (fun y hy => h y (List.mem_cons_of_mem _ hy))
    have h2 := h x (List.mem_cons_self ..)
    simp only [mkSum, List.length_cons, plS] at h1 ⊢
    omega
/-- what a list of a result holds -/
structure Few (xs : List Sl) : Prop where
  n : xs.length ≤ 64
  p : ∀ x ∈ xs, x.pits.length ≤ 1048576
theorem few_list {xs : List Sl} {m : List (Sl × SA)} (h : Few xs) (he : m.map Prod.fst = xs) : m.length ≤ 64 ∧ (∀ x ∈ m, x.1.pits.length ≤ 1048576) ∧ (∀ x ∈ m, x.1.pits.length ≤ maxLen) ∧ 0 ≤ mkSum szSl m ∧ 1 + mkSum szSl m ≤ 1099511627776 := by
  have h1 : m.length ≤ 64 := by have := h.n; rw [← he, List.length_map] at this; exact this
  have h2 : ∀ x ∈ m, x.1.pits.length ≤ 1048576 := fun x hx => h.p x.1 (by rw [← he]; exact List.mem_map_of_mem hx)
  have h3 := plS_bd m h2
  have h4 := mkSum_pl m
  exact ⟨h1, h2, fun x hx => by have := h2 x hx; unfold maxLen; omega, by omega, by omega⟩
theorem same_list {l m : List (Sl × SA)} (he : m.map Prod.fst = l.map Prod.fst) (h1 : l.length ≤ 1048576) (h2 : ∀ x ∈ l, x.1.pits.length ≤ 1048576) : m.length = l.length ∧ (∀ x ∈ m, x.1.pits.length ≤ 1048576) ∧ (∀ x ∈ m, x.1.pits.length ≤ maxLen) ∧ mkSum szSl m = mkSum szSl l := by
  have hl : m.length = l.length := by have := congrArg List.length he; simpa using this
  have hk : ∀ {l m : List (Sl × SA)}, m.map Prod.fst = l.map Prod.fst → mkSum szSl m = mkSum szSl l := by
    intro l
    induction l with
    | nil => intro m h; cases m with
      | nil => rfl
      | cons => simp at h
    | cons y l ih => intro m h; cases m with
      | nil => simp at h
      | cons z m =>
        simp only [List.map_cons, List.cons.injEq] at h
        simp only [mkSum, szSl]
        rw [ih h.2, h.1]
  have h3 : ∀ x ∈ m, x.1.pits.length ≤ 1048576 := fun x hx => by
    have : x.1 ∈ l.map Prod.fst := by rw [← he]; exact List.mem_map_of_mem hx
    obtain ⟨z, hz, hzx⟩ := List.mem_map.1 this
    rw [← hzx]
    exact h2 z hz
  exact ⟨hl, h3, fun x hx => by have := h3 x hx; unfold maxLen; omega, hk he⟩
theorem forget_few {r : R} {l : List (Sl × SA)} {d : Int} (h : ∀ x ∈ l, x.1.pits.length ≤ 1048576) : Few (forgetP r (l.map Prod.fst) d).1.2 := by
  unfold forgetP
  split
  · exact ⟨by simp, fun x hx => by cases hx⟩
  · rename_i h1
    split
    · exact ⟨by simp, fun x hx => by cases hx⟩
    · have h2 := (meOk_parts (by simpa using h1)).2.1
      refine ⟨by simp only [List.length_map] at h2 ⊢; omega, fun x hx => ?_⟩
      simp only [List.mem_map] at hx
      obtain ⟨z, ⟨u, hu, rfl⟩, rfl⟩ := hx
      unfold fgI
      split
      · simp [Sl.nil]
      · exact h u hu

end Go.Proofs.Ytbjgigdkbjabaaa
