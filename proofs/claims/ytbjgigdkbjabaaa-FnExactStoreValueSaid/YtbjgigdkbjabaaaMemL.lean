/- MemL: what the laws on memories need beside the walks: sizes of marks, and items of a frame. Each fact holds under the premises that it states. -/
import Derived.Test.YtbjgigdkbjabaaaMemF
namespace Go.Proofs.Ytbjgigdkbjabaaa
set_option linter.unusedSimpArgs false
set_option linter.unusedVariables false
set_option linter.unnecessarySimpa false
open Go.RowKit Go.ChangeShapes Go.WideShapes Go.ChangeAt Go.Joins

theorem mkSum_pl : ∀ (l : List (Sl × SA)), mkSum szSl l = 5 * l.length + mkSum plS l
  | [] => by simp [mkSum]
  | x :: l => by
    have := mkSum_pl l
    simp only [mkSum, List.length_cons, szSl, plS] at this ⊢
    omega
theorem plS_bd : ∀ (l : List (Sl × SA)), (∀ x ∈ l, x.1.pits.length ≤ 1048576) → 0 ≤ mkSum plS l ∧ mkSum plS l ≤ 1048576 * l.length
  | [], _ => by simp [mkSum]
  | x :: l, h => by
    have h1 := plS_bd l (fun y hy => h y (List.mem_cons_of_mem _ hy))
    have h2 := h x (List.mem_cons_self ..)
    simp only [mkSum, List.length_cons, plS] at h1 ⊢
    omega
/-- what a list of a result holds -/
structure Few (xs : List Sl) : Prop where
  n : xs.length ≤ 64
  p : ∀ x ∈ xs, x.pits.length ≤ 1048576
theorem few_list {xs : List Sl} {m : List (Sl × SA)} (h : Few xs) (he : m.map Prod.fst = xs) : m.length ≤ 64 ∧ (∀ x ∈ m, x.1.pits.length ≤ 1048576) ∧ (∀ x ∈ m, x.1.pits.length ≤ maxLen) ∧ 0 ≤ mkSum szSl m ∧ 1 + mkSum szSl m ≤ 1099511627776 := by
  have h1 : m.length ≤ 64 := by have := h.n; rw [← he, List.length_map] at this; exact this
  have h2 : ∀ x ∈ m, x.1.pits.length ≤ 1048576 := fun x hx => h.p x.1 (by rw [← he]; exact List.mem_map_of_mem hx)
  have h3 := plS_bd m h2
  have h4 := mkSum_pl m
  exact ⟨h1, h2, fun x hx => by have := h2 x hx; unfold maxLen; omega, by omega, by omega⟩
theorem same_list {l m : List (Sl × SA)} (he : m.map Prod.fst = l.map Prod.fst) (h1 : l.length ≤ 1048576) (h2 : ∀ x ∈ l, x.1.pits.length ≤ 1048576) : m.length = l.length ∧ (∀ x ∈ m, x.1.pits.length ≤ 1048576) ∧ (∀ x ∈ m, x.1.pits.length ≤ maxLen) ∧ mkSum szSl m = mkSum szSl l := by
  have hl : m.length = l.length := by have := congrArg List.length he; simpa using this
  have hk : ∀ {l m : List (Sl × SA)}, m.map Prod.fst = l.map Prod.fst → mkSum szSl m = mkSum szSl l := by
    intro l
    induction l with
    | nil => intro m h; cases m with
      | nil => rfl
      | cons => simp at h
    | cons y l ih => intro m h; cases m with
      | nil => simp at h
      | cons z m =>
        simp only [List.map_cons, List.cons.injEq] at h
        simp only [mkSum, szSl]
        rw [ih h.2, h.1]
  have h3 : ∀ x ∈ m, x.1.pits.length ≤ 1048576 := fun x hx => by
    have : x.1 ∈ l.map Prod.fst := by rw [← he]; exact List.mem_map_of_mem hx
    obtain ⟨z, hz, hzx⟩ := List.mem_map.1 this
    rw [← hzx]
    exact h2 z hz
  exact ⟨hl, h3, fun x hx => by have := h3 x hx; unfold maxLen; omega, hk he⟩
theorem forget_few {r : R} {l : List (Sl × SA)} {d : Int} (h : ∀ x ∈ l, x.1.pits.length ≤ 1048576) : Few (forgetP r (l.map Prod.fst) d).1.2 := by
  unfold forgetP
  split
  · exact ⟨by simp, fun x hx => by cases hx⟩
  · rename_i h1
    split
    · exact ⟨by simp, fun x hx => by cases hx⟩
    · have h2 := (meOk_parts (by simpa using h1)).2.1
      refine ⟨by simp only [List.length_map] at h2 ⊢; omega, fun x hx => ?_⟩
      simp only [List.mem_map] at hx
      obtain ⟨z, ⟨u, hu, rfl⟩, rfl⟩ := hx
      unfold fgI
      split
      · simp [Sl.nil]
      · exact h u hu

theorem Fr.listM {w0 w : World} {ls : List Res} (h : Fr w0 w ls) : ∃ LS, LS = ls ∧ Fr w0 w LS := ⟨ls, rfl, h⟩
theorem Fr.stored10M {w0 w : World} {ls : List Res} (h : Fr w0 w ls) {nb : Nat} {v0 v1 v2 v3 v4 v5 v6 v7 v8 v9 u0 u1 u2 u3 u4 u5 u6 u7 u8 u9 : Value} (hb : BoxP nb [u0, u1, u2, u3, u4, u5, u6, u7, u8, u9] w) (hf : ∀ o, w.frozen? ⟨nb, o, none⟩ = false) (hw : w0.heap.size ≤ nb) (hd : ∀ r ∈ ls, r.hi ≤ nb ∨ nb + 1 ≤ r.lo) :
    Fr w0 ((((((((((w.setCell ⟨nb, 0, none⟩ v0).setCell ⟨nb, 1, none⟩ v1).setCell ⟨nb, 2, none⟩ v2).setCell ⟨nb, 3, none⟩ v3).setCell ⟨nb, 4, none⟩ v4).setCell ⟨nb, 5, none⟩ v5).setCell ⟨nb, 6, none⟩ v6).setCell ⟨nb, 7, none⟩ v7).setCell ⟨nb, 8, none⟩ v8).setCell ⟨nb, 9, none⟩ v9) (⟨nb, nb + 1, BoxP nb [v0, v1, v2, v3, v4, v5, v6, v7, v8, v9]⟩ :: ls) := by
  have hs : nb < w.heap.size := World.block_lt_of_cell? w _ (hb 0 _ rfl)
  have h1 := h.chg0 ((((((((((chg_set w nb 0 v0).trans (chg_set _ nb 1 v1)).trans (chg_set _ nb 2 v2)).trans (chg_set _ nb 3 v3)).trans (chg_set _ nb 4 v4)).trans (chg_set _ nb 5 v5)).trans (chg_set _ nb 6 v6)).trans (chg_set _ nb 7 v7)).trans (chg_set _ nb 8 v8)).trans (chg_set _ nb 9 v9)) hw hd
  have B : BoxF nb [u0, u1, u2, u3, u4, u5, u6, u7, u8, u9] w := ⟨hb, hf⟩
  have B1 := (((((((((B.put (j0 := 0) (by simp) v0).put (j0 := 1) (by simp) v1).put (j0 := 2) (by simp) v2).put (j0 := 3) (by simp) v3).put (j0 := 4) (by simp) v4).put (j0 := 5) (by simp) v5).put (j0 := 6) (by simp) v6).put (j0 := 7) (by simp) v7).put (j0 := 8) (by simp) v8).put (j0 := 9) (by simp) v9
  exact h1.add _ _ _ (BoxP.stab _ _) B1.1 (by simp; omega)
theorem Fr.alloc10M {w0 w : World} {ls : List Res} (h : Fr w0 w ls) (v0 v1 v2 v3 v4 v5 v6 v7 v8 v9 : Value) (t : TypeId) : Fr w0 (w.alloc (.cells #[v0, v1, v2, v3, v4, v5, v6, v7, v8, v9] t)) (⟨w.heap.size, w.heap.size + 1, BoxP w.heap.size [v0, v1, v2, v3, v4, v5, v6, v7, v8, v9]⟩ :: ls) := h.alloc _ _
theorem szP_lenM {left : Int} {p : P} (h : ¬ szP left p < 0) (h0 : 0 ≤ left) (h1 : left ≤ 1048576) : p.pits.length ≤ 1048576 ∧ p.stores.length ≤ 1048576 ∧ 0 ≤ szP left p ∧ szP left p ≤ 1048576 := by
  unfold szP szI at h ⊢
  repeat' split
  all_goals (try omega)
  all_goals (repeat' split at h)
  all_goals (try omega)
  all_goals (simp_all <;> omega)

end Go.Proofs.Ytbjgigdkbjabaaa
