/- SLV: plain laws of a search: the best move is the first with the greatest value, and the best line has the value of the search. No conditions but those stated. -/
import Derived.Test.YtbjdfgfebepacaaSLine
namespace Go.Proofs.Ytbjdfgfebepacaa
set_option linter.unusedSimpArgs false
set_option linter.unusedVariables false
set_option linter.unnecessarySimpa false
open Go.RowKit Go.ChangeShapes Go.WideShapes Go.ChangeAt Go.Joins

theorem optsP_nil {r : R} {p : P} {D : Nat} (h : optsP r p D = []) : allP r p = [] := by
  unfold optsP at h
  exact List.map_eq_nil_iff.1 h
theorem bGo_best (r : R) (D : Nat) : ∀ (l : List Mk) (i : Nat) (b : Int) (m : Int), bGo (valueP r D) l (i + 1) b = (bestGo (l.map (optP r D)) (m, b)).2
  | [], i, b, m => rfl
  | x :: l, i, b, m => by
    simp only [bGo, List.map_cons, bestGo, optP]
    by_cases h : moveV x (valueP r D (nxt x)) > b
    · rw [if_pos (.inr h), if_pos h]
      exact bGo_best r D l (i + 1) _ _
    · rw [if_neg (by omega), if_neg h]
      exact bGo_best r D l (i + 1) _ _
theorem best_value {r : R} {p : P} {D : Nat} {o : OP} {l : List OP} (h : optsP r p D = o :: l) : (bestGo l o).2 = valueP r (D + 1) p := by
  unfold optsP at h
  cases hA : allP r p with
  | nil => rw [hA] at h; cases h
  | cons x xs =>
    rw [hA, List.map_cons] at h
    obtain ⟨h1, h2⟩ := List.cons.inj h
    simp only [valueP]
    rw [hA, if_neg (by simp), bGo, if_pos (.inl rfl), bGo_best r D xs 0 _ x.move, h2, ← h1]
    rfl
theorem allP_sorted (r : R) (p : P) : ((allP r p).map Mk.move).Pairwise (· < ·) := by
  unfold allP allGo
  rw [List.pairwise_map]
  refine List.pairwise_filterMap.2 ?_
  refine List.Pairwise.imp_of_mem ?_ List.pairwise_lt_range
  intro a b ha hb hab x hx y hy
  unfold mkO at hx hy
  split at hx
  · split at hy
    · rename_i h1 h2
      have e1 : makeP r p a = x := by simpa using hx
      have e2 : makeP r p b = y := by simpa using hy
      have hd1 : (doneP r p a).code = 0 := by rw [← makeP_code]; exact h1
      have hd2 : (doneP r p b).code = 0 := by rw [← makeP_code]; exact h2
      rw [← e1, ← e2, makeP_ok hd1, makeP_ok hd2]
      simp only
      omega
    · cases hy
  · cases hx
theorem opts_sorted (r : R) (p : P) (D : Nat) : (optsP r p D).Pairwise (fun x y => x.1 < y.1) := by
  have := allP_sorted r p
  unfold optsP
  rw [List.pairwise_map] at this ⊢
  exact this
theorem best_first : ∀ (l : List OP) (o : OP), (o :: l).Pairwise (fun x y => x.1 < y.1) → ∀ x ∈ o :: l, x.2 ≤ (bestGo l o).2 ∧ (x.2 = (bestGo l o).2 → (bestGo l o).1 ≤ x.1)
  | [], o, _, x, hx => by
    obtain rfl : x = o := by simpa using hx
    simp [bestGo]
  | y :: l, o, hs, x, hx => by
    obtain ⟨h1, h2⟩ := List.pairwise_cons.1 hs
    obtain ⟨h3, h4⟩ := List.pairwise_cons.1 h2
    simp only [bestGo]
    by_cases h : y.2 > o.2
    · rw [if_pos h]
      have ih := best_first l y h2
      have iy := ih y (List.mem_cons_self ..)
      rcases List.mem_cons.1 hx with rfl | hx
      · omega
      · exact ih x hx
    · rw [if_neg h]
      have hs' : (o :: l).Pairwise (fun x y => x.1 < y.1) := List.pairwise_cons.2 ⟨fun z hz => h1 z (List.mem_cons_of_mem _ hz), h4⟩
      have ih := best_first l o hs'
      have io := ih o (List.mem_cons_self ..)
      rcases List.mem_cons.1 hx with rfl | hx
      · exact io
      · rcases List.mem_cons.1 hx with rfl | hx
        · have := h1 x (List.mem_cons_self ..)
          omega
        · exact ih x (List.mem_cons_of_mem _ hx)

/-! ### the line -/
def runTo (r : R) : List Int → P → P
  | [], q => q
  | m :: ms, q => runTo r ms (nxt (makeP r q m))
def runOk (r : R) : List Int → P → Prop
  | [], _ => True
  | m :: ms, q => (makeP r q m).code = 0 ∧ runOk r ms (nxt (makeP r q m))
theorem line_ok (r : R) : ∀ (D : Nat) (p : P), p.ok r = true → runOk r (lineB r D p) p ∧ (runTo r (lineB r D p) p).ok r = true
  | 0, p, h => ⟨trivial, h⟩
  | D + 1, p, h => by
    cases ho : optsP r p D with
    | nil => rw [lineB_nil ho]; exact ⟨trivial, h⟩
    | cons o l =>
      rw [lineB_cons ho]
      obtain ⟨m, hm, hc, ha, _⟩ := best_of ho
      rw [hm]
      have ih := line_ok r D (nxt (makeP r p m)) (allP_valid ha)
      exact ⟨⟨hc, ih.1⟩, ih.2⟩
def restV (r : R) (q : P) : Int := if allP r q = [] then endP r q else 0
def sgV (pl : Int) (q : P) (v : Int) : Int := if q.player = pl then v else -v
theorem restV_nil {r : R} {q : P} (h : allP r q = []) : restV r q = endP r q := if_pos h
theorem restV_some {r : R} {q : P} (h : ¬ allP r q = []) : restV r q = 0 := if_neg h
theorem ok_player {r : R} {p : P} (h : p.ok r = true) : p.player = 0 ∨ p.player = 1 := by
  obtain ⟨_, ⟨pn, hpn, hpn1⟩, _⟩ := P.ok_parts h
  omega
theorem nxt_player {r : R} {p : P} {m : Int} (h : (makeP r p m).code = 0) : (nxt (makeP r p m)).player = if (makeP r p m).again = true then p.player else 1 - p.player := by
  have hd : (doneP r p m).code = 0 := by rw [← makeP_code]; exact h
  rw [makeP_ok hd]
  simp only [nxt]
theorem line_value (r : R) (pl : Int) (hpl : pl = 0 ∨ pl = 1) : ∀ (D : Nat) (p : P) (s : Int), p.ok r = true →
    ∃ n, lineGo r pl p s (lineB r D p) = (n, 0) ∧ n + sgV pl (runTo r (lineB r D p) p) (restV r (runTo r (lineB r D p) p)) = s + sgV pl p (valueP r D p)
  | 0, p, s, h => ⟨s, rfl, by simp only [lineB, runTo, valueP, restV]⟩
  | D + 1, p, s, h => by
    cases ho : optsP r p D with
    | nil =>
      have hA := optsP_nil ho
      rw [lineB_nil ho]
      refine ⟨s, rfl, ?_⟩
      show s + sgV pl p (restV r p) = _
      rw [restV_nil hA, valueP_nil hA]
    | cons o l =>
      rw [lineB_cons ho]
      have hv := best_value ho
      obtain ⟨m, hm, hc, ha, hb⟩ := best_of ho
      rw [hm]
      rw [hb] at hv
      obtain ⟨n, h1, h2⟩ := line_value r pl hpl D (nxt (makeP r p m)) (if p.player = pl then s + (makeP r p m).gain else s - (makeP r p m).gain) (allP_valid ha)
      refine ⟨n, ?_, ?_⟩
      · simp only [lineGo]
        rw [if_pos hc]
        exact h1
      · simp only [runTo]
        rw [h2, ← hv]
        have hpp := nxt_player hc
        have hp := ok_player h
        unfold moveV sgV
        cases hag : (makeP r p m).again
        · rw [hag] at hpp
          simp only [Bool.false_eq_true, if_false] at hpp ⊢
          rw [hpp]
          by_cases e : p.player = pl
          · rw [if_pos e, if_neg (by omega), if_pos e]; omega
          · rw [if_neg e, if_pos (by omega), if_neg e]; omega
        · rw [hag] at hpp
          simp only [if_true] at hpp ⊢
          rw [hpp]
          by_cases e : p.player = pl
          · rw [if_pos e, if_pos e, if_pos e]; omega
          · rw [if_neg e, if_neg e, if_neg e]; omega
/-- what the law asks of the line -/
theorem line_told {r : R} {p : P} {D : Nat} (h : p.ok r = true) (hD : D ≤ 8) : ∃ n, lineP r p (lineB r D p) = (n, 0) ∧
    (canP r (runTo r (lineB r D p) p) = true → n = valueP r D p) ∧
    (canP r (runTo r (lineB r D p) p) = false → (runTo r (lineB r D p) p).player = p.player → n + endP r (runTo r (lineB r D p) p) = valueP r D p) ∧
    (canP r (runTo r (lineB r D p) p) = false → ¬ (runTo r (lineB r D p) p).player = p.player → n - endP r (runTo r (lineB r D p) p) = valueP r D p) := by
  obtain ⟨n, h1, h2⟩ := line_value r p.player (ok_player h) D p 0 h
  have hl := lineB_len r D p
  have hq := (line_ok r D p h).2
  refine ⟨n, by rw [lineP, if_pos h, if_neg (by omega), h1], ?_⟩
  obtain ⟨q, hqe⟩ : ∃ q, q = runTo r (lineB r D p) p := ⟨_, rfl⟩
  rw [← hqe] at hq h2 ⊢
  have hcan : canP r q = decide (0 < (allP r q).length) := by rw [canP, hq, Bool.true_and]
  rw [hcan]
  rw [Int.zero_add] at h2
  have hs : sgV p.player p (valueP r D p) = valueP r D p := if_pos rfl
  rw [hs] at h2
  refine ⟨fun hc => ?_, fun hc e => ?_, fun hc e => ?_⟩
  · have hA : ¬ allP r q = [] := fun e => by rw [e] at hc; simp at hc
    rw [restV_some hA] at h2
    unfold sgV at h2
    split at h2 <;> omega
  · have hA : allP r q = [] := by
      apply List.eq_nil_of_length_eq_zero
      have := of_decide_eq_false hc
      omega
    rw [restV_nil hA, sgV, if_pos e] at h2
    exact h2
  · have hA : allP r q = [] := by
      apply List.eq_nil_of_length_eq_zero
      have := of_decide_eq_false hc
      omega
    rw [restV_nil hA, sgV, if_neg e] at h2
    omega
end Go.Proofs.Ytbjdfgfebepacaa
