/- Moves: the results of all moves, and how they stand in their list. Each fact holds under the premises that it states. -/
import Derived.Test.YtbjgigdkbjabaaaLeg
import Derived.Test.YtbjgigdkbjabaaaLine
import Derived.Test.YtbjgigdkbjabaaaOwn
import Derived.Test.YtbjgigdkbjabaaaStored
import Derived.Test.YtbjgigdkbjabaaaRes
import Derived.Deep.RegionHeld3
namespace Go.Proofs.Ytbjgigdkbjabaaa
set_option linter.unusedSimpArgs false
set_option linter.unusedVariables false
set_option linter.unnecessarySimpa false
open Go.RowKit Go.ChangeShapes Go.WideShapes Go.ChangeAt Go.Joins

theorem allGo_pre (r : R) (p : P) (k : Nat) : ∀ n, ∃ t, allGo r p (k + n) = allGo r p k ++ t
  | 0 => ⟨[], by simp⟩
  | n + 1 => by
    obtain ⟨t, ht⟩ := allGo_pre r p k n
    by_cases h : (makeP r p ((k + n : Nat) : Int)).code = 0
    · exact ⟨t ++ [makeP r p ((k + n : Nat) : Int)], by rw [← Nat.add_assoc, allGo_ok h, ht, List.append_assoc]⟩
    · exact ⟨t, by rw [← Nat.add_assoc, allGo_bad h, ht]⟩
theorem allP_at {r : R} {p : P} {k : Nat} (hk : k < r.pits.toNat) (h : (makeP r p (k : Int)).code = 0) : (allP r p)[(allGo r p k).length]? = some (makeP r p (k : Int)) := by
  obtain ⟨t, ht⟩ := allGo_pre r p (k + 1) (r.pits.toNat - (k + 1))
  unfold allP
  rw [show r.pits.toNat = k + 1 + (r.pits.toNat - (k + 1)) by omega, ht, allGo_ok h]
  simp
/-- what is known of a move without a fault -/
theorem makeP_facts {r : R} {p : P} {m : Int} (h : (makeP r p m).code = 0) : (makeP r p m).move = m ∧ (makeP r p m).gain = (makeP r p m).stores.getD p.player.toNat 0 - p.stores.getD p.player.toNat 0 ∧
    ((makeP r p m).player == p.player) = (makeP r p m).again ∧ (makeP r p m).stores.length = 2 ∧ p.stores.length = 2 ∧ (0 ≤ p.player ∧ p.player ≤ 1) ∧ (∀ i : Nat, 0 ≤ (makeP r p m).stores.getD i 0 ∧ (makeP r p m).stores.getD i 0 ≤ 2000) ∧ (∀ i : Nat, 0 ≤ p.stores.getD i 0 ∧ p.stores.getD i 0 ≤ 2000) := by
  have hd : (doneP r p m).code = 0 := by rw [← makeP_code]; exact h
  obtain ⟨f1, f2, f3, f4, f5⟩ := doneP_facts hd
  obtain ⟨hok, _⟩ := doneP_brd hd
  obtain ⟨_, ⟨pn, hpn, hpn1⟩, _⟩ := P.ok_parts hok
  rw [makeP_ok hd]
  refine ⟨rfl, rfl, ?_, f1, f2, by omega, f3, f4⟩
  simp only
  cases hb : (r.again && decide ((doneP r p m).last = -1))
  · simp; omega
  · simp


/-! ### MkMv: the position after a move: both functions. Each contract holds for every argument, under the premises that it states. -/
def mkmvP (r : R) (p : P) (move : Int) : P × Int × Int := (⟨(makeP r p move).pits, (makeP r p move).stores, (makeP r p move).player⟩, (makeP r p move).gain, (makeP r p move).code)
theorem mkmvP_len (r : R) (p : P) (move : Int) : (mkmvP r p move).1.pits.length ≤ 1048576 ∧ (mkmvP r p move).1.stores.length ≤ 1048576 := by
  unfold mkmvP
  by_cases h : (doneP r p move).code = 0
  · have hf := doneP_facts h
    rw [makeP_ok h]
    simp only
    omega
  · rw [makeP_bad rfl h]
    simp [Mk.bad]


/-! ### Feed: players who must feed, sides of a board, and the best of all moves. Each fact holds under the premises that it states. -/
/-! ### pits that are emptied -/
def zeroTo (P : List Int) (b : Nat) : Nat → List Int
  | 0 => P
  | k + 1 => (zeroTo P b k).set (b + k) 0
theorem zeroTo_length (P : List Int) (b : Nat) : ∀ k, (zeroTo P b k).length = P.length
  | 0 => rfl
  | k + 1 => by simp [zeroTo, zeroTo_length P b k]
theorem zeroTo_mem (P : List Int) (b : Nat) : ∀ k, ∀ n ∈ zeroTo P b k, n = 0 ∨ n ∈ P
  | 0, n, h => .inr h
  | k + 1, n, h => by
    rcases List.mem_or_eq_of_mem_set h with h | h
    · exact zeroTo_mem P b k n h
    · exact .inl h
theorem zeroTo_nn {P : List Int} (h : nn P) (b k : Nat) : nn (zeroTo P b k) := fun n hn => by
  rcases zeroTo_mem P b k n hn with rfl | h'
  · exact Int.le_refl 0
  · exact h n h'
theorem zeroTo_sum {P : List Int} (h : nn P) (b : Nat) : ∀ k, (zeroTo P b k).sum ≤ P.sum
  | 0 => Int.le_refl _
  | k + 1 => by
    have h1 := zeroTo_sum h b k
    by_cases hl : b + k < (zeroTo P b k).length
    · rw [zeroTo, sum_set _ _ hl]
      have := zeroTo_nn h b k _ (List.getElem_mem hl)
      omega
    · rw [zeroTo, List.set_eq_of_length_le (by omega)]
      exact h1
theorem zeroTo_get (P : List Int) (b : Nat) : ∀ (k j : Nat), j < k → (zeroTo P b k).getD (b + j) 0 = 0
  | k + 1, j, h => by
    by_cases e : j = k
    · subst e
      simp only [zeroTo, List.getD_eq_getElem?_getD, List.getElem?_set]
      simp
      split <;> simp
    · have h1 := zeroTo_get P b k j (by omega)
      simp only [zeroTo, List.getD_eq_getElem?_getD] at h1 ⊢
      rw [List.getElem?_set_ne (by omega)]
      exact h1
theorem sum_zeros : ∀ {l : List Int}, (∀ x ∈ l, x = 0) → l.sum = 0
  | [], _ => rfl
  | x :: l, h => by
    rw [List.sum_cons, h x (by simp), sum_zeros (fun y hy => h y (by simp [hy]))]
    rfl
theorem side_zero (r : R) (P : List Int) (pl : Int) {b : Nat} (hb : (pl * r.pits).toNat = b) : sideP r (zeroTo P b r.pits.toNat) pl = 0 := by
  unfold sideP
  rw [hb]
  refine sum_zeros (fun x hx => ?_)
  obtain ⟨j, hj, rfl⟩ := List.mem_iff_getElem.1 hx
  have hj' : j < r.pits.toNat := by simp at hj; omega
  have h1 := zeroTo_get P b r.pits.toNat j hj'
  have hjl : b + j < (zeroTo P b r.pits.toNat).length := by simp at hj; omega
  rw [List.getElem_take, List.getElem_drop]
  simpa [List.getD_eq_getElem?_getD, hjl] using h1
theorem zero_ok {r : R} {p : P} (h : p.ok r = true) (b k : Nat) : (⟨zeroTo p.pits b k, p.stores, p.player⟩ : P).ok r = true := by
  simp only [P.ok, Bool.and_eq_true, decide_eq_true_eq] at h ⊢
  obtain ⟨⟨⟨⟨⟨⟨h1, h2⟩, h3⟩, h4⟩, h5⟩, h6⟩, h7⟩ := h
  refine ⟨⟨⟨⟨⟨⟨h1, by rw [zeroTo_length]; exact h2⟩, h3⟩, h4⟩, ?_⟩, h6⟩, ?_⟩
  · refine List.all_eq_true.2 (fun x hx => ?_)
    rcases zeroTo_mem _ _ _ _ hx with rfl | hx
    · exact inB_iff.2 ⟨by omega, by omega⟩
    · exact inB_iff.2 (allIn_get h5 hx)
  · have := zeroTo_sum (P := p.pits) (fun n hn => (allIn_get h5 hn).1) b k
    omega
/-- a legal move of a player who must feed leaves seeds to the other player -/
theorem feed_next {r : R} {p : P} {m : Int} (h : (makeP r p m).code = 0) (hf : r.feed = true) (hs : sideP r p.pits (1 - p.player) = 0) : ¬ sideP r (makeP r p m).pits (1 - p.player) = 0 := by
  have hd : (doneP r p m).code = 0 := by rw [← makeP_code]; exact h
  rw [makeP_ok hd]
  obtain ⟨hc0, L, n, ho⟩ := doneP_zero hd
  show ¬ sideP r (doneP r p m).pits (1 - p.player) = 0
  rw [doneP_ok hc0 ho] at hd ⊢
  unfold doneL at hd ⊢
  split at hd
  · simp [Done.bad] at hd
  · rename_i h1
    split at hd
    · simp [Done.bad] at hd
    · rename_i h2
      rw [if_neg h1, if_neg h2]
      exact fun e => h2 ⟨hf, hs, e⟩

/-! ### the best of all moves -/
theorem gGo_best : ∀ (l : List Mk) (m g : Int), (∀ x ∈ l, m < x.move) → l.Pairwise (fun a b => a.move < b.move) →
    (gGo l m g = (m, g) ∧ ∀ x ∈ l, x.gain ≤ g) ∨ ∃ x ∈ l, gGo l m g = (x.move, x.gain) ∧ g < x.gain ∧ ∀ y ∈ l, y.gain < x.gain ∨ (y.gain = x.gain ∧ x.move ≤ y.move)
  | [], m, g, _, _ => .inl ⟨rfl, by simp⟩
  | x :: l, m, g, hm, hp => by
    obtain ⟨hx, hp⟩ := List.pairwise_cons.1 hp
    simp only [gGo]
    by_cases hg : x.gain > g
    · rw [if_pos hg]
      rcases gGo_best l x.move x.gain hx hp with ⟨h1, h2⟩ | ⟨z, hz, h1, h2, h3⟩
      · refine .inr ⟨x, by simp, h1, hg, fun y hy => ?_⟩
        rcases List.mem_cons.1 hy with rfl | hy
        · exact .inr ⟨rfl, Int.le_refl _⟩
        · have := h2 y hy; have := hx y hy
          by_cases e : y.gain = x.gain
          · exact .inr ⟨e, by omega⟩
          · exact .inl (by omega)
      · refine .inr ⟨z, by simp [hz], h1, by omega, fun y hy => ?_⟩
        rcases List.mem_cons.1 hy with rfl | hy
        · exact .inl (by omega)
        · exact h3 y hy
    · rw [if_neg hg]
      rcases gGo_best l m g (fun y hy => hm y (by simp [hy])) hp with ⟨h1, h2⟩ | ⟨z, hz, h1, h2, h3⟩
      · refine .inl ⟨h1, fun y hy => ?_⟩
        rcases List.mem_cons.1 hy with rfl | hy
        · omega
        · exact h2 y hy
      · refine .inr ⟨z, by simp [hz], h1, h2, fun y hy => ?_⟩
        rcases List.mem_cons.1 hy with rfl | hy
        · exact .inl (by omega)
        · exact h3 y hy
theorem allGo_rise (r : R) (p : P) : ∀ k, (allGo r p k).Pairwise (fun a b => a.move < b.move) ∧ ∀ x ∈ allGo r p k, 0 ≤ x.move ∧ x.move < (k : Int)
  | 0 => by simp [allGo]
  | k + 1 => by
    obtain ⟨h1, h2⟩ := allGo_rise r p k
    by_cases h : (makeP r p (k : Int)).code = 0
    · rw [allGo_ok h]
      have hm := (makeP_facts h).1
      refine ⟨List.pairwise_append.2 ⟨h1, List.pairwise_singleton _ _, fun a ha b hb => ?_⟩, fun x hx => ?_⟩
      · obtain rfl : b = makeP r p (k : Int) := by simpa using hb
        have := (h2 a ha).2; omega
      · rcases List.mem_append.1 hx with hx | hx
        · have := h2 x hx; omega
        · obtain rfl : x = makeP r p (k : Int) := by simpa using hx
          omega
    · rw [allGo_bad h]
      exact ⟨h1, fun x hx => by have := h2 x hx; omega⟩
theorem allP_best {r : R} {p : P} (h : ¬ allP r p = []) : ∃ x ∈ allP r p, gGo (allP r p) (-1) (-1) = (x.move, x.gain) ∧ ∀ y ∈ allP r p, y.gain < x.gain ∨ (y.gain = x.gain ∧ x.move ≤ y.move) := by
  obtain ⟨h1, h2⟩ := allGo_rise r p r.pits.toNat
  rcases gGo_best (allP r p) (-1) (-1) (fun x hx => by have := (h2 x hx).1; omega) h1 with ⟨_, h4⟩ | ⟨x, hx, h3, _, h5⟩
  · obtain ⟨x, hx⟩ := List.exists_mem_of_ne_nil _ h
    have := h4 x hx
    have := (allP_pos hx).1
    omega
  · exact ⟨x, hx, h3, h5⟩


end Go.Proofs.Ytbjgigdkbjabaaa
