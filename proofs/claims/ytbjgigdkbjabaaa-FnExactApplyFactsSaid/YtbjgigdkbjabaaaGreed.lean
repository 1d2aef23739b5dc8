/- Greed: the first move with the greatest gain: plain facts, and both functions. Each holds under the premises that it states. -/
import Derived.Test.YtbjgigdkbjabaaaLeg
namespace Go.Proofs.Ytbjgigdkbjabaaa
set_option linter.unusedSimpArgs false
set_option linter.unusedVariables false
set_option linter.unnecessarySimpa false
open Go.RowKit Go.ChangeShapes Go.WideShapes Go.ChangeAt Go.Joins

/-! ### no store loses seeds -/
theorem set_ge (S : List Int) (k i : Nat) (v : Int) (h : S.getD k 0 ≤ v) : S.getD i 0 ≤ (S.set k v).getD i 0 := by
  simp only [List.getD_eq_getElem?_getD] at *
  rw [List.getElem?_set]
  split
  · rename_i e
    subst e
    split
    · simpa using h
    · rename_i h2
      rw [List.getElem?_eq_none (by omega)]; simp
  · simp
theorem bump_ge (S : List Int) (q : Int) (i : Nat) : S.getD i 0 ≤ (bump S q).getD i 0 := by
  unfold bump
  exact set_ge _ _ _ _ (by omega)
theorem lapGo_ge (r : R) (pl fr : Int) (i : Nat) : ∀ (n : Nat) (place : Int) (P S T : List Int), S.getD i 0 ≤ (lapGo r pl fr n place P S T).stores.getD i 0
  | 0, place, P, S, T => by simp only [lapGo]; omega
  | n + 1, place, P, S, T => by
    simp only [lapGo]
    split
    · exact Int.le_trans (bump_ge S pl i) (lapGo_ge r pl fr i n _ _ _ _)
    · exact lapGo_ge r pl fr i n _ _ _ _
theorem lapP_ge (r : R) (pl fr : Int) (i : Nat) (P S T : List Int) : S.getD i 0 ≤ (lapP r pl fr P S T).stores.getD i 0 := by
  unfold lapP
  exact lapGo_ge r pl fr i _ _ _ _ _
theorem sowGo_ge (r : R) (pl : Int) (i : Nat) : ∀ (k : Nat) (L L' : Lap) (n : Int), sowGo r pl k L = some (L', n) → L.stores.getD i 0 ≤ L'.stores.getD i 0
  | 0, L, L', n, h => by
    unfold sowGo at h
    split at h
    · simp at h
    · simp at h
      obtain ⟨rfl, rfl⟩ := h
      exact Int.le_refl _
  | k + 1, L, L', n, h => by
    unfold sowGo at h
    split at h
    · exact Int.le_trans (lapP_ge r pl L.last i L.pits L.stores L.path) (sowGo_ge r pl i k _ L' n h)
    · simp at h
      obtain ⟨rfl, rfl⟩ := h
      exact Int.le_refl _
theorem doneP_gain {r : R} {p : P} {move : Int} (h : (doneP r p move).code = 0) (i : Nat) : p.stores.getD i 0 ≤ (doneP r p move).stores.getD i 0 := by
  obtain ⟨hc0, L, n, ho⟩ := doneP_zero h
  obtain ⟨hok, hbd, ⟨pn, hpn, hpn1⟩, t, hB, ht1, hpl⟩ := sowP_brd hc0 ho
  have hd : (doneP r p move).stores = (takeP r p.player L.pits L.stores L.last).2 := by
    have h1 := h
    rw [doneP_ok hc0 ho] at h1 ⊢
    unfold doneL at h1 ⊢
    by_cases a : r.slam = 1 ∧ slamP r p.player L.pits L.last = true
    · rw [if_pos a] at h1; simp [Done.bad] at h1
    · rw [if_neg a] at h1 ⊢
      split at h1
      · simp [Done.bad] at h1
      · rename_i b; rw [if_neg b]
  rw [hd]
  have h1 : p.stores.getD i 0 ≤ L.stores.getD i 0 := Int.le_trans (lapP_ge r p.player _ i p.pits p.stores []) (sowGo_ge r p.player i 99 _ L n ho)
  refine Int.le_trans h1 ?_
  obtain ⟨g0, g1⟩ := gainP_bd (hB.bp ht1) (by omega) (capP r pn L.pits L.last)
  rw [hpn]
  simp only [takeP, Int.toNat_natCast]
  exact set_ge _ _ _ _ (by omega)
theorem allP_pos {r : R} {p : P} {x : Mk} (h : x ∈ allP r p) : 0 ≤ x.gain ∧ 0 ≤ x.move ∧ x.gain ≤ 2000 := by
  obtain ⟨m, hx, hc, hm⟩ := allP_of h
  have hd : (doneP r p m).code = 0 := by rw [← makeP_code]; exact hc
  have h1 := doneP_gain hd p.player.toNat
  obtain ⟨_, _, f3, f4, _⟩ := doneP_facts hd
  have h3 := f3 p.player.toNat
  have h4 := f4 p.player.toNat
  refine ⟨?_, by omega, ?_⟩
  · rw [hx, makeP_ok hd]; simp only; omega
  · rw [hx, makeP_ok hd]; simp only; omega

/-! ### the greatest gain -/
def gGo : List Mk → Int → Int → Int × Int
  | [], m, g => (m, g)
  | x :: l, m, g => if x.gain > g then gGo l x.move x.gain else gGo l m g
theorem gGo_snoc (x : Mk) : ∀ (l : List Mk) (m g : Int), gGo (l ++ [x]) m g = if x.gain > (gGo l m g).2 then (x.move, x.gain) else gGo l m g
  | [], m, g => by simp only [List.nil_append, gGo]; rfl
  | y :: l, m, g => by
    simp only [List.cons_append, gGo]
    split <;> exact gGo_snoc x l _ _
theorem gGo_pos : ∀ (l : List Mk) (m g : Int), (∀ x ∈ l, 0 ≤ x.move) → 0 ≤ m → 0 ≤ (gGo l m g).1
  | [], m, g, h, hm => hm
  | x :: l, m, g, h, hm => by
    simp only [gGo]
    split
    · exact gGo_pos l _ _ (fun y hy => h y (by simp [hy])) (h x (by simp))
    · exact gGo_pos l _ _ (fun y hy => h y (by simp [hy])) hm
def greedyP (r : R) (p : P) : Int × Int × Int :=
  if p.ok r = true then (if allP r p = [] then (0, 0, 3) else ((gGo (allP r p) (-1) (-1)).1, (gGo (allP r p) (-1) (-1)).2, 0)) else (0, 0, 1)
theorem gGo_all {r : R} {p : P} (h : ¬ allP r p = []) : 0 ≤ (gGo (allP r p) (-1) (-1)).1 := by
  have hm : ∀ x ∈ allP r p, 0 ≤ x.gain ∧ 0 ≤ x.move := fun x hx => ⟨(allP_pos hx).1, (allP_pos hx).2.1⟩
  revert h hm
  generalize allP r p = l
  intro h hm
  cases l with
  | nil => exact absurd rfl h
  | cons x l =>
    have h1 := hm x (by simp)
    simp only [gGo]
    rw [if_pos (by omega)]
    exact gGo_pos l _ _ (fun y hy => (hm y (by simp [hy])).2) h1.2

/-- a round over the results -/
structure GrSt (w wr : World) (l : List (Mk × MA)) (g k : Nat) (m n : Int) : Prop where
  kl : k ≤ l.length
  ac : (m, n) = gGo ((l.take k).map Prod.fst) (-1) (-1)
  box : BoxP g (mcells l) wr
  below : Below w.heap.size w wr

end Go.Proofs.Ytbjgigdkbjabaaa
