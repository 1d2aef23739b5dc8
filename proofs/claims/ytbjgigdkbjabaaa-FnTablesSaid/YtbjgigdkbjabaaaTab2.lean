/- Tab2: rows of a table: in plain terms, and the program's two closures. Each contract holds for every argument, under the premises that it states. -/
import Derived.Test.YtbjgigdkbjabaaaTab1
import Derived.Test.YtbjgigdkbjabaaaFlRow
import Derived.Test.YtbjgigdkbjabaaaStored
namespace Go.Proofs.Ytbjgigdkbjabaaa
set_option linter.unusedSimpArgs false
set_option linter.unusedVariables false
set_option linter.unnecessarySimpa false
open Go.RowKit Go.ChangeShapes Go.WideShapes Go.ChangeAt Go.Joins

/-! ### in plain terms: a row in closed form -/
def sumM (f : Mt → Int) : List Mt → Int
  | [] => 0
  | m :: l => f m + sumM f l
theorem sumM_app (f : Mt → Int) : ∀ (l k : List Mt), sumM f (l ++ k) = sumM f l + sumM f k
  | [], k => by simp [sumM]
  | m :: l, k => by rw [List.cons_append, sumM, sumM, sumM_app f l k]; omega
theorem sumM_step (f : Mt → Int) {l : List Mt} {k : Nat} (hk : k < l.length) : sumM f (l.take (k + 1)) = sumM f (l.take k) + f l[k] := by
  rw [List.take_succ_eq_append_getElem hk, sumM_app]
  simp [sumM]
theorem sumM_bd {f : Mt → Int} {c : Nat} : ∀ (l : List Mt), (∀ m ∈ l, 0 ≤ f m ∧ f m ≤ c) → 0 ≤ sumM f l ∧ sumM f l ≤ c * l.length
  | [], _ => by simp [sumM]
  | m :: l, h => by
    have h1 := h m (List.mem_cons_self ..)
    have h2 := sumM_bd l (fun x hx => h x (List.mem_cons_of_mem _ hx))
    simp only [sumM, List.length_cons]
    have h3 : (c : Int) * ((l.length + 1 : Nat) : Int) = c * l.length + c := by rw [Int.natCast_add, Int.mul_add]; simp
    omega
def ptM (i : Int) (m : Mt) : Int := (if m.a = i then m.score else 0) + (if m.b = i then 2 - m.score else 0)
def wnM (i : Int) (m : Mt) : Int := (if m.a = i ∧ m.score = 2 then 1 else 0) + (if m.b = i ∧ 2 - m.score = 2 then 1 else 0)
def gmM (i : Int) (m : Mt) : Int := if m.forfeit = true then 0 else (if m.a = i then 1 else 0) + (if m.b = i then 1 else 0)
def agM (pt : Int → Int) (i : Int) (m : Mt) : Int := if m.forfeit = true then 0 else (if m.a = i then pt m.b else 0) + (if m.b = i then pt m.a else 0)
def stM (pt : Int → Int) (i : Int) (m : Mt) : Int := if m.forfeit = true then 0 else (if m.a = i then pt m.b * m.score else 0) + (if m.b = i then pt m.a * (2 - m.score) else 0)
def ptsOf (l : List Mt) (i : Int) : Int := sumM (ptM i) l
/-- the row of player i: l: the matches that are counted in points and wins; k: those counted in games; j: those counted in the rest -/
def rowOf (all l k j : List Mt) (i : Int) : Rw := ⟨i, sumM (ptM i) l, sumM (wnM i) l, sumM (gmM i) k, sumM (agM (ptsOf all) i) j, sumM (stM (ptsOf all) i) j⟩
def rowsAt (n : Nat) (all l k j : List Mt) : List Rw := (List.range n).map fun (i : Nat) => rowOf all l k j (i : Int)
def rowsP (n : Nat) (l : List Mt) : List Rw := rowsAt n l l l l
theorem rowsAt_len (n : Nat) (all l k j : List Mt) : (rowsAt n all l k j).length = n := by simp [rowsAt]
theorem rowsAt_get {n : Nat} {all l k j : List Mt} {i : Nat} (hi : i < n) : (rowsAt n all l k j)[i]? = some (rowOf all l k j (i : Int)) := by
  unfold rowsAt
  rw [List.getElem?_map, List.getElem?_range hi]
  rfl
/-- a list of rows is known by its items -/
theorem rows_ext {n : Nat} {all l k j : List Mt} {xs : List Rw} (hl : xs.length = n) (h : ∀ i, i < n → xs[i]? = some (rowOf all l k j (i : Int))) : xs = rowsAt n all l k j := by
  apply List.ext_getElem?
  intro i
  by_cases hi : i < n
  · rw [h i hi, rowsAt_get hi]
  · rw [List.getElem?_eq_none (by omega), List.getElem?_eq_none (by rw [rowsAt_len]; omega)]
def addRw (x : Rw) (s : Int) : Rw := ⟨x.player, x.points + s, if s = 2 then x.wins + 1 else x.wins, x.games, x.against, x.strength⟩
def playRw (x : Rw) (p s : Int) : Rw := ⟨x.player, x.points, x.wins, x.games + 1, x.against + p, x.strength + p * s⟩
theorem set_get_eq {α : Type} {xs : List α} {k : Nat} {y : α} {i : Nat} : (xs.set k y)[i]? = if k = i ∧ k < xs.length then some y else xs[i]? := by
  rw [List.getElem?_set]
  by_cases h : k = i
  · subst h
    by_cases h2 : k < xs.length
    · simp [h2]
    · simp [h2]
  · simp [h]
/-- a match is counted -/
theorem add_two {n : Nat} {all l k j : List Mt} {m : Mt} (hv : m.ok n = true) {p q : Nat} (hp : m.a = (p : Int)) (hq : m.b = (q : Int)) :
    ((rowsAt n all l k j).set p (addRw (rowOf all l k j (p : Int)) m.score)).set q (addRw (rowOf all l k j (q : Int)) (2 - m.score)) = rowsAt n all (l ++ [m]) k j := by
  obtain ⟨h1, h2, h3, h4⟩ := Mt.ok_parts hv
  apply rows_ext
  · simp [rowsAt_len]
  intro i hi
  have hpn : p < n := by omega
  have hqn : q < n := by omega
  have hpq : ¬ p = q := by omega
  rw [set_get_eq, set_get_eq, List.length_set, rowsAt_len, rowsAt_get hi]
  have e : ∀ (z : Int), rowOf all (l ++ [m]) k j z = ⟨z, sumM (ptM z) l + ptM z m, sumM (wnM z) l + wnM z m, sumM (gmM z) k, sumM (agM (ptsOf all) z) j, sumM (stM (ptsOf all) z) j⟩ := fun z => by
    simp only [rowOf, sumM_app, sumM]
    simp
  rw [e]
  by_cases hqi : q = i
  · subst hqi
    rw [if_pos ⟨rfl, hqn⟩]
    simp only [rowOf, addRw, ptM, wnM, hp, hq]
    have hne : ¬ (p : Int) = (q : Int) := by omega
    congr 2
    · simp [hne]
    · by_cases h : 2 - m.score = 2 <;> simp [hne, h]
  · rw [if_neg (by omega)]
    by_cases hpi : p = i
    · subst hpi
      rw [if_pos ⟨rfl, hpn⟩]
      simp only [rowOf, addRw, ptM, wnM, hp, hq]
      have hne : ¬ (q : Int) = (p : Int) := by omega
      congr 2
      · simp [hne]
      · by_cases h : m.score = 2 <;> simp [hne, h]
    · rw [if_neg (by omega)]
      have e1 : ¬ m.a = (i : Int) := by omega
      have e2 : ¬ m.b = (i : Int) := by omega
      simp [rowOf, ptM, wnM, e1, e2]

theorem two_rowsM {n : Nat} {all l k j l' k' j' : List Mt} {p q : Nat} (hp : p < n) (hq : q < n) {yp yq : Rw} (h1 : rowOf all l' k' j' (p : Int) = yp) (h2 : rowOf all l' k' j' (q : Int) = yq) (h3 : ∀ i : Nat, i < n → ¬ i = p → ¬ i = q → rowOf all l' k' j' (i : Int) = rowOf all l k j (i : Int)) :
    ((rowsAt n all l k j).set p yp).set q yq = rowsAt n all l' k' j' := by
  apply rows_ext
  · simp [rowsAt_len]
  intro i hi
  rw [set_get_eq, set_get_eq, List.length_set, rowsAt_len, rowsAt_get hi]
  by_cases hqi : q = i
  · subst hqi
    rw [if_pos ⟨rfl, hq⟩, h2]
  · rw [if_neg (by omega)]
    by_cases hpi : p = i
    · subst hpi
      rw [if_pos ⟨rfl, hp⟩, h1]
    · rw [if_neg (by omega), h3 i hi (by omega) (by omega)]
theorem rowOf_k (all l k j : List Mt) (m : Mt) (z : Int) : rowOf all l (k ++ [m]) (j ++ [m]) z = ⟨z, sumM (ptM z) l, sumM (wnM z) l, sumM (gmM z) k + gmM z m, sumM (agM (ptsOf all) z) j + agM (ptsOf all) z m, sumM (stM (ptsOf all) z) j + stM (ptsOf all) z m⟩ := by
  simp only [rowOf, sumM_app, sumM]
  simp
theorem rowOf_l (all l k j : List Mt) (m : Mt) (z : Int) : rowOf all (l ++ [m]) (k ++ [m]) j z = ⟨z, sumM (ptM z) l + ptM z m, sumM (wnM z) l + wnM z m, sumM (gmM z) k + gmM z m, sumM (agM (ptsOf all) z) j, sumM (stM (ptsOf all) z) j⟩ := by
  simp only [rowOf, sumM_app, sumM]
  simp
theorem rowOf_j (all l k j : List Mt) (m : Mt) (z : Int) : rowOf all l k (j ++ [m]) z = ⟨z, sumM (ptM z) l, sumM (wnM z) l, sumM (gmM z) k, sumM (agM (ptsOf all) z) j + agM (ptsOf all) z m, sumM (stM (ptsOf all) z) j + stM (ptsOf all) z m⟩ := by
  simp only [rowOf, sumM_app, sumM]
  simp
/-- a match is played: games, and what hangs on the other's points -/
theorem play_two {n : Nat} {all l k j : List Mt} {m : Mt} (hv : m.ok n = true) (hf : m.forfeit = false) {p q : Nat} (hp : m.a = (p : Int)) (hq : m.b = (q : Int)) :
    ((rowsAt n all l k j).set p (playRw (rowOf all l k j (p : Int)) (ptsOf all q) m.score)).set q (playRw (rowOf all l k j (q : Int)) (ptsOf all p) (2 - m.score)) = rowsAt n all l (k ++ [m]) (j ++ [m]) := by
  obtain ⟨h1, h2, h3, h4⟩ := Mt.ok_parts hv
  have hne : ¬ (p : Int) = (q : Int) := by omega
  have hne' : ¬ (q : Int) = (p : Int) := by omega
  refine two_rowsM (by omega) (by omega) ?_ ?_ ?_
  · rw [rowOf_k]; simp [rowOf, playRw, gmM, agM, stM, hp, hq, hf, hne, hne']
  · rw [rowOf_k]; simp [rowOf, playRw, gmM, agM, stM, hp, hq, hf, hne, hne']
  · intro i hi e1 e2
    have e1' : ¬ (p : Int) = (i : Int) := by omega
    have e2' : ¬ (q : Int) = (i : Int) := by omega
    rw [rowOf_k]
    simp [rowOf, gmM, agM, stM, hp, hq, hf, e1', e2']
theorem play_not {n : Nat} {all l k j : List Mt} {m : Mt} (hf : m.forfeit = true) : rowsAt n all l k j = rowsAt n all l (k ++ [m]) (j ++ [m]) := by
  apply rows_ext (rowsAt_len _ _ _ _ _)
  intro i hi
  rw [rowsAt_get hi, rowOf_k]
  simp [rowOf, gmM, agM, stM, hf]
/-- the reference's first count takes the games too -/
def cntRw (x : Rw) (s : Int) (ff : Bool) : Rw := ⟨x.player, x.points + s, if s = 2 then x.wins + 1 else x.wins, if ff = true then x.games else x.games + 1, x.against, x.strength⟩
theorem cnt_two {n : Nat} {all l k j : List Mt} {m : Mt} (hv : m.ok n = true) {p q : Nat} (hp : m.a = (p : Int)) (hq : m.b = (q : Int)) :
    ((rowsAt n all l k j).set p (cntRw (rowOf all l k j (p : Int)) m.score m.forfeit)).set q (cntRw (rowOf all l k j (q : Int)) (2 - m.score) m.forfeit) = rowsAt n all (l ++ [m]) (k ++ [m]) j := by
  obtain ⟨h1, h2, h3, h4⟩ := Mt.ok_parts hv
  have hne : ¬ (p : Int) = (q : Int) := by omega
  have hne' : ¬ (q : Int) = (p : Int) := by omega
  refine two_rowsM (by omega) (by omega) ?_ ?_ ?_
  · rw [rowOf_l]
    cases hf : m.forfeit <;> by_cases h : m.score = 2 <;> simp [rowOf, cntRw, ptM, wnM, gmM, hp, hq, hf, hne, hne', h]
  · rw [rowOf_l]
    cases hf : m.forfeit <;> by_cases h : 2 - m.score = 2 <;> simp [rowOf, cntRw, ptM, wnM, gmM, hp, hq, hf, hne, hne', h]
  · intro i hi e1 e2
    have e1' : ¬ (p : Int) = (i : Int) := by omega
    have e2' : ¬ (q : Int) = (i : Int) := by omega
    rw [rowOf_l]
    cases hf : m.forfeit <;> simp [rowOf, ptM, wnM, gmM, hp, hq, hf, e1', e2']
/-- .. and its second count what hangs on the other's points -/
def agRw (x : Rw) (p s : Int) : Rw := ⟨x.player, x.points, x.wins, x.games, x.against + p, x.strength + p * s⟩
theorem ag_two {n : Nat} {all l k j : List Mt} {m : Mt} (hv : m.ok n = true) (hf : m.forfeit = false) {p q : Nat} (hp : m.a = (p : Int)) (hq : m.b = (q : Int)) :
    ((rowsAt n all l k j).set p (agRw (rowOf all l k j (p : Int)) (ptsOf all q) m.score)).set q (agRw (rowOf all l k j (q : Int)) (ptsOf all p) (2 - m.score)) = rowsAt n all l k (j ++ [m]) := by
  obtain ⟨h1, h2, h3, h4⟩ := Mt.ok_parts hv
  have hne : ¬ (p : Int) = (q : Int) := by omega
  have hne' : ¬ (q : Int) = (p : Int) := by omega
  refine two_rowsM (by omega) (by omega) ?_ ?_ ?_
  · rw [rowOf_j]; simp [rowOf, agRw, agM, stM, hp, hq, hf, hne, hne']
  · rw [rowOf_j]; simp [rowOf, agRw, agM, stM, hp, hq, hf, hne, hne']
  · intro i hi e1 e2
    have e1' : ¬ (p : Int) = (i : Int) := by omega
    have e2' : ¬ (q : Int) = (i : Int) := by omega
    rw [rowOf_j]
    simp [rowOf, agM, stM, hp, hq, hf, e1', e2']
theorem ag_not {n : Nat} {all l k j : List Mt} {m : Mt} (hf : m.forfeit = true) : rowsAt n all l k j = rowsAt n all l k (j ++ [m]) := by
  apply rows_ext (rowsAt_len _ _ _ _ _)
  intro i hi
  rw [rowsAt_get hi, rowOf_j]
  simp [rowOf, agM, stM, hf]
/-! ### bounds -/
theorem pts_bd {n : Int} {l : List Mt} (h : ∀ m ∈ l, m.ok n = true) (i : Int) : 0 ≤ ptsOf l i ∧ ptsOf l i ≤ 2 * l.length := by
  refine sumM_bd (c := 2) l (fun m hm => ?_)
  obtain ⟨h1, h2, h3, h4⟩ := Mt.ok_parts (h m hm)
  unfold ptM
  split <;> split <;> omega
theorem row_bd {n : Int} {all l k j : List Mt} (ha : ∀ m ∈ all, m.ok n = true) (hl : ∀ m ∈ l, m.ok n = true) (hk : ∀ m ∈ k, m.ok n = true) (hj : ∀ m ∈ j, m.ok n = true) (na : all.length ≤ 150) (nl : l.length ≤ 150) (nk : k.length ≤ 150) (nj : j.length ≤ 150) (i : Int) :
    (0 ≤ (rowOf all l k j i).points ∧ (rowOf all l k j i).points ≤ 300) ∧ (0 ≤ (rowOf all l k j i).wins ∧ (rowOf all l k j i).wins ≤ 150) ∧ (0 ≤ (rowOf all l k j i).games ∧ (rowOf all l k j i).games ≤ 150) ∧ (0 ≤ (rowOf all l k j i).against ∧ (rowOf all l k j i).against ≤ 45000) ∧ (0 ≤ (rowOf all l k j i).strength ∧ (rowOf all l k j i).strength ≤ 90000) := by
  have e1 := pts_bd hl i
  have e2 := sumM_bd (f := wnM i) (c := 1) l (fun m hm => by
    obtain ⟨h1, h2, h3, h4⟩ := Mt.ok_parts (hl m hm)
    unfold wnM
    split <;> split <;> omega)
  have e3 := sumM_bd (f := gmM i) (c := 1) k (fun m hm => by
    obtain ⟨h1, h2, h3, h4⟩ := Mt.ok_parts (hk m hm)
    unfold gmM
    split
    · omega
    · split <;> split <;> omega)
  have e4 := sumM_bd (f := agM (ptsOf all) i) (c := 300) j (fun m hm => by
    obtain ⟨h1, h2, h3, h4⟩ := Mt.ok_parts (hj m hm)
    have q1 := pts_bd ha m.a
    have q2 := pts_bd ha m.b
    unfold agM
    split
    · omega
    · split <;> split <;> omega)
  have e5 := sumM_bd (f := stM (ptsOf all) i) (c := 600) j (fun m hm => by
    obtain ⟨h1, h2, h3, h4⟩ := Mt.ok_parts (hj m hm)
    have q1 := pts_bd ha m.a
    have q2 := pts_bd ha m.b
    have m1 : ∀ x s : Int, 0 ≤ x → x ≤ 300 → 0 ≤ s → s ≤ 2 → 0 ≤ x * s ∧ x * s ≤ 600 := fun x s a1 a2 a3 a4 => by
      refine ⟨Int.mul_nonneg a1 a3, ?_⟩
      have : x * s ≤ 300 * 2 := Int.mul_le_mul a2 a4 a3 (by omega)
      omega
    have k1 := m1 (ptsOf all m.b) m.score (by omega) (by omega) (by omega) (by omega)
    have k2 := m1 (ptsOf all m.a) (2 - m.score) (by omega) (by omega) (by omega) (by omega)
    unfold stM
    split
    · omega
    · split <;> split <;> omega)
  simp only [rowOf]
  unfold ptsOf at e1
  refine ⟨by omega, by omega, by omega, by omega, by omega⟩

end Go.Proofs.Ytbjgigdkbjabaaa
