/- TabV: the rows of a table, in plain terms: the sums of points, the order of the matches, the sorted table and the ranks. Plain facts, under the premises that each names. -/
import Derived.Test.YtbjgigdkbjabaaaTab6
namespace Go.Proofs.Ytbjgigdkbjabaaa
set_option linter.unusedSimpArgs false
set_option linter.unusedVariables false
set_option linter.unnecessarySimpa false
open Go.RowKit Go.ChangeShapes Go.WideShapes Go.ChangeAt Go.Joins

theorem betterR_iff {x y : Rw} : betterR x y = true ↔ (y.points < x.points ∨ (x.points = y.points ∧ (y.against < x.against ∨ (x.against = y.against ∧ (y.strength < x.strength ∨ (x.strength = y.strength ∧ y.wins < x.wins)))))) := by
  unfold betterR cmpR
  rw [decide_eq_true_eq]
  repeat' split
  all_goals omega
theorem betterR_no {x y : Rw} : betterR x y = false ↔ ¬ (y.points < x.points ∨ (x.points = y.points ∧ (y.against < x.against ∨ (x.against = y.against ∧ (y.strength < x.strength ∨ (x.strength = y.strength ∧ y.wins < x.wins)))))) := by
  rw [← betterR_iff]
  simp
theorem better_mono {o x y : Rw} (h : betterR y x = false) (hb : betterR o x = true) : betterR o y = true := by
  rw [betterR_no] at h
  rw [betterR_iff] at hb ⊢
  omega
theorem better_asym {x y : Rw} (h : betterR x y = true) : betterR y x = false := by
  rw [betterR_iff] at h
  rw [betterR_no]
  omega
theorem better_self (x : Rw) : betterR x x = false := by
  rw [betterR_no]
  omega
def Srt (l : List Rw) : Prop := l.Pairwise fun a b => betterR b a = false
theorem posGo_ge (x : Rw) (S : List Rw) : ∀ j i, posGo x S j ≤ i → i < j → betterR x (S.getD i Rw.nil) = true
  | 0, i, _, h => by omega
  | j + 1, i, h1, h2 => by
    unfold posGo at h1
    split at h1
    · rename_i h
      rcases Nat.lt_or_ge i j with h3 | h3
      · exact posGo_ge x S j i h1 h3
      · obtain rfl : i = j := by omega
        exact h
    · omega
theorem posGo_pre (x : Rw) (S : List Rw) : ∀ j, posGo x S j = 0 ∨ betterR x (S.getD (posGo x S j - 1) Rw.nil) = false
  | 0 => .inl rfl
  | j + 1 => by
    unfold posGo
    split
    · exact posGo_pre x S j
    · rename_i h
      right
      rw [Nat.add_sub_cancel]
      simpa using h
theorem insR_perm (x : Rw) (S : List Rw) : (insR x S).Perm (x :: S) := by
  unfold insR
  have h := List.perm_middle (a := x) (l₁ := S.take (posGo x S S.length)) (l₂ := S.drop (posGo x S S.length))
  rw [List.take_append_drop] at h
  exact h
theorem insR_srt {x : Rw} {S : List Rw} (h : Srt S) : Srt (insR x S) := by
  unfold insR
  have hp := posGo_le x S S.length
  have hge := posGo_ge x S S.length
  have hpre := posGo_pre x S S.length
  generalize posGo x S S.length = p at hp hge hpre
  have hS := List.pairwise_iff_getElem.1 h
  have hA : ∀ a ∈ S.take p, betterR x a = false := by
    intro a ha
    obtain ⟨j, hj, rfl⟩ := List.mem_iff_getElem.1 ha
    rw [List.length_take] at hj
    rw [List.getElem_take]
    rcases hpre with h0 | h0
    · omega
    rw [List.getD_eq_getElem?_getD, List.getElem?_eq_getElem (by omega), Option.getD_some] at h0
    cases hb : betterR x S[j] with
    | false => rfl
    | true =>
      have hn : betterR S[p - 1] S[j] = false := by
        rcases Nat.lt_or_ge j (p - 1) with h3 | h3
        · exact hS j (p - 1) (by omega) (by omega) h3
        · have : j = p - 1 := by omega
          subst this
          exact better_self _
      rw [better_mono hn hb] at h0
      cases h0
  have hB : ∀ b ∈ S.drop p, betterR b x = false := by
    intro b hb
    obtain ⟨j, hj, rfl⟩ := List.mem_iff_getElem.1 hb
    rw [List.length_drop] at hj
    rw [List.getElem_drop]
    have := hge (p + j) (by omega) (by omega)
    rw [List.getD_eq_getElem?_getD, List.getElem?_eq_getElem (by omega), Option.getD_some] at this
    exact better_asym this
  have hAB : ∀ a ∈ S.take p, ∀ b ∈ S.drop p, betterR b a = false := by
    have h2 : Srt (S.take p ++ S.drop p) := by rw [List.take_append_drop]; exact h
    exact (List.pairwise_append.1 h2).2.2
  refine List.pairwise_append.2 ⟨h.sublist (List.take_sublist _ _), List.pairwise_cons.2 ⟨hB, h.sublist (List.drop_sublist _ _)⟩, fun a ha b hb => ?_⟩
  rcases List.mem_cons.1 hb with rfl | hb
  · exact hA a ha
  · exact hAB a ha b hb
theorem fold_perm : ∀ (l S : List Rw), (l.foldl (fun S x => insR x S) S).Perm (S ++ l)
  | [], S => by simp
  | x :: l, S => by
    rw [List.foldl_cons]
    refine (fold_perm l (insR x S)).trans ?_
    refine ((insR_perm x S).append_right l).trans ?_
    rw [List.cons_append]
    exact List.perm_middle.symm
theorem fold_srt : ∀ (l S : List Rw), Srt S → Srt (l.foldl (fun S x => insR x S) S)
  | [], S, h => h
  | x :: l, S, h => by
    rw [List.foldl_cons]
    exact fold_srt l _ (insR_srt h)
theorem srtR_perm (l : List Rw) : (srtR l).Perm l := by
  have := fold_perm l []
  simpa [srtR] using this
theorem srtR_srt (l : List Rw) : Srt (srtR l) := fold_srt l [] List.Pairwise.nil
/-- the rank of a row -/
def rankR (rows : List Rw) (x : Rw) : Int := 1 + ((rows.countP fun o => betterR o x : Nat) : Int)
def ranksP (n : Nat) (l : List Mt) : List Int := (rowsP n l).map (rankR (rowsP n l))
theorem rank_le {rows : List Rw} {i : Nat} {x : Rw} (hx : (srtR rows)[i]? = some x) : rankR rows x ≤ (i : Int) + 1 := by
  have hs := srtR_srt rows
  have hp := (srtR_perm rows).countP_eq (fun o => betterR o x)
  unfold rankR
  rw [← hp]
  generalize srtR rows = T at hx hs
  obtain ⟨hi, rfl⟩ := List.getElem?_eq_some_iff.1 hx
  have h1 : T.countP (fun o => betterR o T[i]) = (T.take i).countP (fun o => betterR o T[i]) + (T.drop i).countP (fun o => betterR o T[i]) := by
    rw [← List.countP_append, List.take_append_drop]
  have h2 : (T.drop i).countP (fun o => betterR o T[i]) = 0 := by
    rw [List.countP_eq_zero]
    intro b hb
    obtain ⟨j, hj, rfl⟩ := List.mem_iff_getElem.1 hb
    rw [List.length_drop] at hj
    rw [List.getElem_drop]
    have : betterR T[i + j] T[i] = false := by
      rcases Nat.eq_zero_or_pos j with rfl | h3
      · exact better_self _
      · exact List.pairwise_iff_getElem.1 hs i (i + j) (by omega) (by omega) (by omega)
    simp [this]
  have h3 : (T.take i).countP (fun o => betterR o T[i]) ≤ i := Nat.le_trans List.countP_le_length (by rw [List.length_take]; omega)
  omega
theorem rank_mono {rows : List Rw} {i : Nat} {x y : Rw} (hx : (srtR rows)[i]? = some x) (hy : (srtR rows)[i + 1]? = some y) : rankR rows x ≤ rankR rows y := by
  have hs := srtR_srt rows
  unfold rankR
  generalize srtR rows = T at hx hy hs
  obtain ⟨hi, rfl⟩ := List.getElem?_eq_some_iff.1 hx
  obtain ⟨hj, rfl⟩ := List.getElem?_eq_some_iff.1 hy
  have h : betterR T[i + 1] T[i] = false := List.pairwise_iff_getElem.1 hs i (i + 1) hi hj (by omega)
  have := List.countP_mono_left (l := rows) (p := fun o => betterR o T[i]) (q := fun o => betterR o T[i + 1]) (fun o _ ho => better_mono h ho)
  omega
theorem rank_ge (rows : List Rw) (x : Rw) : 1 ≤ rankR rows x := by
  unfold rankR
  omega
/-- the row of the table at i is that of its player -/
theorem table_at {n : Nat} {l : List Mt} {i : Nat} {x : Rw} (hx : (srtR (rowsP n l))[i]? = some x) : ∃ k : Nat, k < n ∧ x.player = (k : Int) ∧ (rowsP n l)[k]? = some x := by
  have hm : x ∈ rowsP n l := (srtR_perm _).mem_iff.1 (List.mem_of_getElem? hx)
  obtain ⟨k, hk, rfl⟩ := List.mem_iff_getElem.1 hm
  have hkn : k < n := by rw [rowsP, rowsAt_len] at hk; exact hk
  have h := rowsAt_get (all := l) (l := l) (k := l) (j := l) hkn
  refine ⟨k, hkn, ?_, List.getElem?_eq_getElem hk⟩
  have e : (rowsP n l)[k]? = some (rowOf l l l l (k : Int)) := h
  rw [List.getElem?_eq_getElem hk] at e
  injection e with e
  rw [e]
  rfl
/-! ### sums -/
theorem sumM_congr {f g : Mt → Int} : ∀ {l : List Mt}, (∀ m ∈ l, f m = g m) → sumM f l = sumM g l
  | [], _ => rfl
  | m :: l, h => by
    simp only [sumM]
    rw [h m (List.mem_cons_self ..), sumM_congr (fun x hx => h x (List.mem_cons_of_mem _ hx))]
theorem sumM_add (f g : Mt → Int) : ∀ l : List Mt, sumM (fun m => f m + g m) l = sumM f l + sumM g l
  | [] => rfl
  | m :: l => by
    simp only [sumM]
    rw [sumM_add f g l]
    omega
theorem sumM_mul (f : Mt → Int) (c : Int) : ∀ l : List Mt, sumM (fun m => f m * c) l = sumM f l * c
  | [] => by simp [sumM]
  | m :: l => by
    simp only [sumM]
    rw [sumM_mul f c l, Int.add_mul]
theorem sumM_const (c : Int) : ∀ l : List Mt, sumM (fun _ => c) l = c * l.length
  | [] => by simp [sumM]
  | m :: l => by
    simp only [sumM, List.length_cons]
    rw [sumM_const c l, Int.natCast_add, Int.mul_add]
    omega
theorem sumM_zero : ∀ l : List Mt, sumM (fun _ => 0) l = 0
  | [] => rfl
  | m :: l => by
    simp only [sumM]
    rw [sumM_zero l]
    omega
/-- a sum over the players below k -/
def sumN (f : Nat → Int) : Nat → Int
  | 0 => 0
  | k + 1 => sumN f k + f k
theorem sumN_swap (F : Nat → Mt → Int) (l : List Mt) : ∀ k, sumN (fun i => sumM (F i) l) k = sumM (fun m => sumN (fun i => F i m) k) l
  | 0 => by simp only [sumN]; rw [sumM_zero]
  | k + 1 => by
    simp only [sumN]
    rw [sumN_swap F l k, sumM_add]
theorem sumN_congr {f g : Nat → Int} : ∀ {k : Nat}, (∀ i, i < k → f i = g i) → sumN f k = sumN g k
  | 0, _ => rfl
  | k + 1, h => by
    simp only [sumN]
    rw [sumN_congr (fun i hi => h i (by omega)), h k (by omega)]
theorem sumN_add (f g : Nat → Int) : ∀ k, sumN (fun i => f i + g i) k = sumN f k + sumN g k
  | 0 => rfl
  | k + 1 => by
    simp only [sumN]
    rw [sumN_add f g k]
    omega
theorem sumN_one (a : Nat) (c : Int) : ∀ k, sumN (fun i => if (a : Int) = (i : Int) then c else 0) k = if a < k then c else 0
  | 0 => by simp [sumN]
  | k + 1 => by
    simp only [sumN]
    rw [sumN_one a c k]
    by_cases h1 : a < k
    · rw [if_pos h1, if_neg (by omega), if_pos (by omega)]
      omega
    · by_cases h2 : a = k
      · subst h2
        rw [if_neg h1, if_pos rfl, if_pos (by omega)]
        omega
      · rw [if_neg h1, if_neg (by omega), if_neg (by omega)]
        omega
/-- each match gives two points -/
theorem points_sum {n : Nat} {l : List Mt} (h : ∀ m ∈ l, m.ok (n : Int) = true) : sumN (fun i => ptsOf l (i : Int)) n = 2 * (l.length : Int) := by
  have := sumN_swap (fun i m => ptM (i : Int) m) l n
  unfold ptsOf
  rw [this, ← sumM_const 2 l]
  refine sumM_congr (fun m hm => ?_)
  obtain ⟨h1, h2, h3, h4⟩ := Mt.ok_parts (h m hm)
  obtain ⟨a, ha⟩ : ∃ a : Nat, m.a = (a : Int) := ⟨m.a.toNat, by omega⟩
  obtain ⟨b, hb⟩ : ∃ b : Nat, m.b = (b : Int) := ⟨m.b.toNat, by omega⟩
  unfold ptM
  rw [sumN_add, ha, hb, sumN_one, sumN_one, if_pos (by omega), if_pos (by omega)]
  omega
/-- what is counted against the players is what they played -/
theorem against_sum {n : Nat} {l : List Mt} (h : ∀ m ∈ l, m.ok (n : Int) = true) : sumN (fun i => (rowOf l l l l (i : Int)).against - (rowOf l l l l (i : Int)).games * (rowOf l l l l (i : Int)).points) n = 0 := by
  have e : ∀ i : Nat, (rowOf l l l l (i : Int)).against - (rowOf l l l l (i : Int)).games * (rowOf l l l l (i : Int)).points = sumM (fun m => agM (ptsOf l) (i : Int) m + gmM (i : Int) m * (- ptsOf l (i : Int))) l := fun i => by
    rw [sumM_add, sumM_mul, Int.mul_neg]
    rfl
  rw [sumN_congr (fun i _ => e i), sumN_swap (fun i m => agM (ptsOf l) (i : Int) m + gmM (i : Int) m * (- ptsOf l (i : Int))) l n, ← sumM_zero l]
  refine sumM_congr (fun m hm => ?_)
  obtain ⟨h1, h2, h3, h4⟩ := Mt.ok_parts (h m hm)
  obtain ⟨a, ha⟩ : ∃ a : Nat, m.a = (a : Int) := ⟨m.a.toNat, by omega⟩
  obtain ⟨b, hb⟩ : ∃ b : Nat, m.b = (b : Int) := ⟨m.b.toNat, by omega⟩
  cases hf : m.forfeit with
  | true =>
    have : ∀ i : Nat, agM (ptsOf l) (i : Int) m + gmM (i : Int) m * (- ptsOf l (i : Int)) = 0 := fun i => by simp [agM, gmM, hf]
    rw [sumN_congr (fun i _ => this i)]
    clear this
    generalize n = k
    induction k with
    | zero => rfl
    | succ k ih => simp only [sumN]; rw [ih]; rfl
  | false =>
    have : ∀ i : Nat, agM (ptsOf l) (i : Int) m + gmM (i : Int) m * (- ptsOf l (i : Int)) = ((if (a : Int) = (i : Int) then ptsOf l (b : Int) else 0) + (if (b : Int) = (i : Int) then ptsOf l (a : Int) else 0)) + ((if (a : Int) = (i : Int) then - ptsOf l (a : Int) else 0) + (if (b : Int) = (i : Int) then - ptsOf l (b : Int) else 0)) := fun i => by
      simp only [agM, gmM, hf, ha, hb]
      by_cases e1 : (a : Int) = (i : Int)
      · by_cases e2 : (b : Int) = (i : Int)
        · omega
        · simp [e1, e2]
      · by_cases e2 : (b : Int) = (i : Int)
        · simp [e1, e2]
        · simp [e1, e2]
    rw [sumN_congr (fun i _ => this i), sumN_add, sumN_add, sumN_add, sumN_one, sumN_one, sumN_one, sumN_one, if_pos (by omega), if_pos (by omega), if_pos (by omega), if_pos (by omega)]
    omega
/-! ### the matches, turned -/
def Mt.turn (m : Mt) : Mt := ⟨m.b, m.a, 2 - m.score, m.forfeit⟩
def turnM (l : List Mt) : List Mt := l.reverse.map Mt.turn
theorem sumM_rev (f : Mt → Int) : ∀ l : List Mt, sumM f l.reverse = sumM f l
  | [] => rfl
  | m :: l => by
    rw [List.reverse_cons, sumM_app, sumM_rev f l]
    simp [sumM]
    omega
theorem sumM_map (f : Mt → Int) (g : Mt → Mt) : ∀ l : List Mt, sumM f (l.map g) = sumM (fun m => f (g m)) l
  | [] => rfl
  | m :: l => by
    rw [List.map_cons]
    simp only [sumM]
    rw [sumM_map f g l]
theorem sumM_turn {f g : Mt → Int} {l : List Mt} (h : ∀ m, f m.turn = g m) : sumM f (turnM l) = sumM g l := by
  unfold turnM
  rw [sumM_map, sumM_rev]
  exact sumM_congr (fun m _ => h m)
theorem ptsOf_turn (l : List Mt) (i : Int) : ptsOf (turnM l) i = ptsOf l i := by
  refine sumM_turn (fun m => ?_)
  simp only [ptM, Mt.turn]
  by_cases h1 : m.a = i <;> by_cases h2 : m.b = i <;> simp only [h1, h2, if_true, if_false] <;> omega
theorem rowOf_turn (l : List Mt) (i : Int) : rowOf (turnM l) (turnM l) (turnM l) (turnM l) i = rowOf l l l l i := by
  have hp : ptsOf (turnM l) = ptsOf l := funext (ptsOf_turn l)
  unfold rowOf
  rw [hp]
  congr 1
  · exact ptsOf_turn l i
  · refine sumM_turn (fun m => ?_)
    simp only [wnM, Mt.turn]
    have e : 2 - (2 - m.score) = m.score := by omega
    simp only [e]
    exact Int.add_comm _ _
  · refine sumM_turn (fun m => ?_)
    obtain ⟨a, b, s, f⟩ := m
    cases f
    · simp [gmM, Mt.turn, Int.add_comm] <;> rfl
    · simp [gmM, Mt.turn]
  · refine sumM_turn (fun m => ?_)
    obtain ⟨a, b, s, f⟩ := m
    cases f
    · simp [agM, Mt.turn, Int.add_comm] <;> rfl
    · simp [agM, Mt.turn]
  · refine sumM_turn (fun m => ?_)
    obtain ⟨a, b, s, f⟩ := m
    have e : 2 - (2 - s) = s := by omega
    cases f
    · simp [stM, Mt.turn, Int.add_comm, e] <;> rfl
    · simp [stM, Mt.turn]
theorem rowsP_turn (n : Nat) (l : List Mt) : rowsP n (turnM l) = rowsP n l := by
  unfold rowsP rowsAt
  refine List.map_congr_left (fun i _ => ?_)
  exact rowOf_turn l _
theorem Mt.turn_ok {n : Int} {m : Mt} (h : m.ok n = true) : m.turn.ok n = true := by
  obtain ⟨h1, h2, h3, h4⟩ := Mt.ok_parts h
  simp only [Mt.ok, Mt.turn, Bool.and_eq_true, bne_iff_ne]
  exact ⟨⟨⟨inB_iff.2 h2, inB_iff.2 h1⟩, fun e => h3 e.symm⟩, inB_iff.2 (by omega)⟩

end Go.Proofs.Ytbjgigdkbjabaaa
