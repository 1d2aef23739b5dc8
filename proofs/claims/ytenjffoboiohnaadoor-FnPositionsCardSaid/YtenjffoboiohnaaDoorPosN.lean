/- PosN: a position's text in plain terms. Plain facts, under the premises that each names. -/
import Derived.Test.YtenjffoboiohnaaDoorNum
namespace Go.Proofs.YtenjffoboiohnaaDoor
set_option linter.unusedSimpArgs false
set_option linter.unusedVariables false
set_option linter.unnecessarySimpa false
open Go.RowKit Go.ChangeShapes Go.WideShapes Go.ChangeAt Go.Joins

def noB (c : UInt8) (l : List UInt8) : Prop := ∀ b ∈ l, b ≠ c
theorem noB_app {c : UInt8} {p q : List UInt8} (h : noB c p) (k : noB c q) : noB c (p ++ q) := fun b hb => (List.mem_append.1 hb).elim (h b) (k b)
theorem noB_cons {c x : UInt8} {p : List UInt8} (h : x ≠ c) (k : noB c p) : noB c (x :: p) := fun b hb => (List.mem_cons.1 hb).elim (fun e => e ▸ h) (k b)
theorem cut_none {c : UInt8} : ∀ {p : List UInt8}, noB c p → cutB c p = (p, [], false)
  | [], _ => rfl
  | x :: p, h => by
    have e : cutB c (x :: p) = if x = c then ([], p, true) else (x :: (cutB c p).1, (cutB c p).2.1, (cutB c p).2.2) := rfl
    rw [e, if_neg (h x (List.mem_cons_self ..)), cut_none (fun b hb => h b (List.mem_cons_of_mem _ hb))]
theorem cut_some {c : UInt8} {q : List UInt8} : ∀ {p : List UInt8}, noB c p → cutB c (p ++ c :: q) = (p, q, true)
  | [], _ => by
    have e : cutB c (c :: q) = if c = c then ([], q, true) else (c :: (cutB c q).1, (cutB c q).2.1, (cutB c q).2.2) := rfl
    rw [List.nil_append, e, if_pos rfl]
  | x :: p, h => by
    have e : cutB c (x :: (p ++ c :: q)) = if x = c then ([], p ++ c :: q, true) else (x :: (cutB c (p ++ c :: q)).1, (cutB c (p ++ c :: q)).2.1, (cutB c (p ++ c :: q)).2.2) := rfl
    rw [List.cons_append, e, if_neg (h x (List.mem_cons_self ..)), cut_some (fun b hb => h b (List.mem_cons_of_mem _ hb))]
theorem split_none {c : UInt8} {p : List UInt8} (h : noB c p) : splitB c p = [p] := by
  rw [splitB_cut, cut_none h]
  rfl
theorem split_some {c : UInt8} {p q : List UInt8} (h : noB c p) : splitB c (p ++ c :: q) = p :: splitB c q := by
  rw [splitB_cut, cut_some h]
  rfl
/-- numbers that positions hold -/
def Num96 (x : Int) : Prop := 0 ≤ x ∧ x ≤ 96
def dig2 (n : Nat) : List UInt8 := if n < 10 then [UInt8.ofNat (48 + n)] else [UInt8.ofNat (48 + n / 10), UInt8.ofNat (48 + n % 10)]
theorem dig2_eq {n : Nat} (h : n < 100) : Lib.decDigits n = dig2 n := by
  unfold dig2
  by_cases h1 : n < 10
  · rw [if_pos h1, Lib.decDigits, dif_pos h1]
  · rw [if_neg h1, Lib.decDigits, dif_neg h1, Lib.decDigits, dif_pos (by omega)]
    rfl
theorem dig2_ok : ∀ n : Nat, n < 100 → (∀ c ∈ dig2 n, c ≠ 32 ∧ c ≠ 44 ∧ c ≠ 47) ∧ ¬ (dig2 n).head? = some 45 ∧ (dig2 n).all digB = true ∧ valB (dig2 n) = n ∧ 0 < (dig2 n).length ∧ (dig2 n).length ≤ 2 := by decide
theorem num_ok {x : Int} (h : Num96 x) : noB 32 (Lib.itoa x) ∧ noB 44 (Lib.itoa x) ∧ noB 47 (Lib.itoa x) ∧ (Lib.itoa x).length ≤ 2 ∧ rdP (Lib.itoa x) = (x, true) := by
  obtain ⟨n, rfl⟩ : ∃ n : Nat, x = (n : Int) := ⟨x.toNat, by have := h.1; omega⟩
  have hn : n < 100 := by have := h.2; omega
  obtain ⟨h1, h2, h3, h4, h5, h6⟩ := dig2_ok n hn
  rw [itoa_nat, dig2_eq hn]
  refine ⟨fun c hc => (h1 c hc).1, fun c hc => (h1 c hc).2.1, fun c hc => (h1 c hc).2.2, h6, ?_⟩
  unfold rdP rdT
  rw [if_neg h2, if_neg (by omega), if_pos h3, h4]
  simp only [Bool.false_eq_true, if_false]
  rw [if_pos (by rw [itoa_nat, dig2_eq hn])]
/-- numbers with commas between them -/
def jc : List Int → List UInt8
  | [] => []
  | [x] => Lib.itoa x
  | x :: y :: l => Lib.itoa x ++ 44 :: jc (y :: l)
theorem jc_snoc (x : Int) : ∀ l : List Int, jc (l ++ [x]) = if l = [] then Lib.itoa x else jc l ++ 44 :: Lib.itoa x
  | [] => rfl
  | [y] => by simp [jc]
  | y :: z :: l => by
    have := jc_snoc x (z :: l)
    rw [if_neg (by simp)] at this ⊢
    simp only [List.cons_append, jc] at this ⊢
    rw [this]
    simp
theorem jc_no {l : List Int} (h : ∀ x ∈ l, Num96 x) : noB 32 (jc l) ∧ noB 47 (jc l) ∧ (jc l).length ≤ 3 * l.length := by
  induction l with
  | nil => exact ⟨fun b hb => (by cases hb), fun b hb => (by cases hb), by simp [jc]⟩
  | cons x l ih =>
    obtain ⟨a1, a2, a3, a4, _⟩ := num_ok (h x (List.mem_cons_self ..))
    obtain ⟨b1, b2, b3⟩ := ih (fun y hy => h y (List.mem_cons_of_mem _ hy))
    cases l with
    | nil => exact ⟨a1, a3, by simp [jc]; omega⟩
    | cons y l =>
      refine ⟨noB_app a1 (noB_cons (by decide) b1), noB_app a3 (noB_cons (by decide) b2), ?_⟩
      simp only [jc, List.length_append, List.length_cons] at b3 ⊢
      omega
theorem jc_cut {xs : List Int} {k : Nat} (hk : k < xs.length) (h : ∀ x ∈ xs, Num96 x) : cutB 44 (jc (xs.drop k)) = (Lib.itoa xs[k], jc (xs.drop (k + 1)), decide (k + 1 < xs.length)) := by
  have hx := num_ok (h xs[k] (List.getElem_mem hk))
  rw [List.drop_eq_getElem_cons hk]
  by_cases h1 : k + 1 < xs.length
  · rw [List.drop_eq_getElem_cons h1, decide_eq_true h1]
    exact cut_some hx.2.1
  · rw [List.drop_eq_nil_of_le (by omega), decide_eq_false h1]
    exact cut_none hx.2.1

end Go.Proofs.YtenjffoboiohnaaDoor
