/- PosS: a position's text taken apart, in plain terms. Plain facts, under the premises that each names. -/
import Derived.Test.YtenjffoboiohnaaDoorPosX
namespace Go.Proofs.YtenjffoboiohnaaDoor
set_option linter.unusedSimpArgs false
set_option linter.unusedVariables false
set_option linter.unnecessarySimpa false
open Go.RowKit Go.ChangeShapes Go.WideShapes Go.ChangeAt Go.Joins

theorem posT_split {xs ys ss : List Int} {pl : Int} (hp : Num96 pl) (hx : ∀ x ∈ xs, Num96 x) (hy : ∀ x ∈ ys, Num96 x) (hs : ∀ x ∈ ss, Num96 x) : splitB 32 (posT xs ys ss pl) = [Lib.itoa pl, jc xs ++ 47 :: jc ys, jc ss] := by
  have e : posT xs ys ss pl = Lib.itoa pl ++ 32 :: ((jc xs ++ 47 :: jc ys) ++ 32 :: jc ss) := by simp [posT]
  rw [e, split_some (num_ok hp).1, split_some (noB_app (jc_no hx).1 (noB_cons (by decide) (jc_no hy).1)), split_none (jc_no hs).1]
theorem posT_cut {xs ys : List Int} (hx : ∀ x ∈ xs, Num96 x) : cutB 47 (jc xs ++ 47 :: jc ys) = (jc xs, jc ys, true) := cut_some (jc_no hx).2.1
theorem posT_len {xs ys ss : List Int} {pl : Int} (hp : Num96 pl) (hx : ∀ x ∈ xs, Num96 x) (hy : ∀ x ∈ ys, Num96 x) (hs : ∀ x ∈ ss, Num96 x) (h1 : xs.length ≤ 100) (h2 : ys.length ≤ 100) (h3 : ss.length ≤ 100) : (posT xs ys ss pl).length ≤ 1000 := by
  have a := (num_ok hp).2.2.2.1
  have b := (jc_no hx).2.2
  have c := (jc_no hy).2.2
  have d := (jc_no hs).2.2
  simp only [posT, List.length_append, List.length_cons, List.length_nil]
  omega
/-- turned twice: the position itself -/
theorem turn_turn {r : R} {p : P} (h : p.ok r = true) : turnP r (turnP r p) = p := by
  obtain ⟨xs, ys, s0, s1, e1, e2, e3, e4, e5, e6⟩ := turn_parts h
  rw [e6]
  have hk : r.pits.toNat = ys.length := by omega
  unfold turnP
  dsimp only
  rw [hk, List.drop_left, List.take_left]
  conv => rhs; rw [e1]
  congr 1
  omega

end Go.Proofs.YtenjffoboiohnaaDoor
