/- View2: ViewOf: both functions. Each contract holds for every argument, under the premises that it states. -/
import Derived.Test.YtbjgigdkbjabaaaView
import Derived.Test.YtbjgigdkbjabaaaLine
namespace Go.Proofs.Ytbjgigdkbjabaaa
set_option linter.unusedSimpArgs false
set_option linter.unusedVariables false
set_option linter.unnecessarySimpa false
open Go.RowKit Go.ChangeShapes Go.WideShapes Go.ChangeAt Go.Joins

def viewP (p : P) : P := if p.player = 1 then ⟨p.pits.drop (p.pits.length / 2) ++ p.pits.take (p.pits.length / 2), p.stores.reverse, 1 - p.player⟩ else p
theorem viewP_turn {r : R} {p : P} (h : p.ok r = true) (h1 : p.player = 1) : ∃ xs ys s0 s1, p = ⟨xs ++ ys, [s0, s1], p.player⟩ ∧ (xs.length : Int) = r.pits ∧ ys.length = xs.length ∧ 1 ≤ xs.length ∧ xs.length ≤ 1000 ∧ viewP p = ⟨ys ++ xs, [s1, s0], 1 - p.player⟩ := by
  obtain ⟨hb, _, t, hB, _⟩ := P.ok_parts h
  have b1 := hb.lo; have b2 := hb.hi; have b3 := hB.lp; have b4 := hB.ls
  obtain ⟨zs, ss, pl⟩ := p
  simp only at b3 b4 h1
  obtain ⟨s0, s1, rfl⟩ : ∃ a b, ss = [a, b] := by
    match ss, b4 with
    | [a, b], _ => exact ⟨a, b, rfl⟩
  have hd : zs.length / 2 = r.pits.toNat := by omega
  refine ⟨zs.take r.pits.toNat, zs.drop r.pits.toNat, s0, s1, by simp, ?_, ?_, ?_, ?_, ?_⟩
  · simp; omega
  · simp; omega
  · simp; omega
  · simp; omega
  · simp [viewP, h1, hd]
theorem viewP_own {p : P} (h : ¬ p.player = 1) : viewP p = p := if_neg h
theorem viewP_len {r : R} {p : P} (h : p.ok r = true) : (viewP p).pits.length ≤ 16 ∧ (viewP p).stores.length ≤ 16 := by
  have hl := P.ok_lens h
  unfold viewP
  split
  · simp; omega
  · exact hl
theorem P.ok_player {p : P} {r : R} (h : p.ok r = true) : p.player = 0 ∨ p.player = 1 := by
  obtain ⟨_, ⟨pn, h1, h2⟩, _⟩ := P.ok_parts h
  omega

end Go.Proofs.Ytbjgigdkbjabaaa
