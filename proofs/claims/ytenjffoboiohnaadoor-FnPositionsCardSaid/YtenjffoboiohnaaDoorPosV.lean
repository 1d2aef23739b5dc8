/- PosV: what the law on positions says, in plain terms. Plain facts, under the premises that each names. -/
import Derived.Test.YtenjffoboiohnaaDoorPosQ
import Derived.Test.YtenjffoboiohnaaDoorSlimD
namespace Go.Proofs.YtenjffoboiohnaaDoor
set_option linter.unusedSimpArgs false
set_option linter.unusedVariables false
set_option linter.unnecessarySimpa false
open Go.RowKit Go.ChangeShapes Go.WideShapes Go.ChangeAt Go.Joins

theorem allIn_app {a b : List Int} : allIn (a ++ b) = (allIn a && allIn b) := by simp [allIn]
theorem turn_ok {r : R} {p : P} (h : p.ok r = true) : (turnP r p).ok r = true := by
  obtain ⟨xs, ys, s0, s1, e1, e2, e3, e4, e5, e6⟩ := turn_parts h
  have hp := P.ok_player h
  rw [e6]
  rw [e1] at h
  simp only [P.ok, Bool.and_eq_true, decide_eq_true_eq, List.length_append, List.sum_append, allIn_app] at h ⊢
  obtain ⟨⟨⟨⟨⟨⟨h1, h2⟩, h3⟩, h4⟩, h5⟩, h6⟩, h7⟩ := h
  refine ⟨⟨⟨⟨⟨⟨h1, by omega⟩, rfl⟩, inB_iff.2 (by omega)⟩, ⟨h5.2, h5.1⟩⟩, ?_⟩, ?_⟩
  · simp [allIn] at h6 ⊢
    exact ⟨h6.2, h6.1⟩
  · simp at h7 ⊢
    omega
theorem view_eq {r : R} {p : P} (h : p.ok r = true) : viewP p = if p.player = 1 then turnP r p else p := by
  split
  · next h1 =>
    obtain ⟨xs, ys, s0, s1, e1, e2, e3, e4, e5, e6⟩ := turn_parts h
    obtain ⟨xs', ys', t0, t1, f1, f2, f3, f4, f5, f6⟩ := viewP_turn h h1
    have hp : (⟨xs ++ ys, [s0, s1], p.player⟩ : P) = ⟨xs' ++ ys', [t0, t1], p.player⟩ := e1.symm.trans f1
    simp only [P.mk.injEq, List.cons.injEq, and_true] at hp
    obtain ⟨hp1, hp2, hp3⟩ := hp
    have hl : xs.length = xs'.length := by omega
    obtain ⟨rfl, rfl⟩ := List.append_inj hp1 hl
    rw [e6, f6, hp2, hp3]
  · next h1 => exact viewP_own h1
theorem view_turn {r : R} {p : P} (h : p.ok r = true) : viewP (turnP r p) = viewP p ∧ (viewP p).player = 0 := by
  have hp := P.ok_player h
  have ht := turn_ok h
  have htp : (turnP r p).player = 1 - p.player := rfl
  rw [view_eq ht, view_eq h, htp]
  rcases hp with hp | hp
  · rw [if_pos (by omega), if_neg (by omega), turn_turn h]
    exact ⟨rfl, hp⟩
  · rw [if_neg (by omega), if_pos hp]
    exact ⟨rfl, by rw [htp]; omega⟩
theorem side_parts {r : R} {p : P} (h : p.ok r = true) : sideP r p.pits 0 + sideP r p.pits 1 = sumO p.pits ∧ sideP r (turnP r p).pits 0 = sideP r p.pits 1 ∧ (0 ≤ sideP r p.pits 0 ∧ sideP r p.pits 0 ≤ 96) ∧ (0 ≤ sideP r p.pits 1 ∧ sideP r p.pits 1 ≤ 96) := by
  obtain ⟨xs, ys, s0, s1, e1, e2, e3, e4, e5, e6⟩ := turn_parts h
  obtain ⟨hb, _, t, hB, ht0, ht⟩ := P.ok_parts h
  have hap : allIn p.pits = true := List.all_eq_true.2 (fun n hn => inB_iff.2 (hB.bp ht n hn))
  have hnx : nn xs := fun n hn => hB.np n (by rw [e1]; exact List.mem_append_left _ hn)
  have hny : nn ys := fun n hn => hB.np n (by rw [e1]; exact List.mem_append_right _ hn)
  have hsum := hB.sm
  have hs := nn_sum hB.ns
  have x0 := nn_sum hnx
  have y0 := nn_sum hny
  have hk : r.pits.toNat = xs.length := by omega
  have hpp : p.pits = xs ++ ys := congrArg P.pits e1
  rw [hpp] at hsum hap
  rw [List.sum_append] at hsum
  have f0 : sideP r (xs ++ ys) 0 = xs.sum := by
    unfold sideP
    rw [hk]
    simp
  have f1 : sideP r (xs ++ ys) 1 = ys.sum := by
    unfold sideP
    rw [Int.one_mul, hk, List.drop_left, ← e3, List.take_length]
  have f2 : sideP r (turnP r p).pits 0 = ys.sum := by
    rw [e6]
    unfold sideP
    dsimp only
    rw [hk, ← e3]
    simp
  rw [hpp, f0, f1, f2]
  refine ⟨?_, rfl, ⟨x0, by omega⟩, ⟨y0, by omega⟩⟩
  unfold sumO
  rw [if_pos hap, List.sum_append]

end Go.Proofs.YtenjffoboiohnaaDoor
