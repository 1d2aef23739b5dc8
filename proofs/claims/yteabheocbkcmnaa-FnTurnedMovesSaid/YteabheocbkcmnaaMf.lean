/- Mf: why a move is not legal: both functions. Each contract holds for every argument, under the premises that it states. -/
import Derived.Test.YteabheocbkcmnaaDone
import Derived.Test.YteabheocbkcmnaaSMake
namespace Go.Proofs.Yteabheocbkcmnaa
set_option linter.unusedSimpArgs false
set_option linter.unusedVariables false
set_option linter.unnecessarySimpa false
open Go.RowKit Go.ChangeShapes Go.WideShapes Go.ChangeAt Go.Joins

theorem makeP_code (r : R) (p : P) (move : Int) : (makeP r p move).code = (doneP r p move).code := by
  unfold makeP makeL
  split
  · rename_i h; simp [h]
  · rfl
theorem doneP_zero {r : R} {p : P} {move : Int} (h : (doneP r p move).code = 0) : codeP r p move = 0 ∧ ∃ L n, sowP r p.player (p.player * r.pits + move) p.pits p.stores = some (L, n) := by
  by_cases hc : codeP r p move = 0
  · refine ⟨hc, ?_⟩
    cases ho : sowP r p.player (p.player * r.pits + move) p.pits p.stores with
    | none =>
      rw [doneP_bad (c := 10) (by omega) (.inr ⟨hc, ho, rfl⟩)] at h
      cases h
    | some x => exact ⟨x.1, x.2, rfl⟩
  · rw [doneP_bad hc (.inl rfl)] at h
    exact absurd h hc
theorem DoneRes.below {w w' : World} {d : Done} {e : Ending} (h : DoneRes w d e w') : Below w.heap.size w w' := by
  obtain ⟨_, _, _, _, _, _, hb⟩ := h; exact hb
theorem MkRes.below {w w' : World} {m : Mk} {e : Ending} (h : MkRes w m e w') : Below w.heap.size w w' := by
  obtain ⟨_, _, _, _, _, _, hb⟩ := h; exact hb

set_option maxHeartbeats 4000000 in
theorem iMoveFault_c (r : R) (p : P) (move : Int) (pa sa : Option Addr) (pc sc : Nat) (w : World) (h : PRow w p pa sa) (m1 : p.pits.length ≤ 16777216) (m2 : p.stores.length ≤ 16777216) (hc : p.pits.length ≤ pc) (hcm : pc ≤ maxLen) :
    Calls Try.prog 63 #[r.val, p.val pa pc sa sc, .int .i64 move] w fun e w' => e = .returned (.int .i64 (doneP r p move).code) ∧ Below w.heap.size w w' := by
  have F0 := ((Fr.start w).alloc r.cells 24).alloc (p.cells pa pc sa sc) 27
  obtain ⟨d, hd⟩ : ∃ d, d = doneP r p move := ⟨_, rfl⟩
  have HC := Lib.hid (fun W (H : PRow W p pa sa) => done_c r p move pa sa pc sc W H m1 m2 hc hcm)
  rw [← hd] at HC ⊢
  clear hd
  go_enter Try.func63, Try.ntmps63
  go_wp2_with fail
  refine (HC.out _ (h.below F0.below (Nat.le_refl _))).mono ?_
  rintro e w1 ⟨ua, uc, va, vc, rfl, ho, hb1⟩
  have F1 := F0.step hb1
  have BW := F1.below
  have hz := F1.below.size
  clear ho hb1 F0 F1
  go_wp2
  go_ret
  refine ⟨rfl, ?_⟩
  repeat (first | (with_reducible exact BW) | ((with_reducible refine Below.setCell ?_ ?_ _); rotate_left; (simp <;> omega)) | ((with_reducible refine Below.alloc ?_ ?_ _); rotate_left; (first | omega | (simp <;> omega))))

end Go.Proofs.Yteabheocbkcmnaa
