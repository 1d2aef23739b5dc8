/- Tab9: rows of a table, sorted by the library. Each contract holds for every argument, under the premises that it states. -/
import Derived.Test.YtbjgigdkbjabaaaTab8
namespace Go.Proofs.Ytbjgigdkbjabaaa
set_option linter.unusedSimpArgs false
set_option linter.unusedVariables false
set_option linter.unnecessarySimpa false
open Go.RowKit Go.ChangeShapes Go.WideShapes Go.ChangeAt Go.Joins

set_option maxRecDepth 100000 in
set_option maxHeartbeats 8000000 in
theorem stable_c (lo hi ob g c : Nat) (l : List Rw) (w : World) (h : RsSt w lo hi ob g c l) (hl : 1 ≤ l.length ∧ l.length ≤ 12) (hhi : hi ≤ w.heap.size) :
    Calls Try.prog 141 #[.agg #[.func (.func 93) #[] (capR ob), .func (.func 172) #[] (swB g l.length c)], .int .i64 l.length] w fun e w' => e = .returned (.tuple #[]) ∧ RsSt w' lo hi ob g c (srtR l) ∧ ∃ W0, Below w.heap.size w W0 ∧ Chg lo hi W0 w' := by
  have FB := (Fr.start w).alloc #[.func (.func 93) #[] (capR ob), .func (.func 172) #[] (swB g l.length c)] 188
  obtain ⟨W0, hW0⟩ : ∃ W, W = w.alloc (.cells #[.func (.func 93) #[] (capR ob), .func (.func 172) #[] (swB g l.length c)] 188) := ⟨_, rfl⟩
  rw [← hW0] at FB
  have HC := Lib.hid (insSort_c lo hi ob g c l W0 (h.below FB.below) hl (Nat.le_trans hhi FB.below.size))
  have HF := Lib.hid FB
  have HW0 := Lib.hid hW0
  have d0 := FB.at 0 rfl 0 _ rfl
  have d1 := FB.at 0 rfl 1 _ rfl
  obtain ⟨hl1, hl2⟩ := hl
  have hlI : ¬ (20 : Int) ≤ (l.length : Int) := by omega
  have hlJ : ¬ (20 : Int) < (l.length : Int) := by omega
  clear FB hW0 h hhi
  go_enter Try.func141, Try.ntmps141
  go_wp2_with fail
  rw [← HW0.out]
  clear HW0
  refine wp_loop_rounds 1 ?_
  rw [rounds_succ]
  go_wp2_with fail
  refine HC.out.mono ?_
  rintro e w3 ⟨rfl, hst, V, hV, hc⟩
  have HE : Hid (RsSt w3 lo hi ob g c (srtR l) ∧ ∃ W0, Below w.heap.size w W0 ∧ Chg lo hi W0 w3) := ⟨hst, V, HF.out.below.trans (hV.mono HF.out.below.size), hc⟩
  clear hst hV hc d0 d1
  go_wp2_with fail
  refine wp_loop_rounds 1 ?_
  rw [rounds_succ]
  go_wp2
  go_end0
  exact ⟨rfl, HE.out⟩

end Go.Proofs.Ytbjgigdkbjabaaa
