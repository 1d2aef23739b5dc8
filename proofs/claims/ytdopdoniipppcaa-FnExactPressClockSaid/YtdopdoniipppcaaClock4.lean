/- Clock4: the laws' own functions on clocks: counted, copied, equal, marked, held. Each contract holds for every argument, under the premises that it states. -/
import Derived.Test.YtdopdoniipppcaaClock3
namespace Go.Proofs.Ytdopdoniipppcaa
set_option linter.unusedSimpArgs false
set_option linter.unusedVariables false
set_option linter.unnecessarySimpa false
open Go.RowKit Go.ChangeShapes Go.WideShapes Go.ChangeAt Go.Joins

set_option maxHeartbeats 1000000 in
theorem markClock_c (base : Nat) (x : Ck) (a : Option Addr) (c : Nat) (k : Int) (w : World) (h : OwnI w base a c x.left) (hk : 0 ≤ k) (hk' : k + x.left.length ≤ 1099511627776) :
    Calls Try.prog 12 #[x.val a c, .int .i64 k] w fun e w' => e = .returned (.int .i64 (k + x.left.length)) ∧
      w'.ownsRow base 2 1 (.slice a x.left.length c) x.left.length ((marks k x.left.length).map (Value.int .i64)) ∧ w.grownBy w' (Value.slice a x.left.length c).ownBlock := by
  go_enter Try.func12, Try.ntmps12
  go_wp2_with fail
  refine (markInt64S_c base a x.left.length c x.left k _ (h.alloc _) hk hk').mono ?_
  rintro e w1 ⟨rfl, ho, hg⟩
  have HO := Lib.hid ho
  have HG := Lib.hid hg
  clear ho hg
  go_wp2
  go_ret
  exact ⟨rfl, HO.out, grown_trans (World.grownBy_alloc _ _ _) HG.out⟩

set_option maxHeartbeats 1000000 in
theorem heldClock_c (x : Ck) (a : Option Addr) (c : Nat) (k : Int) (w : World) (h : Ints w a (marks k x.left.length)) (hk : 0 ≤ k) (hk' : k + x.left.length ≤ 1099511627776) :
    Calls Try.prog 13 #[x.val a c, .int .i64 k] w fun e w' => e = .returned (.int .i64 (k + x.left.length)) ∧ Below w.heap.size w w' := by
  go_enter Try.func13, Try.ntmps13
  go_wp2_with fail
  refine (heldInt64S_c a x.left.length c k _ (h.below (below_alloc1 _ _) (Nat.le_refl _)) hk hk').mono ?_
  rintro e w1 ⟨rfl, rfl⟩
  go_wp2
  go_ret
  exact ⟨rfl, below_alloc1 _ _⟩

set_option maxHeartbeats 1000000 in
theorem szClock_c (x : Ck) (a : Option Addr) (c : Nat) (left : Int) (w : World) (hl : 0 ≤ left) (hl' : left ≤ 1048576) (hm : x.left.length ≤ maxLen) :
    Calls Try.prog 7 #[x.val a c, .int .i64 left] w fun e w' => e = .returned (.int .i64 (szI left x.left.length)) ∧ Below w.heap.size w w' := by
  go_enter Try.func7, Try.ntmps7
  go_wp2_with fail
  refine (szInt64S_c _ _ _ _ _ hl hl' hm).mono ?_
  rintro e w' ⟨rfl, rfl⟩
  by_cases h : szI left x.left.length < 0
  · have hs : szI left x.left.length = -1 := by
      unfold szI at h ⊢
      split
      · rfl
      · rename_i h'; rw [if_neg h'] at h; omega
    have HS := Lib.hid hs
    clear hs
    go_wp2
    go_ret
    exact ⟨by rw [HS.out]; rfl, below_alloc1 _ _⟩
  · go_wp2
    go_ret
    exact ⟨rfl, below_alloc1 _ _⟩

set_option maxHeartbeats 1000000 in
theorem eqClock_c (x y : Ck) (a b : Option Addr) (c d : Nat) (w : World) (hx : Ints w a x.left) (hy : Ints w b y.left) (m1 : x.left.length ≤ maxLen) (m2 : y.left.length ≤ maxLen) :
    Calls Try.prog 11 #[x.val a c, y.val b d] w fun e w' => e = .returned (.bool (decide (x = y))) ∧ Below w.heap.size w w' := by
  obtain ⟨xl, xi, xd, xp, xs, xr, xf⟩ := x
  obtain ⟨yl, yi, yd, yp, ys, yr, yf⟩ := y
  go_enter Try.func11, Try.ntmps11
  go_wp2_with fail
  refine (eqInt64S_c a b c d xl yl _ (hx.below (below_alloc2 _ _ _) (Nat.le_refl _)) (hy.below (below_alloc2 _ _ _) (Nat.le_refl _)) m1 m2).mono ?_
  rintro e w1 ⟨rfl, m, hw1⟩
  have hW1 : Below w.heap.size w w1 := by rw [hw1]; exact (below_alloc2 _ _ _).trans (below_draws _ _ _)
  obtain ⟨hc1, hf1⟩ := bcell (show Below _ _ w1 from hw1 ▸ below_draws _ _ m)
  simp only [World.size_alloc] at hc1 hf1
  clear hw1
  by_cases hl : xl = yl
  · subst hl
    go_wp2
    all_goals go_ret
    all_goals refine ⟨?_, hW1⟩
    all_goals first
      | (refine ret_bool (decide_eq_false (fun h => ?_)).symm; injection h; subst_vars; simp_all; done)
      | (refine ret_bool (decide_eq_true ?_).symm; simp_all; done)
  · have hd : decide (xl = yl) = false := decide_eq_false hl
    have HL := Lib.hid hl
    clear hl
    go_wp2
    go_ret
    exact ⟨by simp [HL.out], hW1⟩

end Go.Proofs.Ytdopdoniipppcaa
