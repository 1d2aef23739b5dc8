/- Srch3: a search within bounds: both functions. Each contract holds for every argument, under the premises that it states. -/
import Derived.Test.YtbjdfgfebepacaaSrch1
import Derived.Test.YtbjdfgfebepacaaSrS
namespace Go.Proofs.Ytbjdfgfebepacaa
set_option linter.unusedSimpArgs false
set_option linter.unusedVariables false
set_option linter.unnecessarySimpa false
open Go.RowKit Go.ChangeShapes Go.WideShapes Go.ChangeAt Go.Joins

set_option maxRecDepth 100000 in
set_option maxHeartbeats 8000000 in
theorem iSearchWindow_c (r : R) (p : P) (d lo hi : Int) (pa sa : Option Addr) (pc sc : Nat) (w : World) (h : PRow w p pa sa) (m1 : p.pits.length ≤ 16777216) (m2 : p.stores.length ≤ 16777216) (hc : p.pits.length ≤ pc) (hcm : pc ≤ maxLen) :
    Calls Try.prog 63 #[r.val, p.val pa pc sa sc, .int .i64 d, .int .i64 lo, .int .i64 hi] w fun e w' => e = .returned (.tuple #[.int .i64 (swinP r p d lo hi).1, .int .i64 (swinP r p d lo hi).2]) ∧ Below w.heap.size w w' := by
  have F0 := ((Fr.start w).alloc r.cells 25).alloc (p.cells pa pc sa sc) 67
  have HV := fun W (H : PRow W p pa sa) => ValidPosition_c r p pa sa pc sc W H m1 m2
  have HC := fun W (H : PRow W p pa sa) => searchCode_c r p d pa sa pc sc W H m1 m2 hc hcm
  obtain ⟨c, hcd⟩ : ∃ c, c = srchC r p d := ⟨_, rfl⟩
  rw [← hcd] at HC
  have HC := Lib.hid HC
  obtain ⟨y, hy⟩ : ∃ y, y = swinP r p d lo hi := ⟨_, rfl⟩
  rw [← hy]
  obtain ⟨b, hb⟩ : ∃ b, b = p.ok r := ⟨_, rfl⟩
  simp only [← hb] at HV
  have HV := Lib.hid HV
  by_cases hlh : b = true ∧ lo > hi
  · obtain ⟨h1, h2⟩ := hlh
    have HE : Hid (y = (0, 2)) := by unfold Hid; rw [hy, swinP, if_pos ⟨by rw [← hb]; exact h1, h2⟩]
    subst h1
    clear hcd hy hb
    go_enter Try.func63, Try.ntmps63
    go_wp2_with fail
    refine (HV.out _ (h.below F0.below (Nat.le_refl _))).mono ?_
    rintro e w1 ⟨rfl, hb1⟩
    have F1 := F0.step hb1
    clear hb1 F0
    go_wp2
    go_ret2
    rw [HE.out]
    exact ⟨rfl, F1.below⟩
  have HY : Hid (y = if c = 0 then (min (max (valueP r d.toNat p) lo) hi, 0) else (0, c)) := by
    unfold Hid
    rw [hy, swinP, if_neg (fun e => hlh ⟨by rw [hb]; exact e.1, e.2⟩), ← hcd]
  have HO : Hid (c = 0 → b = true) := fun e => by rw [hb]; exact (srchC_zero (by rw [← hcd]; exact e)).1
  have HVL : Hid (c = 0 → ∀ W (H : PRow W p pa sa), Calls Try.prog 147 #[r.val, p.val pa pc sa sc, .int .i64 d] W fun e w' => e = .returned (.int .i64 (valueP r d.toNat p)) ∧ Below W.heap.size W w') := fun e W H => by
    have h1 := vlOf_c r p d pa sa pc sc (by rw [← hcd]; exact e) hc hcm W H
    unfold svalP at h1
    rw [if_pos (by rw [← hcd]; exact e)] at h1
    exact h1
  obtain ⟨v, hv⟩ : ∃ v, v = valueP r d.toNat p := ⟨_, rfl⟩
  rw [← hv] at HY HVL
  clear hcd hy hv
  cases b
  · clear hlh hb
    have hc0 : ¬ c = 0 := fun e => by have := HO.out e; cases this
    have hz' : (c != 0) = true := by simpa using hc0
    have HE := Lib.hid (HY.out.trans (if_neg hc0))
    clear hc0
    go_enter Try.func63, Try.ntmps63
    go_wp2_with fail
    refine (HV.out _ (h.below F0.below (Nat.le_refl _))).mono ?_
    rintro e w1 ⟨rfl, hb1⟩
    have F1 := F0.step hb1
    obtain ⟨c0, c1, c2, c3, c4, c5, c6, c7, c8⟩ := R.boxc (F1.at 1 rfl)
    obtain ⟨e0, e1, e2⟩ := P.boxc (F1.at 0 rfl)
    have zA : w.heap.size < w1.heap.size := F1.le 1 rfl
    have zB : w.heap.size + 1 < w1.heap.size := by have := F1.le 0 rfl; simp at this; omega
    simp only [World.size_alloc] at e0 e1 e2
    clear hb1 F0
    go_wp2_with fail
    refine (HC.out _ (h.below F1.below (Nat.le_refl _))).mono ?_
    rintro e w2 ⟨rfl, hb2⟩
    have F2 := F1.step hb2
    clear hb2 F1
    go_wp2
    go_ret2
    rw [HE.out]
    exact ⟨rfl, F2.below⟩
  have hlh2 : ¬ lo > hi := fun e => hlh ⟨rfl, e⟩
  clear hlh hb HO
  by_cases hc0 : c = 0
  case neg =>
    have hz' : (c != 0) = true := by simpa using hc0
    have HE := Lib.hid (HY.out.trans (if_neg hc0))
    clear hc0
    go_enter Try.func63, Try.ntmps63
    go_wp2_with fail
    refine (HV.out _ (h.below F0.below (Nat.le_refl _))).mono ?_
    rintro e w1 ⟨rfl, hb1⟩
    have F1 := F0.step hb1
    obtain ⟨c0, c1, c2, c3, c4, c5, c6, c7, c8⟩ := R.boxc (F1.at 1 rfl)
    obtain ⟨e0, e1, e2⟩ := P.boxc (F1.at 0 rfl)
    have zA : w.heap.size < w1.heap.size := F1.le 1 rfl
    have zB : w.heap.size + 1 < w1.heap.size := by have := F1.le 0 rfl; simp at this; omega
    simp only [World.size_alloc] at e0 e1 e2
    clear hb1 F0
    go_wp2_with fail
    refine (HC.out _ (h.below F1.below (Nat.le_refl _))).mono ?_
    rintro e w2 ⟨rfl, hb2⟩
    have F2 := F1.step hb2
    clear hb2 F1
    go_wp2
    go_ret2
    rw [HE.out]
    exact ⟨rfl, F2.below⟩
  have hz' : (c != 0) = false := by simpa using hc0
  have HE := Lib.hid (HY.out.trans (if_pos hc0))
  have HVL2 := Lib.hid (HVL.out hc0)
  clear hc0 HVL HY
  go_enter Try.func63, Try.ntmps63
  go_wp2_with fail
  refine (HV.out _ (h.below F0.below (Nat.le_refl _))).mono ?_
  rintro e w1 ⟨rfl, hb1⟩
  have F1 := F0.step hb1
  obtain ⟨c0, c1, c2, c3, c4, c5, c6, c7, c8⟩ := R.boxc (F1.at 1 rfl)
  obtain ⟨e0, e1, e2⟩ := P.boxc (F1.at 0 rfl)
  have zA : w.heap.size < w1.heap.size := F1.le 1 rfl
  have zB : w.heap.size + 1 < w1.heap.size := by have := F1.le 0 rfl; simp at this; omega
  simp only [World.size_alloc] at e0 e1 e2
  clear hb1 F0
  go_wp2_with fail
  refine (HC.out _ (h.below F1.below (Nat.le_refl _))).mono ?_
  rintro e w2 ⟨rfl, hb2⟩
  have F2 := F1.step hb2
  obtain ⟨c0, c1, c2, c3, c4, c5, c6, c7, c8⟩ := R.boxc (F2.at 1 rfl)
  obtain ⟨e0, e1, e2⟩ := P.boxc (F2.at 0 rfl)
  have zA : w.heap.size < w2.heap.size := F2.le 1 rfl
  have zB : w.heap.size + 1 < w2.heap.size := by have := F2.le 0 rfl; simp at this; omega
  simp only [World.size_alloc] at e0 e1 e2
  clear hb2 F1
  go_wp2_with fail
  refine (HVL2.out _ (h.below F2.below (Nat.le_refl _))).mono ?_
  rintro e w3 ⟨rfl, hb3⟩
  have F3 := F2.step hb3
  clear hb3 F2 c0 c1 c2 c3 c4 c5 c6 c7 c8 e0 e1 e2
  by_cases hv1 : lo > v
  · have hv2 : ¬ hi < lo := by omega
    have HU : Hid (min (max v lo) hi = lo) := by unfold Hid; omega
    go_wp2
    go_ret2
    rw [HE.out, HU.out]
    exact ⟨rfl, F3.below⟩
  by_cases hv2 : hi < v
  · have HU : Hid (min (max v lo) hi = hi) := by unfold Hid; omega
    go_wp2
    go_ret2
    rw [HE.out, HU.out]
    exact ⟨rfl, F3.below⟩
  · have HU : Hid (min (max v lo) hi = v) := by unfold Hid; omega
    go_wp2
    go_ret2
    rw [HE.out, HU.out]
    exact ⟨rfl, F3.below⟩

theorem l00Max_c (m n : Int) (w : World) : Calls Try.prog 177 #[.int .i64 m, .int .i64 n] w fun e w' => e = .returned (.int .i64 (max m n)) ∧ w = w' := by
  go_enter Try.func177, Try.ntmps177
  go_wp2
  all_goals go_ret
  all_goals refine ⟨ret_int ?_, rfl⟩
  all_goals omega
theorem l00Min_c (m n : Int) (w : World) : Calls Try.prog 120 #[.int .i64 m, .int .i64 n] w fun e w' => e = .returned (.int .i64 (min m n)) ∧ w = w' := by
  go_enter Try.func120, Try.ntmps120
  go_wp2
  all_goals go_ret
  all_goals refine ⟨ret_int ?_, rfl⟩
  all_goals omega
end Go.Proofs.Ytbjdfgfebepacaa
