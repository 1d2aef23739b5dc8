/- Few2: the standard rules in a box of their own; equal lists of texts. Each contract holds for every argument, under the premises that it states. -/
import Derived.Test.YtbjdfgfebepacaaFew
namespace Go.Proofs.Ytbjdfgfebepacaa
set_option linter.unusedSimpArgs false
set_option linter.unusedVariables false
set_option linter.unnecessarySimpa false
open Go.RowKit Go.ChangeShapes Go.WideShapes Go.ChangeAt Go.Joins

set_option maxRecDepth 100000 in
set_option maxHeartbeats 4000000 in
theorem iStandardRules_c (k : Nat) (hk : k < 4) (w : World) : Calls Try.prog 22 #[.string (stdN k)] w fun e w' => e = .returned (.tuple #[(stdR k).val, .int .i64 0]) ∧ Below w.heap.size w w' := by
  have R0 := Bx.alloc w #[.int .i64 0, .int .i64 0, .bool false, .bool false, .bool false, .bool false, .bool false, .int .i64 0, .int .i64 0] 25 rfl
  have HS := Lib.hid (standard_c k hk (w.alloc (.cells #[.int .i64 0, .int .i64 0, .bool false, .bool false, .bool false, .bool false, .bool false, .int .i64 0, .int .i64 0] 25)))
  have hp0 : ((stdR k).pits == 0) = false := by
    have := (R.ok_iff.1 (std_drawn k hk).1).1.1
    have h2 : ¬ (stdR k).pits = 0 := by omega
    simpa using h2
  obtain ⟨y, hy⟩ : ∃ y, y = stdR k := ⟨_, rfl⟩
  rw [← hy] at HS hp0 ⊢
  have hp := hp0
  clear hy
  go_enter Try.func22, Try.ntmps22
  go_wp2_with fail
  refine HS.out.mono ?_
  rintro e w1 ⟨rfl, hb1⟩
  have z1 : w.heap.size < w1.heap.size := by have := hb1.size; simp at this; omega
  have R1 := R0.below hb1 (by simp)
  have B1 := Lib.hid ((below_alloc1 w (.cells #[.int .i64 0, .int .i64 0, .bool false, .bool false, .bool false, .bool false, .bool false, .int .i64 0, .int .i64 0] 25)).trans (hb1.mono (by simp)))
  obtain ⟨r0, r1, r2, r3, r4, r5, r6, r7, r8⟩ := (⟨R1.box 0 _ rfl, R1.box 1 _ rfl, R1.box 2 _ rfl, R1.box 3 _ rfl, R1.box 4 _ rfl, R1.box 5 _ rfl, R1.box 6 _ rfl, R1.box 7 _ rfl, R1.box 8 _ rfl⟩ : _ ∧ _ ∧ _ ∧ _ ∧ _ ∧ _ ∧ _ ∧ _ ∧ _)
  have gz := R1.free
  clear hb1 R0 R1 HS
  go_wp2_with fail
  refine bodyPost_ret (v := .tuple #[R.val y, .int .i64 0]) (by simp [results, Try.results22, go_sem, R.val, R.cells, r0, r1, r2, r3, r4, r5, r6, r7, r8, gz, z1]) rfl ⟨rfl, ?_⟩
  have k0 := B1.out
  repeat (first | (with_reducible exact k0) | ((with_reducible refine Below.setCell ?_ ?_ _); rotate_left; (simp <;> omega)) | ((with_reducible refine Below.alloc ?_ ?_ _); rotate_left; (first | omega | (simp <;> omega))))

theorem f6bigF_c (ca : Option Addr) (n cc : Nat) (w : World) (hn : n ≤ maxLen) :
    Calls Try.prog 12 #[.slice ca n cc] w fun e w' => e = .returned (.bool (decide (4096 < (n : Int)))) ∧ w = w' := by
  unfold maxLen at hn
  by_cases h1 : 4096 < (n : Int)
  · go_enter Try.func12, Try.ntmps12
    go_wp2
    go_ret
    exact ⟨by first | rfl | (rw [decide_eq_true h1]; rfl), rfl⟩
  · go_enter Try.func12, Try.ntmps12
    go_wp2
    go_ret
    exact ⟨by first | rfl | (rw [decide_eq_false (by omega)]; rfl), rfl⟩

set_option maxHeartbeats 4000000 in
theorem f6texts_c (xs : List ByteArray) (a b : Option Addr) (c d : Nat) (w : World) (ha : Row w a (xs.map Value.string)) (hb : Row w b (xs.map Value.string)) (hm : xs.length ≤ 1000) :
    Calls Try.prog 21 #[.slice a xs.length c, .slice b xs.length d] w fun e w' => e = .returned (.bool true) ∧ Below w.heap.size w w' := by
  have HA := Lib.hid ha
  have HB := Lib.hid hb
  clear ha hb
  go_enter Try.func21, Try.ntmps21
  go_wp2
  go_loopw [5] (fun i wr => ∃ (k n : Nat), k ≤ xs.length ∧ i = .int .i64 k ∧ wr = w.drewN n) (fun i _ => xs.length - (intOf i).toNat)
  case atStart => exact ⟨0, 0, Nat.zero_le _, rfl, rfl⟩
  case round =>
    obtain ⟨k, n, hk, rfl, rfl⟩ := hrel
    by_cases hlt : k < xs.length
    · obtain ⟨ab, ao, e1, hc1⟩ := HA.out k (.string xs[k]) (by simp [hlt])
      obtain ⟨bb, bo, e2, hc2⟩ := HB.out k (.string xs[k]) (by simp [hlt])
      have hki : (k : Int) < (xs.length : Int) := by omega
      subst e1
      subst e2
      go_wp2
      go_quiet (fail)
      go_wp2
      go_roundw
      case rel => exact ⟨k + 1, _, by omega, by go_num, rfl⟩
      case measure => (simp [intOf]; omega)
    · have hki : ¬ (k : Int) < (xs.length : Int) := by omega
      go_wp2
      go_ret
      exact ⟨rfl, below_draws _ _ n⟩

end Go.Proofs.Ytbjdfgfebepacaa
