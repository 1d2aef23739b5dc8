/- Clock3: a clock is started: both sides return the same. Each contract holds for every argument, under the premises that it states. -/
import Derived.Test.YtbjdfgfebepacaaClock2
namespace Go.Proofs.Ytbjdfgfebepacaa
set_option linter.unusedSimpArgs false
set_option linter.unusedVariables false
set_option linter.unnecessarySimpa false
open Go.RowKit Go.ChangeShapes Go.WideShapes Go.ChangeAt Go.Joins

set_option maxHeartbeats 2000000 in
theorem iStartClock_c (x : Ck) (a : Option Addr) (c : Nat) (now : Int) (w : World) (h : Ints w a x.left) (hm : x.left.length ≤ 16777216) :
    Calls Try.prog 44 #[x.val a c, .int .i64 now] w (CkRes w (startCk x now)) := by
  go_enter Try.func44, Try.ntmps44
  go_wp2_with fail
  refine (ValidClock_c x a c _ (h.below (below_alloc2 _ _ _) (Nat.le_refl _)) (by unfold maxLen; omega)).mono ?_
  rintro e w1 ⟨rfl, hb1⟩
  have hW1 : Below w.heap.size w w1 := below_next (below_alloc2 _ _ _) hb1
  obtain ⟨hc1, hf1⟩ := bcell hb1
  simp only [World.size_alloc] at hc1 hf1
  have hz1b : w.heap.size + 1 < w1.heap.size := by have := hb1.size; simp at this; omega
  have hz1a : w.heap.size < w1.heap.size := by omega
  cases hok : x.ok
  · have HP := Lib.hid (show startCk x now = (Ck.zero, 1) by simp [startCk, Ck.code, hok])
    clear hok
    go_wp2
    refine bodyPost_ret (v := .tuple #[Ck.zero.val none 0, .int .i64 1]) (by simp [results, Try.results44, go_sem, hc1, hz1b, Ck.val, Ck.cells, Ck.zero]) rfl ?_
    unfold CkRes
    rw [HP.out]
    refine ⟨none, 0, rfl, ownI_nil _ _, ?_⟩
    repeat (first | (with_reducible exact hW1) | ((with_reducible refine Below.setCell ?_ ?_ _); rotate_left; (simp <;> omega)))
  have HK := Lib.hid hok
  clear hok
  go_wp2_with fail
  refine (isNow_c x a c now _).mono ?_
  rintro e w2 ⟨rfl, hb2⟩
  have hW2 : Below w.heap.size w w2 := below_next hW1 hb2
  obtain ⟨hc2, hf2⟩ := bcell hb2
  have hz2b : w.heap.size + 1 < w2.heap.size := by have := hb2.size; omega
  have hz2a : w.heap.size < w2.heap.size := by omega
  cases hnow : inB now x.since 36000000
  · have HP := Lib.hid (show startCk x now = (Ck.zero, 2) by simp [startCk, Ck.code, HK.out, hnow])
    clear hnow
    go_wp2
    refine bodyPost_ret (v := .tuple #[Ck.zero.val none 0, .int .i64 2]) (by simp [results, Try.results44, go_sem, hc1, hc2, hz1a, hz1b, hz2b, Ck.val, Ck.cells, Ck.zero]) rfl ?_
    unfold CkRes
    rw [HP.out]
    refine ⟨none, 0, rfl, ownI_nil _ _, ?_⟩
    repeat (first | (with_reducible exact hW2) | ((with_reducible refine Below.setCell ?_ ?_ _); rotate_left; (simp <;> omega)))
  have HN := Lib.hid hnow
  clear hnow
  by_cases hrf : x.running = true ∨ x.fallen = true
  · have HP := Lib.hid (show startCk x now = (Ck.zero, 6) by rcases hrf with h | h <;> simp [startCk, Ck.code, HK.out, HN.out, h])
    obtain ⟨xl, xi, xd, xp, xs, xr, xf⟩ := x
    simp only at hrf
    cases xr <;> cases xf
    case false.false => simp at hrf
    all_goals
      clear hrf
      go_wp2
      refine bodyPost_ret (v := .tuple #[Ck.zero.val none 0, .int .i64 6]) (by simp [results, Try.results44, go_sem, hc1, hc2, hz1a, hz1b, hz2b, Ck.val, Ck.cells, Ck.zero]) rfl ?_
      unfold CkRes
      rw [HP.out]
      refine ⟨none, 0, rfl, ownI_nil _ _, ?_⟩
      repeat (first | (with_reducible exact hW2) | ((with_reducible refine Below.setCell ?_ ?_ _); rotate_left; (simp <;> omega)))
  · obtain ⟨xl, xi, xd, xp, xs, xr, xf⟩ := x
    simp at hrf
    obtain ⟨rfl, rfl⟩ := hrf
    have HP := Lib.hid (show startCk ⟨xl, xi, xd, xp, xs, false, false⟩ now = (⟨xl, xi, xd, xp, now, true, false⟩, 0) by simp [startCk, Ck.code, HK.out]; have := HN.out; simp at this; simp [this])
    go_wp2_with fail
    refine (ckCopied_c ⟨xl, xi, xd, xp, xs, false, false⟩ a c _ (h.below hW2 (Nat.le_refl _)) hm).mono ?_
    rintro e w3 ⟨a', c', rfl, ho3, hb3⟩
    have hW3 : Below w.heap.size w w3 := below_next hW2 hb3
    obtain ⟨hc3, hf3⟩ := bcell hb3
    have hz3b : w.heap.size + 1 < w3.heap.size := by have := hb3.size; omega
    have hz3a : w.heap.size < w3.heap.size := by omega
    have HO := Lib.hid ho3
    clear ho3
    go_wp2
    refine bodyPost_ret (v := .tuple #[(Ck.mk xl xi xd xp now true false).val a' c', .int .i64 0]) (by simp [results, Try.results44, go_sem, hc1, hc2, hc3, hz1a, hz1b, hz2b, hz3b, Ck.val, Ck.cells]) rfl ?_
    unfold CkRes
    rw [HP.out]
    refine ⟨a', c', rfl, ?_, ?_⟩
    · have k0 := HO.out
      refine ownsRow_le (base := w2.heap.size) ?_ (by omega)
      repeat (first | (with_reducible exact k0) | (with_reducible refine World.ownsRow.alloc ?_ _) | ((with_reducible refine ownsRow_setCell_below ?_ ?_ _); rotate_left; (simp <;> omega)))
    · repeat (first | (with_reducible exact hW3) | ((with_reducible refine Below.alloc ?_ ?_ _); rotate_left; (simp <;> omega)) | ((with_reducible refine Below.setCell ?_ ?_ _); rotate_left; (simp <;> omega)))

theorem ckAt_lit (x : Ck) (a : Option Addr) (c : Nat) (w : World) (e : TypeId) (o : Obj) : Ck.At ((w.alloc (.cells (x.cells a c) e)).alloc o) w.heap.size 0 x a c := by
  constructor <;> simp [Ck.cells]
set_option maxHeartbeats 2000000 in
theorem sStartClock_c (x : Ck) (a : Option Addr) (c : Nat) (now : Int) (w : World) (h : Ints w a x.left) (hm : x.left.length ≤ 16777216) :
    Calls Try.prog 45 #[x.val a c, .int .i64 now] w (CkRes w (startCk x now)) := by
  have hat := fun o => ckAt_lit x a c w 53 o
  go_enter Try.func45, Try.ntmps45
  go_wp2_with fail
  refine (l23Code_c w.heap.size 0 x a c now false _ (hat _) (h.below (below_alloc2 _ _ _) (Nat.le_refl _)) (by unfold maxLen; omega)).mono ?_
  rintro e w1 ⟨rfl, m, hw1⟩
  have hW1 : Below w.heap.size w w1 := by rw [hw1]; exact (below_alloc2 _ _ _).trans (below_draws _ _ _)
  have hb1 := bcell (show Below _ _ w1 from hw1 ▸ below_draws _ _ m)
  obtain ⟨hc1, hf1⟩ := hb1
  simp only [World.size_alloc] at hc1 hf1
  have hz1b : w.heap.size + 1 < w1.heap.size := by rw [hw1]; simp
  have hz1a : w.heap.size < w1.heap.size := by omega
  clear hw1
  by_cases hcode : x.code now false = 0
  · have HP := Lib.hid (show startCk x now = ({ x with running := true, since := now }, 0) by simp [startCk, hcode])
    rw [hcode]
    clear hcode
    have hat1 : Ck.At w1 w.heap.size 0 x a c := by
      constructor <;> (rw [hc1 _ _ (by omega)]; simp [Ck.cells])
    go_wp2_with fail
    refine (l23Own_c w.heap.size 0 x a c _ hat1 hz1a (h.below hW1 (Nat.le_refl _)) hm).mono ?_
    rintro e w3 ⟨a', c', rfl, ho3, hb3⟩
    have hW3 : Below w.heap.size w w3 := below_next hW1 hb3
    obtain ⟨hc3, hf3⟩ := bcell hb3
    have hz3b : w.heap.size + 1 < w3.heap.size := by have := hb3.size; omega
    have hz3a : w.heap.size < w3.heap.size := by omega
    have HO := Lib.hid ho3
    clear ho3
    go_wp2
    refine bodyPost_ret (v := .tuple #[(Ck.mk x.left x.inc x.delay x.player now true x.fallen).val a' c', .int .i64 0]) (by simp [results, Try.results45, go_sem, hc1, hc3, hz1a, hz1b, hz3b, Ck.val, Ck.cells]) rfl ?_
    unfold CkRes
    rw [HP.out]
    refine ⟨a', c', rfl, ?_, ?_⟩
    · have k0 := HO.out
      refine ownsRow_le (base := w1.heap.size) ?_ (by omega)
      repeat (first | (with_reducible exact k0) | (with_reducible refine World.ownsRow.alloc ?_ _) | ((with_reducible refine ownsRow_setCell_below ?_ ?_ _); rotate_left; (simp <;> omega)))
    · repeat (first | (with_reducible exact hW3) | ((with_reducible refine Below.alloc ?_ ?_ _); rotate_left; (simp <;> omega)) | ((with_reducible refine Below.setCell ?_ ?_ _); rotate_left; (simp <;> omega)))
  · have HP := Lib.hid (show startCk x now = (Ck.zero, x.code now false) by simp [startCk, hcode])
    have hne : (x.code now false != 0) = true := by simpa using hcode
    clear hcode
    go_wp2
    refine bodyPost_ret (v := .tuple #[Ck.zero.val none 0, .int .i64 (x.code now false)]) (by simp [results, Try.results45, go_sem, hc1, hz1a, hz1b, Ck.val, Ck.cells, Ck.zero]) rfl ?_
    unfold CkRes
    rw [HP.out]
    refine ⟨none, 0, rfl, ownI_nil _ _, ?_⟩
    repeat (first | (with_reducible exact hW1) | ((with_reducible refine Below.setCell ?_ ?_ _); rotate_left; (simp <;> omega)))

end Go.Proofs.Ytbjdfgfebepacaa
