/- Few: small games that are drawn. Each contract holds for every argument, under the premises that it states. -/
import Derived.Test.YtbjdfgfebepacaaDraw1
import Derived.Test.YtbjdfgfebepacaaSetS
namespace Go.Proofs.Ytbjdfgfebepacaa
set_option linter.unusedSimpArgs false
set_option linter.unusedVariables false
set_option linter.unnecessarySimpa false
open Go.RowKit Go.ChangeShapes Go.WideShapes Go.ChangeAt Go.Joins

set_option maxRecDepth 100000 in
set_option maxHeartbeats 16000000 in
theorem l02Bent_c (base b m : Nat) (w : World) (h : SrcP base b m w) (hm : m ≤ 1000000) (hB : base ≤ b) (hbl : b < w.heap.size) :
    Calls Try.prog 90 #[.pointer (some ⟨b, 0, none⟩)] w fun e w' => ∃ r : R, e = .returned r.val ∧ SrcP base b (m + 50) w' ∧ Chg b (b + 1) w w' := by
  have S0 := Lib.hid (h.below (below_alloc1 w (.cells #[.int .i64 0, .int .i64 0, .bool false, .bool false, .bool false, .bool false, .bool false, .int .i64 0, .int .i64 0] 25)))
  have R0 := Bx.alloc w #[.int .i64 0, .int .i64 0, .bool false, .bool false, .bool false, .bool false, .bool false, .int .i64 0, .int .i64 0] 25 rfl
  clear h
  go_enter Try.func90, Try.ntmps90
  go_wp2_with fail
  refine (l02Draw_c base b m _ S0.out (by omega) hB (by simp; omega)).mono ?_
  rintro e w1 ⟨r, rfl, _, hs1, hc1⟩
  have z1 : w.heap.size + 1 ≤ w1.heap.size := by have := hc1.size; simpa using this
  have R1 := (R0.chg hc1 (by simp) (by omega)).allocO (by omega) r.cells 25
  have Q1 := Bx.alloc w1 r.cells 25 rfl
  have C1 := ((Chg.ofBelow (lo := b) (hi := b + 1) (below_alloc1 w (.cells #[.int .i64 0, .int .i64 0, .bool false, .bool false, .bool false, .bool false, .bool false, .int .i64 0, .int .i64 0] 25))).trans hc1).allocN r.cells 25
  have S1 := Lib.hid (hs1.allocN r.cells 25)
  clear hs1 hc1 R0 S0
  go_wp2_with fail
  refine (pick_c base b _ 24 _ S1.out (by omega) (by omega)).mono ?_
  rintro e w2 ⟨v, rfl, v0, v1, hs2, hc2⟩
  have z2 : w1.heap.size + 1 ≤ w2.heap.size := by have := hc2.size; simpa using this
  have R2 := R1.chg hc2 (by simp; omega) (by omega)
  have Q2 := Q1.chg hc2 (by simp) (by omega)
  have C2 := Lib.hid (C1.trans hc2)
  have S2 := Lib.hid hs2
  clear hs2 hc2 R1 Q1 C1 S1
  have hne1 : ¬ w.heap.size = w1.heap.size := by omega
  have hne2 : ¬ w1.heap.size = w.heap.size := by omega
  have hnb1 : ¬ w.heap.size = b := by omega
  have hnb2 : ¬ w1.heap.size = b := by omega
  rcases (show v = 0 ∨ v = 1 ∨ v = 2 ∨ v = 3 ∨ v = 4 ∨ 5 ≤ v by omega) with rfl | rfl | rfl | rfl | rfl | hv
  · go_wp2_with fail
    refine (among_c base b _ w2.heap.size [1, 2, 8, 9, -9223372036854775808] _ (S2.out.allocN #[.int .i64 1, .int .i64 2, .int .i64 8, .int .i64 9, .int .i64 (-9223372036854775808)] 2) (by omega) (Bx.alloc w2 #[.int .i64 1, .int .i64 2, .int .i64 8, .int .i64 9, .int .i64 (-9223372036854775808)] 2 rfl).box (by omega) (by simp) (by simp)).mono ?_
    rintro e w3 ⟨x, _, rfl, hs3, hc3⟩
    have z3 : w2.heap.size + 1 ≤ w3.heap.size := by have := hc3.size; simpa using this
    have R9 := (R2.allocO (by omega) #[.int .i64 1, .int .i64 2, .int .i64 8, .int .i64 9, .int .i64 (-9223372036854775808)] 2).chg hc3 (by simp; omega) (by omega)
    have Q9 := (Q2.allocO (by omega) #[.int .i64 1, .int .i64 2, .int .i64 8, .int .i64 9, .int .i64 (-9223372036854775808)] 2).chg hc3 (by simp; omega) (by omega)
    have C9 := Lib.hid ((C2.out.allocN #[.int .i64 1, .int .i64 2, .int .i64 8, .int .i64 9, .int .i64 (-9223372036854775808)] 2).trans hc3)
    have S9 := Lib.hid hs3
    have zw : w.heap.size < w3.heap.size := by omega
    have zw1 : w1.heap.size < w3.heap.size := by omega
    clear hs3 hc3
    obtain ⟨q0, q1, q2, q3, q4, q5, q6, q7, q8⟩ := (⟨Q9.box 0 _ rfl, Q9.box 1 _ rfl, Q9.box 2 _ rfl, Q9.box 3 _ rfl, Q9.box 4 _ rfl, Q9.box 5 _ rfl, Q9.box 6 _ rfl, Q9.box 7 _ rfl, Q9.box 8 _ rfl⟩ : _ ∧ _ ∧ _ ∧ _ ∧ _ ∧ _ ∧ _ ∧ _ ∧ _)
    obtain ⟨r0, r1, r2, r3, r4, r5, r6, r7, r8⟩ := (⟨R9.box 0 _ rfl, R9.box 1 _ rfl, R9.box 2 _ rfl, R9.box 3 _ rfl, R9.box 4 _ rfl, R9.box 5 _ rfl, R9.box 6 _ rfl, R9.box 7 _ rfl, R9.box 8 _ rfl⟩ : _ ∧ _ ∧ _ ∧ _ ∧ _ ∧ _ ∧ _ ∧ _ ∧ _)
    have fz := Q9.free
    have gz := R9.free
    clear Q9 R9
    go_wp2_with fail
    refine bodyPost_ret (v := R.val ⟨x, r.seeds, r.stores, r.skip, r.relay, r.feed, r.again, r.capture, r.slam⟩) (by simp [results, Try.results90, go_sem, R.val, R.cells, q0, q1, q2, q3, q4, q5, q6, q7, q8, r0, r1, r2, r3, r4, r5, r6, r7, r8, fz, gz, zw, zw1, hne1, hne2]) rfl ⟨⟨x, r.seeds, r.stores, r.skip, r.relay, r.feed, r.again, r.capture, r.slam⟩, rfl, ?_, ?_⟩
    · have k0 := S9.out.mono (show _ ≤ m + 50 by omega)
      repeat (first | (with_reducible exact k0) | ((with_reducible refine SrcP.set ?_ _ ?_ ?_ rfl _); rotate_left; (simp; omega); (simp; omega)))
    · have k0 := C9.out
      repeat (first | (with_reducible exact k0) | ((with_reducible refine Chg.setNew ?_ _ ?_ _); rotate_left; (simp <;> omega)))
  · go_wp2_with fail
    refine (among_c base b _ w2.heap.size [0, 1, 6, 7] _ (S2.out.allocN #[.int .i64 0, .int .i64 1, .int .i64 6, .int .i64 7] 2) (by omega) (Bx.alloc w2 #[.int .i64 0, .int .i64 1, .int .i64 6, .int .i64 7] 2 rfl).box (by omega) (by simp) (by simp)).mono ?_
    rintro e w3 ⟨x, _, rfl, hs3, hc3⟩
    have z3 : w2.heap.size + 1 ≤ w3.heap.size := by have := hc3.size; simpa using this
    have R9 := (R2.allocO (by omega) #[.int .i64 0, .int .i64 1, .int .i64 6, .int .i64 7] 2).chg hc3 (by simp; omega) (by omega)
    have Q9 := (Q2.allocO (by omega) #[.int .i64 0, .int .i64 1, .int .i64 6, .int .i64 7] 2).chg hc3 (by simp; omega) (by omega)
    have C9 := Lib.hid ((C2.out.allocN #[.int .i64 0, .int .i64 1, .int .i64 6, .int .i64 7] 2).trans hc3)
    have S9 := Lib.hid hs3
    have zw : w.heap.size < w3.heap.size := by omega
    have zw1 : w1.heap.size < w3.heap.size := by omega
    clear hs3 hc3
    obtain ⟨q0, q1, q2, q3, q4, q5, q6, q7, q8⟩ := (⟨Q9.box 0 _ rfl, Q9.box 1 _ rfl, Q9.box 2 _ rfl, Q9.box 3 _ rfl, Q9.box 4 _ rfl, Q9.box 5 _ rfl, Q9.box 6 _ rfl, Q9.box 7 _ rfl, Q9.box 8 _ rfl⟩ : _ ∧ _ ∧ _ ∧ _ ∧ _ ∧ _ ∧ _ ∧ _ ∧ _)
    obtain ⟨r0, r1, r2, r3, r4, r5, r6, r7, r8⟩ := (⟨R9.box 0 _ rfl, R9.box 1 _ rfl, R9.box 2 _ rfl, R9.box 3 _ rfl, R9.box 4 _ rfl, R9.box 5 _ rfl, R9.box 6 _ rfl, R9.box 7 _ rfl, R9.box 8 _ rfl⟩ : _ ∧ _ ∧ _ ∧ _ ∧ _ ∧ _ ∧ _ ∧ _ ∧ _)
    have fz := Q9.free
    have gz := R9.free
    clear Q9 R9
    go_wp2_with fail
    refine bodyPost_ret (v := R.val ⟨r.pits, x, r.stores, r.skip, r.relay, r.feed, r.again, r.capture, r.slam⟩) (by simp [results, Try.results90, go_sem, R.val, R.cells, q0, q1, q2, q3, q4, q5, q6, q7, q8, r0, r1, r2, r3, r4, r5, r6, r7, r8, fz, gz, zw, zw1, hne1, hne2]) rfl ⟨⟨r.pits, x, r.stores, r.skip, r.relay, r.feed, r.again, r.capture, r.slam⟩, rfl, ?_, ?_⟩
    · have k0 := S9.out.mono (show _ ≤ m + 50 by omega)
      repeat (first | (with_reducible exact k0) | ((with_reducible refine SrcP.set ?_ _ ?_ ?_ rfl _); rotate_left; (simp; omega); (simp; omega)))
    · have k0 := C9.out
      repeat (first | (with_reducible exact k0) | ((with_reducible refine Chg.setNew ?_ _ ?_ _); rotate_left; (simp <;> omega)))
  · go_wp2_with fail
    refine (among_c base b _ w2.heap.size [-1, 4, 0, 3] _ (S2.out.allocN #[.int .i64 (-1), .int .i64 4, .int .i64 0, .int .i64 3] 2) (by omega) (Bx.alloc w2 #[.int .i64 (-1), .int .i64 4, .int .i64 0, .int .i64 3] 2 rfl).box (by omega) (by simp) (by simp)).mono ?_
    rintro e w3 ⟨x, _, rfl, hs3, hc3⟩
    have z3 : w2.heap.size + 1 ≤ w3.heap.size := by have := hc3.size; simpa using this
    have R9 := (R2.allocO (by omega) #[.int .i64 (-1), .int .i64 4, .int .i64 0, .int .i64 3] 2).chg hc3 (by simp; omega) (by omega)
    have Q9 := (Q2.allocO (by omega) #[.int .i64 (-1), .int .i64 4, .int .i64 0, .int .i64 3] 2).chg hc3 (by simp; omega) (by omega)
    have C9 := Lib.hid ((C2.out.allocN #[.int .i64 (-1), .int .i64 4, .int .i64 0, .int .i64 3] 2).trans hc3)
    have S9 := Lib.hid hs3
    have zw : w.heap.size < w3.heap.size := by omega
    have zw1 : w1.heap.size < w3.heap.size := by omega
    clear hs3 hc3
    obtain ⟨q0, q1, q2, q3, q4, q5, q6, q7, q8⟩ := (⟨Q9.box 0 _ rfl, Q9.box 1 _ rfl, Q9.box 2 _ rfl, Q9.box 3 _ rfl, Q9.box 4 _ rfl, Q9.box 5 _ rfl, Q9.box 6 _ rfl, Q9.box 7 _ rfl, Q9.box 8 _ rfl⟩ : _ ∧ _ ∧ _ ∧ _ ∧ _ ∧ _ ∧ _ ∧ _ ∧ _)
    obtain ⟨r0, r1, r2, r3, r4, r5, r6, r7, r8⟩ := (⟨R9.box 0 _ rfl, R9.box 1 _ rfl, R9.box 2 _ rfl, R9.box 3 _ rfl, R9.box 4 _ rfl, R9.box 5 _ rfl, R9.box 6 _ rfl, R9.box 7 _ rfl, R9.box 8 _ rfl⟩ : _ ∧ _ ∧ _ ∧ _ ∧ _ ∧ _ ∧ _ ∧ _ ∧ _)
    have fz := Q9.free
    have gz := R9.free
    clear Q9 R9
    go_wp2_with fail
    refine bodyPost_ret (v := R.val ⟨r.pits, r.seeds, r.stores, r.skip, r.relay, r.feed, r.again, x, r.slam⟩) (by simp [results, Try.results90, go_sem, R.val, R.cells, q0, q1, q2, q3, q4, q5, q6, q7, q8, r0, r1, r2, r3, r4, r5, r6, r7, r8, fz, gz, zw, zw1, hne1, hne2]) rfl ⟨⟨r.pits, r.seeds, r.stores, r.skip, r.relay, r.feed, r.again, x, r.slam⟩, rfl, ?_, ?_⟩
    · have k0 := S9.out.mono (show _ ≤ m + 50 by omega)
      repeat (first | (with_reducible exact k0) | ((with_reducible refine SrcP.set ?_ _ ?_ ?_ rfl _); rotate_left; (simp; omega); (simp; omega)))
    · have k0 := C9.out
      repeat (first | (with_reducible exact k0) | ((with_reducible refine Chg.setNew ?_ _ ?_ _); rotate_left; (simp <;> omega)))
  · go_wp2_with fail
    refine (among_c base b _ w2.heap.size [-1, 3, 2] _ (S2.out.allocN #[.int .i64 (-1), .int .i64 3, .int .i64 2] 2) (by omega) (Bx.alloc w2 #[.int .i64 (-1), .int .i64 3, .int .i64 2] 2 rfl).box (by omega) (by simp) (by simp)).mono ?_
    rintro e w3 ⟨x, _, rfl, hs3, hc3⟩
    have z3 : w2.heap.size + 1 ≤ w3.heap.size := by have := hc3.size; simpa using this
    have R9 := (R2.allocO (by omega) #[.int .i64 (-1), .int .i64 3, .int .i64 2] 2).chg hc3 (by simp; omega) (by omega)
    have Q9 := (Q2.allocO (by omega) #[.int .i64 (-1), .int .i64 3, .int .i64 2] 2).chg hc3 (by simp; omega) (by omega)
    have C9 := Lib.hid ((C2.out.allocN #[.int .i64 (-1), .int .i64 3, .int .i64 2] 2).trans hc3)
    have S9 := Lib.hid hs3
    have zw : w.heap.size < w3.heap.size := by omega
    have zw1 : w1.heap.size < w3.heap.size := by omega
    clear hs3 hc3
    obtain ⟨q0, q1, q2, q3, q4, q5, q6, q7, q8⟩ := (⟨Q9.box 0 _ rfl, Q9.box 1 _ rfl, Q9.box 2 _ rfl, Q9.box 3 _ rfl, Q9.box 4 _ rfl, Q9.box 5 _ rfl, Q9.box 6 _ rfl, Q9.box 7 _ rfl, Q9.box 8 _ rfl⟩ : _ ∧ _ ∧ _ ∧ _ ∧ _ ∧ _ ∧ _ ∧ _ ∧ _)
    obtain ⟨r0, r1, r2, r3, r4, r5, r6, r7, r8⟩ := (⟨R9.box 0 _ rfl, R9.box 1 _ rfl, R9.box 2 _ rfl, R9.box 3 _ rfl, R9.box 4 _ rfl, R9.box 5 _ rfl, R9.box 6 _ rfl, R9.box 7 _ rfl, R9.box 8 _ rfl⟩ : _ ∧ _ ∧ _ ∧ _ ∧ _ ∧ _ ∧ _ ∧ _ ∧ _)
    have fz := Q9.free
    have gz := R9.free
    clear Q9 R9
    go_wp2_with fail
    refine bodyPost_ret (v := R.val ⟨r.pits, r.seeds, r.stores, r.skip, r.relay, r.feed, r.again, r.capture, x⟩) (by simp [results, Try.results90, go_sem, R.val, R.cells, q0, q1, q2, q3, q4, q5, q6, q7, q8, r0, r1, r2, r3, r4, r5, r6, r7, r8, fz, gz, zw, zw1, hne1, hne2]) rfl ⟨⟨r.pits, r.seeds, r.stores, r.skip, r.relay, r.feed, r.again, r.capture, x⟩, rfl, ?_, ?_⟩
    · have k0 := S9.out.mono (show _ ≤ m + 50 by omega)
      repeat (first | (with_reducible exact k0) | ((with_reducible refine SrcP.set ?_ _ ?_ ?_ rfl _); rotate_left; (simp; omega); (simp; omega)))
    · have k0 := C9.out
      repeat (first | (with_reducible exact k0) | ((with_reducible refine Chg.setNew ?_ _ ?_ _); rotate_left; (simp <;> omega)))
  · obtain ⟨q6, fq⟩ := (⟨Q2.box 6 _ rfl, Q2.free⟩ : _ ∧ _)
    have zq : w1.heap.size < w2.heap.size := by omega
    have Q3 := Q2.set (o := 6) (by simp [R.cells]) (.bool true)
    have R3 := R2.other ⟨w1.heap.size, 6, none⟩ (by simpa using hne2) (.bool true)
    have S3 := Lib.hid (S2.out.set ⟨w1.heap.size, 6, none⟩ (by simp; omega) (by simp; omega) rfl (.bool true))
    have C3 := Lib.hid (C2.out.setNew ⟨w1.heap.size, 6, none⟩ (by simp; omega) (.bool true))
    clear Q2 R2 C2 S2
    go_wp2_with fail
    refine (one_c base b _ 2 _ S3.out (by omega) (by omega)).mono ?_
    rintro e w3 ⟨st, rfl, hs3, hc3⟩
    have z3 : w2.heap.size ≤ w3.heap.size := by have := hc3.size; simpa using this
    have R9 := R3.chg hc3 (by simp; omega) (by omega)
    have Q9 := Q3.chg hc3 (by simp; omega) (by omega)
    have C9 := Lib.hid (C3.out.trans hc3)
    have S9 := Lib.hid hs3
    have zw : w.heap.size < w3.heap.size := by omega
    have zw1 : w1.heap.size < w3.heap.size := by omega
    clear hs3 hc3 q6 fq
    obtain ⟨q0, q1, q2, q3, q4, q5, q6, q7, q8⟩ := (⟨Q9.box 0 _ rfl, Q9.box 1 _ rfl, Q9.box 2 _ rfl, Q9.box 3 _ rfl, Q9.box 4 _ rfl, Q9.box 5 _ rfl, Q9.box 6 _ rfl, Q9.box 7 _ rfl, Q9.box 8 _ rfl⟩ : _ ∧ _ ∧ _ ∧ _ ∧ _ ∧ _ ∧ _ ∧ _ ∧ _)
    obtain ⟨r0, r1, r2, r3, r4, r5, r6, r7, r8⟩ := (⟨R9.box 0 _ rfl, R9.box 1 _ rfl, R9.box 2 _ rfl, R9.box 3 _ rfl, R9.box 4 _ rfl, R9.box 5 _ rfl, R9.box 6 _ rfl, R9.box 7 _ rfl, R9.box 8 _ rfl⟩ : _ ∧ _ ∧ _ ∧ _ ∧ _ ∧ _ ∧ _ ∧ _ ∧ _)
    have fz := Q9.free
    have gz := R9.free
    clear Q9 R9
    go_wp2_with fail
    refine bodyPost_ret (v := R.val ⟨r.pits, r.seeds, st, r.skip, r.relay, r.feed, true, r.capture, r.slam⟩) (by simp [results, Try.results90, go_sem, R.val, R.cells, q0, q1, q2, q3, q4, q5, q6, q7, q8, r0, r1, r2, r3, r4, r5, r6, r7, r8, fz, gz, zw, zw1, hne1, hne2]) rfl ⟨⟨r.pits, r.seeds, st, r.skip, r.relay, r.feed, true, r.capture, r.slam⟩, rfl, ?_, ?_⟩
    · have k0 := S9.out.mono (show _ ≤ m + 50 by omega)
      repeat (first | (with_reducible exact k0) | ((with_reducible refine SrcP.set ?_ _ ?_ ?_ rfl _); rotate_left; (simp; omega); (simp; omega)))
    · have k0 := C9.out
      repeat (first | (with_reducible exact k0) | ((with_reducible refine Chg.setNew ?_ _ ?_ _); rotate_left; (simp <;> omega)))
  · have n0 : (v == 0) = false := by simp; omega
    have n1 : (v == 1) = false := by simp; omega
    have n2 : (v == 2) = false := by simp; omega
    have n3 : (v == 3) = false := by simp; omega
    have n4 : (v == 4) = false := by simp; omega
    have R9 := R2
    have Q9 := Q2
    have C9 := C2
    have S9 := S2
    have zw : w.heap.size < w2.heap.size := by omega
    have zw1 : w1.heap.size < w2.heap.size := by omega
    clear Q2 R2
    obtain ⟨q0, q1, q2, q3, q4, q5, q6, q7, q8⟩ := (⟨Q9.box 0 _ rfl, Q9.box 1 _ rfl, Q9.box 2 _ rfl, Q9.box 3 _ rfl, Q9.box 4 _ rfl, Q9.box 5 _ rfl, Q9.box 6 _ rfl, Q9.box 7 _ rfl, Q9.box 8 _ rfl⟩ : _ ∧ _ ∧ _ ∧ _ ∧ _ ∧ _ ∧ _ ∧ _ ∧ _)
    obtain ⟨r0, r1, r2, r3, r4, r5, r6, r7, r8⟩ := (⟨R9.box 0 _ rfl, R9.box 1 _ rfl, R9.box 2 _ rfl, R9.box 3 _ rfl, R9.box 4 _ rfl, R9.box 5 _ rfl, R9.box 6 _ rfl, R9.box 7 _ rfl, R9.box 8 _ rfl⟩ : _ ∧ _ ∧ _ ∧ _ ∧ _ ∧ _ ∧ _ ∧ _ ∧ _)
    have fz := Q9.free
    have gz := R9.free
    clear Q9 R9
    go_wp2_with fail
    refine bodyPost_ret (v := R.val r) (by simp [results, Try.results90, go_sem, R.val, R.cells, q0, q1, q2, q3, q4, q5, q6, q7, q8, r0, r1, r2, r3, r4, r5, r6, r7, r8, fz, gz, zw, zw1, hne1, hne2]) rfl ⟨r, rfl, ?_, ?_⟩
    · have k0 := S9.out.mono (show _ ≤ m + 50 by omega)
      repeat (first | (with_reducible exact k0) | ((with_reducible refine SrcP.set ?_ _ ?_ ?_ rfl _); rotate_left; (simp; omega); (simp; omega)))
    · have k0 := C9.out
      repeat (first | (with_reducible exact k0) | ((with_reducible refine Chg.setNew ?_ _ ?_ _); rotate_left; (simp <;> omega)))


set_option maxRecDepth 100000 in
set_option maxHeartbeats 16000000 in
theorem DrawSetField_c (ca : Option Addr) (cc : Nat) (bs : List Int) (w : World) (h : ByteP w.heap.size ca bs w) :
    Calls Try.prog 13 #[.slice ca bs.length cc] w fun e w' => ∃ (r : R) (s : ByteArray) (v : Int), e = .returned (.tuple #[r.val, .string s, .int .i64 v]) ∧ Below w.heap.size w w' := by
  have B0 := below_alloc1 w (.cells #[.int .i64 0, .int .i64 0, .bool false, .bool false, .bool false, .bool false, .bool false, .int .i64 0, .int .i64 0] 25)
  have h1 := h.keep (fun k hk => B0.block k hk)
  have R0 := Bx.alloc w #[.int .i64 0, .int .i64 0, .bool false, .bool false, .bool false, .bool false, .bool false, .int .i64 0, .int .i64 0] 25 rfl
  go_enter Try.func13, Try.ntmps13
  go_wp2_with fail
  refine (l00From_c w.heap.size ca cc bs _ h1 (by simp)).mono ?_
  rintro e w1 ⟨rfl, hs1, hb1⟩
  simp only [World.size_alloc] at hs1 hb1 ⊢
  have z1 := hs1.lt
  have B1 := B0.trans (hb1.mono (by omega))
  have R1 := R0.below hb1 (by omega)
  have S1 := Lib.hid hs1
  clear hs1 hb1 R0 B0
  go_wp2_with fail
  refine (l02Bent_c w.heap.size (w.heap.size + 1) 0 _ S1.out (by omega) (by omega) z1.1).mono ?_
  rintro e w2 ⟨r, rfl, hs2, hc2⟩
  have z2 : w1.heap.size ≤ w2.heap.size := hc2.size
  have C2 := Lib.hid (hc2.allocN r.cells 25)
  have R2 := (R1.chg hc2 (by omega) (by omega)).allocO (by omega) r.cells 25
  have Q2 := Bx.alloc w2 r.cells 25 rfl
  have S2 := Lib.hid (hs2.allocN r.cells 25)
  clear hs2 hc2 R1 S1
  go_wp2_with fail
  refine (sFieldNames_c _).mono ?_
  rintro e w3 ⟨rfl, rfl⟩
  go_wp2_with fail
  have T3 := Bx.alloc (n := w2.heap.size + 1) (w2.alloc (.cells r.cells 25)) (fieldNames.map Value.string).toArray 9 (by simp)
  have R3 := R2.allocO (by simp; omega) (fieldNames.map Value.string).toArray 9
  have Q3 := Q2.allocO (by simp) (fieldNames.map Value.string).toArray 9
  have C3 := Lib.hid (C2.out.allocN (fieldNames.map Value.string).toArray 9)
  have S3 := Lib.hid (S2.out.allocN (fieldNames.map Value.string).toArray 9)
  have hn1 : ¬ w.heap.size = w2.heap.size := by omega
  have hn2 : ¬ w2.heap.size = w.heap.size := by omega
  clear R2 Q2
  refine (text_c w.heap.size (w.heap.size + 1) _ (w2.heap.size + 1) fieldNames _ S3.out (by omega) T3.box (by omega) (by decide) (by decide)).mono ?_
  rintro e w4 ⟨nk, nm, _, rfl, hs4, hc4⟩
  have z4 : w2.heap.size + 1 + 1 ≤ w4.heap.size := by have := hc4.size; simpa using this
  have R4 := R3.chg hc4 (by simp; omega) (by omega)
  have Q4 := Q3.chg hc4 (by simp; omega) (by omega)
  have C4 := Lib.hid (C3.out.trans hc4)
  have S4 := Lib.hid hs4
  clear hs4 hc4 R3 Q3 T3 S3 C3
  go_wp2_with fail
  refine (one_c w.heap.size (w.heap.size + 1) _ 16 _ S4.out (by omega) (by omega)).mono ?_
  rintro e w5 ⟨f5, rfl, hs5, hc5⟩
  have z5 : w4.heap.size ≤ w5.heap.size := hc5.size
  have R5 := R4.chg hc5 (by omega) (by omega)
  have Q5 := Q4.chg hc5 (by omega) (by omega)
  have C5 := Lib.hid (C4.out.trans hc5)
  have S5 := Lib.hid hs5
  clear hs5 hc5 R4 Q4
  cases f5
  · go_wp2_with fail
    refine (pick_c w.heap.size (w.heap.size + 1) _ 10 _ S5.out (by omega) (by omega)).mono ?_
    rintro e w6 ⟨v6, rfl, u6, t6, hs6, hc6⟩
    have z6 : w5.heap.size ≤ w6.heap.size := hc6.size
    have R6 := R5.chg hc6 (by omega) (by omega)
    have Q6 := Q5.chg hc6 (by omega) (by omega)
    have C6 := Lib.hid (C5.out.trans hc6)
    have S6 := Lib.hid hs6
    clear hs6 hc6 R5 Q5
    go_wp2_with fail
    refine (one_c w.heap.size (w.heap.size + 1) _ 2 _ S6.out (by omega) (by omega)).mono ?_
    rintro e w7 ⟨f7, rfl, hs7, hc7⟩
    have z7 : w6.heap.size ≤ w7.heap.size := hc7.size
    have R7 := R6.chg hc7 (by omega) (by omega)
    have Q7 := Q6.chg hc7 (by omega) (by omega)
    have C7 := Lib.hid (C6.out.trans hc7)
    have S7 := Lib.hid hs7
    clear hs7 hc7 R6 Q6
    cases f7
    · have zw : w.heap.size < w7.heap.size := by omega
      have zw2 : w2.heap.size < w7.heap.size := by omega
      obtain ⟨q0, q1, q2, q3, q4, q5, q6, q7, q8⟩ := (⟨Q7.box 0 _ rfl, Q7.box 1 _ rfl, Q7.box 2 _ rfl, Q7.box 3 _ rfl, Q7.box 4 _ rfl, Q7.box 5 _ rfl, Q7.box 6 _ rfl, Q7.box 7 _ rfl, Q7.box 8 _ rfl⟩ : _ ∧ _ ∧ _ ∧ _ ∧ _ ∧ _ ∧ _ ∧ _ ∧ _)
      obtain ⟨r0, r1, r2, r3, r4, r5, r6, r7, r8⟩ := (⟨R7.box 0 _ rfl, R7.box 1 _ rfl, R7.box 2 _ rfl, R7.box 3 _ rfl, R7.box 4 _ rfl, R7.box 5 _ rfl, R7.box 6 _ rfl, R7.box 7 _ rfl, R7.box 8 _ rfl⟩ : _ ∧ _ ∧ _ ∧ _ ∧ _ ∧ _ ∧ _ ∧ _ ∧ _)
      have fz := Q7.free
      have gz := R7.free
      have BB := Lib.hid (C7.out.below B1 (by omega))
      clear Q7 R7
      go_wp2_with fail
      refine bodyPost_ret (v := .tuple #[R.val r, .string nm, .int .i64 (v6 - 1)]) (by simp [results, Try.results13, go_sem, R.val, R.cells, q0, q1, q2, q3, q4, q5, q6, q7, q8, r0, r1, r2, r3, r4, r5, r6, r7, r8, fz, gz, zw, zw2]) rfl ⟨r, nm, _, rfl, ?_⟩
      have k0 := BB.out
      repeat (first | (with_reducible exact k0) | ((with_reducible refine Below.setCell ?_ ?_ _); rotate_left; (simp <;> omega)))
    · go_wp2_with fail
      refine (pick_c w.heap.size (w.heap.size + 1) _ 3 _ S7.out (by omega) (by omega)).mono ?_
      rintro e w8 ⟨v8, rfl, u8, t8, hs8, hc8⟩
      have z8 : w7.heap.size ≤ w8.heap.size := hc8.size
      have R8 := R7.chg hc8 (by omega) (by omega)
      have Q8 := Q7.chg hc8 (by omega) (by omega)
      have C8 := Lib.hid (C7.out.trans hc8)
      have S8 := Lib.hid hs8
      clear hs8 hc8 R7 Q7
      have zw : w.heap.size < w8.heap.size := by omega
      have zw2 : w2.heap.size < w8.heap.size := by omega
      obtain ⟨q0, q1, q2, q3, q4, q5, q6, q7, q8⟩ := (⟨Q8.box 0 _ rfl, Q8.box 1 _ rfl, Q8.box 2 _ rfl, Q8.box 3 _ rfl, Q8.box 4 _ rfl, Q8.box 5 _ rfl, Q8.box 6 _ rfl, Q8.box 7 _ rfl, Q8.box 8 _ rfl⟩ : _ ∧ _ ∧ _ ∧ _ ∧ _ ∧ _ ∧ _ ∧ _ ∧ _)
      obtain ⟨r0, r1, r2, r3, r4, r5, r6, r7, r8⟩ := (⟨R8.box 0 _ rfl, R8.box 1 _ rfl, R8.box 2 _ rfl, R8.box 3 _ rfl, R8.box 4 _ rfl, R8.box 5 _ rfl, R8.box 6 _ rfl, R8.box 7 _ rfl, R8.box 8 _ rfl⟩ : _ ∧ _ ∧ _ ∧ _ ∧ _ ∧ _ ∧ _ ∧ _ ∧ _)
      have fz := Q8.free
      have gz := R8.free
      have BB := Lib.hid (C8.out.below B1 (by omega))
      clear Q8 R8
      go_wp2_with fail
      refine bodyPost_ret (v := .tuple #[R.val r, .string nm, .int .i64 v8]) (by simp [results, Try.results13, go_sem, R.val, R.cells, q0, q1, q2, q3, q4, q5, q6, q7, q8, r0, r1, r2, r3, r4, r5, r6, r7, r8, fz, gz, zw, zw2]) rfl ⟨r, nm, _, rfl, ?_⟩
      have k0 := BB.out
      repeat (first | (with_reducible exact k0) | ((with_reducible refine Below.setCell ?_ ?_ _); rotate_left; (simp <;> omega)))
  · go_wp2_with fail
    refine (pick_c w.heap.size (w.heap.size + 1) _ 10 _ S5.out (by omega) (by omega)).mono ?_
    rintro e w6 ⟨v6, rfl, u6, t6, hs6, hc6⟩
    have z6 : w5.heap.size ≤ w6.heap.size := hc6.size
    have R6 := R5.chg hc6 (by omega) (by omega)
    have Q6 := Q5.chg hc6 (by omega) (by omega)
    have C6 := Lib.hid (C5.out.trans hc6)
    have S6 := Lib.hid hs6
    clear hs6 hc6 R5 Q5
    go_wp2_with fail
    refine (one_c w.heap.size (w.heap.size + 1) _ 2 _ S6.out (by omega) (by omega)).mono ?_
    rintro e w7 ⟨f7, rfl, hs7, hc7⟩
    have z7 : w6.heap.size ≤ w7.heap.size := hc7.size
    have R7 := R6.chg hc7 (by omega) (by omega)
    have Q7 := Q6.chg hc7 (by omega) (by omega)
    have C7 := Lib.hid (C6.out.trans hc7)
    have S7 := Lib.hid hs7
    clear hs7 hc7 R6 Q6
    cases f7
    · have zw : w.heap.size < w7.heap.size := by omega
      have zw2 : w2.heap.size < w7.heap.size := by omega
      obtain ⟨q0, q1, q2, q3, q4, q5, q6, q7, q8⟩ := (⟨Q7.box 0 _ rfl, Q7.box 1 _ rfl, Q7.box 2 _ rfl, Q7.box 3 _ rfl, Q7.box 4 _ rfl, Q7.box 5 _ rfl, Q7.box 6 _ rfl, Q7.box 7 _ rfl, Q7.box 8 _ rfl⟩ : _ ∧ _ ∧ _ ∧ _ ∧ _ ∧ _ ∧ _ ∧ _ ∧ _)
      obtain ⟨r0, r1, r2, r3, r4, r5, r6, r7, r8⟩ := (⟨R7.box 0 _ rfl, R7.box 1 _ rfl, R7.box 2 _ rfl, R7.box 3 _ rfl, R7.box 4 _ rfl, R7.box 5 _ rfl, R7.box 6 _ rfl, R7.box 7 _ rfl, R7.box 8 _ rfl⟩ : _ ∧ _ ∧ _ ∧ _ ∧ _ ∧ _ ∧ _ ∧ _ ∧ _)
      have fz := Q7.free
      have gz := R7.free
      have BB := Lib.hid (C7.out.below B1 (by omega))
      clear Q7 R7
      go_wp2_with fail
      refine bodyPost_ret (v := .tuple #[R.val r, .string ⟨#[98, 108, 117, 101]⟩, .int .i64 (v6 - 1)]) (by simp [results, Try.results13, go_sem, R.val, R.cells, q0, q1, q2, q3, q4, q5, q6, q7, q8, r0, r1, r2, r3, r4, r5, r6, r7, r8, fz, gz, zw, zw2]) rfl ⟨r, ⟨#[98, 108, 117, 101]⟩, _, rfl, ?_⟩
      have k0 := BB.out
      repeat (first | (with_reducible exact k0) | ((with_reducible refine Below.setCell ?_ ?_ _); rotate_left; (simp <;> omega)))
    · go_wp2_with fail
      refine (pick_c w.heap.size (w.heap.size + 1) _ 3 _ S7.out (by omega) (by omega)).mono ?_
      rintro e w8 ⟨v8, rfl, u8, t8, hs8, hc8⟩
      have z8 : w7.heap.size ≤ w8.heap.size := hc8.size
      have R8 := R7.chg hc8 (by omega) (by omega)
      have Q8 := Q7.chg hc8 (by omega) (by omega)
      have C8 := Lib.hid (C7.out.trans hc8)
      have S8 := Lib.hid hs8
      clear hs8 hc8 R7 Q7
      have zw : w.heap.size < w8.heap.size := by omega
      have zw2 : w2.heap.size < w8.heap.size := by omega
      obtain ⟨q0, q1, q2, q3, q4, q5, q6, q7, q8⟩ := (⟨Q8.box 0 _ rfl, Q8.box 1 _ rfl, Q8.box 2 _ rfl, Q8.box 3 _ rfl, Q8.box 4 _ rfl, Q8.box 5 _ rfl, Q8.box 6 _ rfl, Q8.box 7 _ rfl, Q8.box 8 _ rfl⟩ : _ ∧ _ ∧ _ ∧ _ ∧ _ ∧ _ ∧ _ ∧ _ ∧ _)
      obtain ⟨r0, r1, r2, r3, r4, r5, r6, r7, r8⟩ := (⟨R8.box 0 _ rfl, R8.box 1 _ rfl, R8.box 2 _ rfl, R8.box 3 _ rfl, R8.box 4 _ rfl, R8.box 5 _ rfl, R8.box 6 _ rfl, R8.box 7 _ rfl, R8.box 8 _ rfl⟩ : _ ∧ _ ∧ _ ∧ _ ∧ _ ∧ _ ∧ _ ∧ _ ∧ _)
      have fz := Q8.free
      have gz := R8.free
      have BB := Lib.hid (C8.out.below B1 (by omega))
      clear Q8 R8
      go_wp2_with fail
      refine bodyPost_ret (v := .tuple #[R.val r, .string ⟨#[98, 108, 117, 101]⟩, .int .i64 v8]) (by simp [results, Try.results13, go_sem, R.val, R.cells, q0, q1, q2, q3, q4, q5, q6, q7, q8, r0, r1, r2, r3, r4, r5, r6, r7, r8, fz, gz, zw, zw2]) rfl ⟨r, ⟨#[98, 108, 117, 101]⟩, _, rfl, ?_⟩
      have k0 := BB.out
      repeat (first | (with_reducible exact k0) | ((with_reducible refine Below.setCell ?_ ?_ _); rotate_left; (simp <;> omega)))

end Go.Proofs.Ytbjdfgfebepacaa
