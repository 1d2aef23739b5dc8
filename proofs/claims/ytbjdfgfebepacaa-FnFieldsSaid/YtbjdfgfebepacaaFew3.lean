/- Few3: two games that differ in few fields. Each contract holds for every argument, under the premises that it states. -/
import Derived.Test.YtbjdfgfebepacaaFew
namespace Go.Proofs.Ytbjdfgfebepacaa
set_option linter.unusedSimpArgs false
set_option linter.unusedVariables false
set_option linter.unnecessarySimpa false
open Go.RowKit Go.ChangeShapes Go.WideShapes Go.ChangeAt Go.Joins

set_option maxRecDepth 100000 in
set_option maxHeartbeats 16000000 in
theorem DrawDifferentFields_c (ca : Option Addr) (cc : Nat) (bs : List Int) (w : World) (h : ByteP w.heap.size ca bs w) :
    Calls Try.prog 16 #[.slice ca bs.length cc] w fun e w' => ∃ (r s : R), e = .returned (.tuple #[r.val, s.val]) ∧ Below w.heap.size w w' := by
  have B0 : Below w.heap.size w ((w.alloc (.cells #[.int .i64 0, .int .i64 0, .bool false, .bool false, .bool false, .bool false, .bool false, .int .i64 0, .int .i64 0] 25)).alloc (.cells #[.int .i64 0, .int .i64 0, .bool false, .bool false, .bool false, .bool false, .bool false, .int .i64 0, .int .i64 0] 25)) := below_alloc2 _ _ _
  have h1 := h.keep (fun k hk => B0.block k hk)
  have R0 := (Bx.alloc w #[.int .i64 0, .int .i64 0, .bool false, .bool false, .bool false, .bool false, .bool false, .int .i64 0, .int .i64 0] 25 rfl).allocO (by simp) #[.int .i64 0, .int .i64 0, .bool false, .bool false, .bool false, .bool false, .bool false, .int .i64 0, .int .i64 0] 25
  have P0 := Bx.alloc (n := w.heap.size + 1) (w.alloc (.cells #[.int .i64 0, .int .i64 0, .bool false, .bool false, .bool false, .bool false, .bool false, .int .i64 0, .int .i64 0] 25)) #[.int .i64 0, .int .i64 0, .bool false, .bool false, .bool false, .bool false, .bool false, .int .i64 0, .int .i64 0] 25 (by simp)
  go_enter Try.func16, Try.ntmps16
  go_wp2_with fail
  refine (l00From_c w.heap.size ca cc bs _ h1 (by simp; omega)).mono ?_
  rintro e w1 ⟨rfl, hs1, hb1⟩
  simp only [World.size_alloc] at hs1 hb1 ⊢
  have z1 := hs1.lt
  have B1 := B0.trans (hb1.mono (by omega))
  have R1 := R0.below hb1 (by omega)
  have P1 := P0.below hb1 (by omega)
  have S1 := Lib.hid hs1
  clear hs1 hb1 R0 B0 P0
  go_wp2_with fail
  refine (l02Bent_c w.heap.size (w.heap.size + 1 + 1) 0 _ S1.out (by omega) (by omega) z1.1).mono ?_
  rintro e w2 ⟨r, rfl, hs2, hc2⟩
  have z2 : w1.heap.size ≤ w2.heap.size := hc2.size
  have C2 := Lib.hid (hc2.allocN r.cells 25)
  have R2 := (R1.chg hc2 (by omega) (by omega)).allocO (by omega) r.cells 25
  have P2 := (P1.chg hc2 (by omega) (by omega)).allocO (by omega) r.cells 25
  have Q2 := Bx.alloc w2 r.cells 25 rfl
  have S2 := Lib.hid (hs2.allocN r.cells 25)
  clear hs2 hc2 R1 S1 P1
  go_wp2_with fail
  have HQK : Hid (∀ W, Bx w2.heap.size r.cells.toList W → (W.cell? ⟨w2.heap.size, 0, none⟩ = some (.int .i64 r.pits) ∧ W.cell? ⟨w2.heap.size, 1, none⟩ = some (.int .i64 r.seeds) ∧ W.cell? ⟨w2.heap.size, 2, none⟩ = some (.bool r.stores) ∧ W.cell? ⟨w2.heap.size, 3, none⟩ = some (.bool r.skip) ∧ W.cell? ⟨w2.heap.size, 4, none⟩ = some (.bool r.relay) ∧ W.cell? ⟨w2.heap.size, 5, none⟩ = some (.bool r.feed) ∧ W.cell? ⟨w2.heap.size, 6, none⟩ = some (.bool r.again) ∧ W.cell? ⟨w2.heap.size, 7, none⟩ = some (.int .i64 r.capture) ∧ W.cell? ⟨w2.heap.size, 8, none⟩ = some (.int .i64 r.slam))) := fun W h => ⟨h.box 0 _ rfl, h.box 1 _ rfl, h.box 2 _ rfl, h.box 3 _ rfl, h.box 4 _ rfl, h.box 5 _ rfl, h.box 6 _ rfl, h.box 7 _ rfl, h.box 8 _ rfl⟩
  have hn1 : ¬ w.heap.size = w2.heap.size := by omega
  have R3 := R2.drew
  have P3 := P2.drew
  have Q3 := Q2.drew
  have S3 := Lib.hid (S2.out.below (Below.refl _ _).drew)
  have C3 := Lib.hid (C2.out.step (Below.refl _ _).drew)
  have zz : w2.heap.size + 1 ≤ (w2.alloc (.cells r.cells 25)).drew.heap.size := by simp
  clear R2 P2 Q2 S2 C2
  refine heldH (S := fun W => W.cell? ⟨w2.heap.size, 0, none⟩ = some (.int .i64 r.pits) ∧ W.cell? ⟨w2.heap.size, 1, none⟩ = some (.int .i64 r.seeds) ∧ W.cell? ⟨w2.heap.size, 2, none⟩ = some (.bool r.stores) ∧ W.cell? ⟨w2.heap.size, 3, none⟩ = some (.bool r.skip) ∧ W.cell? ⟨w2.heap.size, 4, none⟩ = some (.bool r.relay) ∧ W.cell? ⟨w2.heap.size, 5, none⟩ = some (.bool r.feed) ∧ W.cell? ⟨w2.heap.size, 6, none⟩ = some (.bool r.again) ∧ W.cell? ⟨w2.heap.size, 7, none⟩ = some (.int .i64 r.capture) ∧ W.cell? ⟨w2.heap.size, 8, none⟩ = some (.int .i64 r.slam)) (n := 5) (listed := #[false, false, false, false, false]) (by kernel_rfl) (by rfl) (by rfl) ?_ (fun hHeld => ?_)
  (focus ((try dsimp only); (first | done | ((exact HQK.out _ (by first | exact Q7 | exact Q6 | exact Q5 | exact Q3)); done))))
  (refine takeH (i := 0) (v := ?_) (by decide +kernel) (by decide +kernel) (by kernel_rfl) (by rfl) (by exact fun _ _ _ h => h) (by rfl) ?_ (by assumption) ?_); rotate_left; (focus (intro w hSw; (try dsimp only at hSw); go_simp; (try with_reducible rfl); done)); (try simp only [Act.put, List.setIfInBounds_toArray, List.set_cons_zero, List.set_cons_succ])
  (refine takeH (i := 1) (v := ?_) (by decide +kernel) (by decide +kernel) (by kernel_rfl) (by rfl) (by exact fun _ _ _ h => h) (by rfl) ?_ (by assumption) ?_); rotate_left; (focus (intro w hSw; (try dsimp only at hSw); go_simp; (try with_reducible rfl); done)); (try simp only [Act.put, List.setIfInBounds_toArray, List.set_cons_zero, List.set_cons_succ])
  refine nextH (i := 2) (by decide +kernel) (by rfl) (by rfl) (fun K hK => ?_)
  (go_simp; go_at_call 90; (refine (l02Bent_c w.heap.size (w.heap.size + 1 + 1) _ _ S3.out (by omega) (by omega) (by omega)).mono ?_); (rintro e w5 ⟨s, rfl, hs5, hc5⟩); (have R5 := R3.chg hc5 (by omega) (by omega)); (have P5 := P3.chg hc5 (by omega) (by omega)); (have Q5 := Q3.chg hc5 (by omega) (by omega)); (have C5 := Lib.hid (C3.out.trans hc5)))
  refine hK.out _ _ ?_ (fun hHeld' => ?_)
  (focus ((try dsimp only); (first | done | ((exact HQK.out _ (by first | exact Q7 | exact Q6 | exact Q5 | exact Q3)); done))))
  clear hK K hHeld
  have hHeld := hHeld'
  clear hHeld'
  (try simp only [Act.put, List.setIfInBounds_toArray, List.set_cons_zero, List.set_cons_succ])
  refine nextH (i := 3) (by decide +kernel) (by rfl) (by rfl) (fun K hK => ?_)
  (refine wp_store_mid 25 _ _ rfl _ 0 r.cells rfl rfl R5.there (by kernel_rfl) (by simp [Value.oneCell', R.cells]) ?_; (have R6 := R5.sets_all (vs := r.cells.toList) rfl); (have P6 := Bx.setsO (nb := w.heap.size) (by omega) r.cells.toList 0 P5); (have Q6 := Bx.setsO (nb := w.heap.size) (by omega) r.cells.toList 0 Q5); (have B6 : Below w.heap.size w (w5.setCells w.heap.size 0 r.cells.toList) := below_sets (Nat.le_refl _) _ _ (C5.out.below B1 (by omega))); (generalize w5.setCells w.heap.size 0 r.cells.toList = w6 at R6 P6 Q6 B6 ⊢))
  refine hK.out _ _ ?_ (fun hHeld' => ?_)
  (focus ((try dsimp only); (first | done | ((exact HQK.out _ (by first | exact Q7 | exact Q6 | exact Q5 | exact Q3)); done))))
  clear hK K hHeld
  have hHeld := hHeld'
  clear hHeld'
  (try simp only [Act.put, List.setIfInBounds_toArray, List.set_cons_zero, List.set_cons_succ])
  refine nextH (i := 4) (by decide +kernel) (by rfl) (by rfl) (fun K hK => ?_)
  (refine wp_store_mid 25 _ _ rfl _ 0 s.cells rfl rfl P6.there (by kernel_rfl) (by simp [Value.oneCell', R.cells]) ?_; (have R7 := Bx.setsO (nb := w.heap.size + 1) (by omega) s.cells.toList 0 R6); (have P7 := P6.sets_all (vs := s.cells.toList) rfl); (have Q7 := Bx.setsO (nb := w.heap.size + 1) (by omega) s.cells.toList 0 Q6))
  refine hK.out _ _ ?_ (fun hHeld' => ?_)
  (focus ((try dsimp only); (first | done | ((exact HQK.out _ (by first | exact Q7 | exact Q6 | exact Q5 | exact Q3)); done))))
  clear hK K hHeld
  have hHeld := hHeld'
  clear hHeld'
  (try simp only [Act.put, List.setIfInBounds_toArray, List.set_cons_zero, List.set_cons_succ])
  refine wpAnyH_done (by decide +kernel) ?_ _
  have B7 : Below w.heap.size w (w6.setCells (w.heap.size + 1) 0 s.cells.toList) := below_sets (by omega) _ _ B6
  have z7 : w.heap.size + 1 < (w6.setCells (w.heap.size + 1) 0 s.cells.toList).heap.size := P7.lt (by simp [R.cells])
  generalize w6.setCells (w.heap.size + 1) 0 s.cells.toList = W7 at R7 P7 B7 z7 ⊢
  obtain ⟨a0, a1, a2, a3, a4, a5, a6, a7, a8⟩ := (⟨R7.box 0 _ rfl, R7.box 1 _ rfl, R7.box 2 _ rfl, R7.box 3 _ rfl, R7.box 4 _ rfl, R7.box 5 _ rfl, R7.box 6 _ rfl, R7.box 7 _ rfl, R7.box 8 _ rfl⟩ : _ ∧ _ ∧ _ ∧ _ ∧ _ ∧ _ ∧ _ ∧ _ ∧ _)
  obtain ⟨b0, b1, b2, b3, b4, b5, b6, b7, b8⟩ := (⟨P7.box 0 _ rfl, P7.box 1 _ rfl, P7.box 2 _ rfl, P7.box 3 _ rfl, P7.box 4 _ rfl, P7.box 5 _ rfl, P7.box 6 _ rfl, P7.box 7 _ rfl, P7.box 8 _ rfl⟩ : _ ∧ _ ∧ _ ∧ _ ∧ _ ∧ _ ∧ _ ∧ _ ∧ _)
  clear hHeld R7 P7 Q7 R6 P6 Q6 R5 P5 Q5 R3 P3 Q3 hs5 hc5
  go_wp2_with fail
  refine bodyPost_ret (v := .tuple #[R.val r, R.val s]) (by simp [results, Try.results16, go_sem, R.val, R.cells, a0, a1, a2, a3, a4, a5, a6, a7, a8, b0, b1, b2, b3, b4, b5, b6, b7, b8]) rfl ⟨r, s, rfl, B7⟩

end Go.Proofs.Ytbjdfgfebepacaa
