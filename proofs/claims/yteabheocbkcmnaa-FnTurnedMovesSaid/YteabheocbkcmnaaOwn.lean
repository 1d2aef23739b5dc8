/- Own: a position of one's own: the reference's function. The contract holds for every argument, under the premises that it states. -/
import Derived.Test.YteabheocbkcmnaaNew
import Derived.Test.YteabheocbkcmnaaHeld
import Derived.Test.YteabheocbkcmnaaCore1
namespace Go.Proofs.Yteabheocbkcmnaa
set_option linter.unusedSimpArgs false
set_option linter.unusedVariables false
set_option linter.unnecessarySimpa false
open Go.RowKit Go.ChangeShapes Go.WideShapes Go.ChangeAt Go.Joins

set_option maxRecDepth 100000 in
set_option maxHeartbeats 8000000 in
theorem l04Own_c (pb po : Nat) (p : P) (pa sa : Option Addr) (pc sc : Nat) (w : World) (hp : P.At w pb po p pa pc sa sc) (h : PRow w p pa sa) (m1 : p.pits.length ≤ 16777216) (m2 : p.stores.length ≤ 16777216) :
    Calls Try.prog 133 #[.pointer (some ⟨pb, po, none⟩)] w (PosRes w p) := by
  have hpb : pb < w.heap.size := World.block_lt_of_cell? w _ hp.c0
  obtain ⟨p0, p1, p2⟩ := (⟨hp.c0, hp.c1, hp.c2⟩ : _ ∧ _ ∧ _)
  have B0 := below_alloc1 w (.cells #[.slice none 0 0, .slice none 0 0, .int .i64 0] 27)
  have hne : ¬ pb = w.heap.size := by omega
  have hS0 : (w.alloc (.cells #[.slice none 0 0, .slice none 0 0, .int .i64 0] 27)).cell? ⟨pb, po, none⟩ = some (.slice pa p.pits.length pc) ∧ (w.alloc (.cells #[.slice none 0 0, .slice none 0 0, .int .i64 0] 27)).cell? ⟨pb, po + 1, none⟩ = some (.slice sa p.stores.length sc) ∧ (w.alloc (.cells #[.slice none 0 0, .slice none 0 0, .int .i64 0] 27)).cell? ⟨pb, po + 2, none⟩ = some (.int .i64 p.player) :=
    ⟨((bcell B0).1 _ _ hpb).trans p0, ((bcell B0).1 _ _ hpb).trans p1, ((bcell B0).1 _ _ hpb).trans p2⟩
  have HB0 := Lib.hid B0
  have HH := Lib.hid h
  have HS0 := Lib.hid hS0
  clear hp h B0 hS0 p0 p1 p2
  go_enter Try.func133, Try.ntmps133
  go_wp2_with fail
  refine heldH (S := fun W => W.cell? ⟨pb, po, none⟩ = some (.slice pa p.pits.length pc) ∧ W.cell? ⟨pb, po + 1, none⟩ = some (.slice sa p.stores.length sc) ∧ W.cell? ⟨pb, po + 2, none⟩ = some (.int .i64 p.player)) (n := 16) (listed := #[false, false, false, false, false, false, false, false, false, false, false, false, false, false, false, false]) (by kernel_rfl) (by rfl) (by rfl) ?_ (fun hHeld => ?_)
  (focus ((try dsimp only); (first | done | ((first | (with_reducible exact hSC) | (with_reducible exact hSB) | (with_reducible exact hSA) | exact HS0.out); done))))
  (refine takeH (i := 0) (v := ?_) (by decide +kernel) (by decide +kernel) (by kernel_rfl) (by rfl) (by exact fun _ _ _ h => h) (by rfl) ?_ (by assumption) ?_); rotate_left; (focus (intro w hSw; (try dsimp only at hSw); go_simp; (try with_reducible rfl); done)); (try simp only [Act.put, List.setIfInBounds_toArray, List.set_cons_zero, List.set_cons_succ])
  (refine takeH (i := 1) (v := ?_) (by decide +kernel) (by decide +kernel) (by kernel_rfl) (by rfl) (by exact fun _ _ _ h => h) (by rfl) ?_ (by assumption) ?_); rotate_left; (focus (intro w hSw; (try dsimp only at hSw); go_simp; (try with_reducible rfl); done)); (try simp only [Act.put, List.setIfInBounds_toArray, List.set_cons_zero, List.set_cons_succ])
  (refine takeH (i := 2) (v := ?_) (by decide +kernel) (by decide +kernel) (by kernel_rfl) (by rfl) (by exact fun _ _ _ h => h) (by rfl) ?_ (by assumption) ?_); rotate_left; (focus (intro w hSw; (try dsimp only at hSw); go_simp; (try with_reducible rfl); done)); (try simp only [Act.put, List.setIfInBounds_toArray, List.set_cons_zero, List.set_cons_succ])
  (refine takeH (i := 3) (v := ?_) (by decide +kernel) (by decide +kernel) (by kernel_rfl) (by rfl) (by exact fun _ _ _ h => h) (by rfl) ?_ (by assumption) ?_); rotate_left; (focus (intro w hSw; (try dsimp only at hSw); go_simp; (try with_reducible rfl); done)); (try simp only [Act.put, List.setIfInBounds_toArray, List.set_cons_zero, List.set_cons_succ])
  (refine takeH (i := 5) (v := ?_) (by decide +kernel) (by decide +kernel) (by kernel_rfl) (by rfl) (by exact fun _ _ _ h => h) (by rfl) ?_ (by assumption) ?_); rotate_left; (focus (intro w hSw; (try dsimp only at hSw); go_simp; (try with_reducible rfl); done)); (try simp only [Act.put, List.setIfInBounds_toArray, List.set_cons_zero, List.set_cons_succ])
  (refine takeH (i := 6) (v := ?_) (by decide +kernel) (by decide +kernel) (by kernel_rfl) (by rfl) (by exact fun _ _ _ h => h) (by rfl) ?_ (by assumption) ?_); rotate_left; (focus (intro w hSw; (try dsimp only at hSw); go_simp; (try with_reducible rfl); done)); (try simp only [Act.put, List.setIfInBounds_toArray, List.set_cons_zero, List.set_cons_succ])
  (refine takeH (i := 7) (v := ?_) (by decide +kernel) (by decide +kernel) (by kernel_rfl) (by rfl) (by exact fun _ _ _ h => h) (by rfl) ?_ (by assumption) ?_); rotate_left; (focus (intro w hSw; (try dsimp only at hSw); go_simp; (try with_reducible rfl); done)); (try simp only [Act.put, List.setIfInBounds_toArray, List.set_cons_zero, List.set_cons_succ])
  (refine takeH (i := 8) (v := ?_) (by decide +kernel) (by decide +kernel) (by kernel_rfl) (by rfl) (by exact fun _ _ _ h => h) (by rfl) ?_ (by assumption) ?_); rotate_left; (focus (intro w hSw; (try dsimp only at hSw); go_simp; (try with_reducible rfl); done)); (try simp only [Act.put, List.setIfInBounds_toArray, List.set_cons_zero, List.set_cons_succ])
  (refine takeH (i := 10) (v := ?_) (by decide +kernel) (by decide +kernel) (by kernel_rfl) (by rfl) (by exact fun _ _ _ h => h) (by rfl) ?_ (by assumption) ?_); rotate_left; (focus (intro w hSw; (try dsimp only at hSw); go_simp; (try with_reducible rfl); done)); (try simp only [Act.put, List.setIfInBounds_toArray, List.set_cons_zero, List.set_cons_succ])
  (refine takeH (i := 11) (v := ?_) (by decide +kernel) (by decide +kernel) (by kernel_rfl) (by rfl) (by exact fun _ _ _ h => h) (by rfl) ?_ (by assumption) ?_); rotate_left; (focus (intro w hSw; (try dsimp only at hSw); go_simp; (try with_reducible rfl); done)); (try simp only [Act.put, List.setIfInBounds_toArray, List.set_cons_zero, List.set_cons_succ])
  (refine takeH (i := 12) (v := ?_) (by decide +kernel) (by decide +kernel) (by kernel_rfl) (by rfl) (by exact fun _ _ _ h => h) (by rfl) ?_ (by assumption) ?_); rotate_left; (focus (intro w hSw; (try dsimp only at hSw); go_simp; (try with_reducible rfl); done)); (try simp only [Act.put, List.setIfInBounds_toArray, List.set_cons_zero, List.set_cons_succ])
  (refine takeH (i := 13) (v := ?_) (by decide +kernel) (by decide +kernel) (by kernel_rfl) (by rfl) (by exact fun _ _ _ h => h) (by rfl) ?_ (by assumption) ?_); rotate_left; (focus (intro w hSw; (try dsimp only at hSw); go_simp; (try with_reducible rfl); done)); (try simp only [Act.put, List.setIfInBounds_toArray, List.set_cons_zero, List.set_cons_succ])
  refine nextH (i := 4) (by decide +kernel) (by rfl) (by rfl) (fun K hK => ?_)
  go_simp
  (first | (go_at_call 150; (refine (l00Own_c sa sc p.stores _ (HH.out.stores.below HB1.out (Nat.le_refl _)) m2).mono ?_); (rintro e w2 ⟨sa', sc', rfl, ho2, hb2⟩); (have hSB : w2.cell? ⟨pb, po, none⟩ = some (.slice pa p.pits.length pc) ∧ w2.cell? ⟨pb, po + 1, none⟩ = some (.slice sa p.stores.length sc) ∧ w2.cell? ⟨pb, po + 2, none⟩ = some (.int .i64 p.player) := ⟨((bcell hb2).1 _ _ hpb1).trans hSA.1, ((bcell hb2).1 _ _ hpb1).trans hSA.2.1, ((bcell hb2).1 _ _ hpb1).trans hSA.2.2⟩); (have z0 := ((bcell hb2).1 _ _ hz1).trans y0); (have z1 := ((bcell hb2).1 _ _ hz1).trans y1); (have z2 := ((bcell hb2).1 _ _ hz1).trans y2); (have zf := fun o => ((bcell hb2).2 _ o hz1).trans (yf o)); (have hSC : (((w2.setCell ⟨w.heap.size, 0, none⟩ (.slice pa' p.pits.length pc')).setCell ⟨w.heap.size, 1, none⟩ (.slice sa' p.stores.length sc')).setCell ⟨w.heap.size, 2, none⟩ (.int .i64 p.player)).cell? ⟨pb, po, none⟩ = some (.slice pa p.pits.length pc) ∧ (((w2.setCell ⟨w.heap.size, 0, none⟩ (.slice pa' p.pits.length pc')).setCell ⟨w.heap.size, 1, none⟩ (.slice sa' p.stores.length sc')).setCell ⟨w.heap.size, 2, none⟩ (.int .i64 p.player)).cell? ⟨pb, po + 1, none⟩ = some (.slice sa p.stores.length sc) ∧ (((w2.setCell ⟨w.heap.size, 0, none⟩ (.slice pa' p.pits.length pc')).setCell ⟨w.heap.size, 1, none⟩ (.slice sa' p.stores.length sc')).setCell ⟨w.heap.size, 2, none⟩ (.int .i64 p.player)).cell? ⟨pb, po + 2, none⟩ = some (.int .i64 p.player) := by (refine ⟨?_, ?_, ?_⟩ <;> rw [cell_other hne, cell_other hne, cell_other hne]); exact hSB.1; exact hSB.2.1; exact hSB.2.2)) | (go_at_call 150; (refine (l00Own_c pa pc p.pits _ (HH.out.pits.below HB0.out.drew (Nat.le_refl _)) m1).mono ?_); (rintro e w1 ⟨pa', pc', rfl, ho1, hb1⟩); (have hz1 : w.heap.size < w1.heap.size := (Nat.lt_of_lt_of_le (by simp; try omega) hb1.size)); (have hpb1 : pb < w1.heap.size := by omega); (have hSA : w1.cell? ⟨pb, po, none⟩ = some (.slice pa p.pits.length pc) ∧ w1.cell? ⟨pb, po + 1, none⟩ = some (.slice sa p.stores.length sc) ∧ w1.cell? ⟨pb, po + 2, none⟩ = some (.int .i64 p.player) := ⟨((bcell hb1).1 _ _ (by simp; omega)).trans HS0.out.1, ((bcell hb1).1 _ _ (by simp; omega)).trans HS0.out.2.1, ((bcell hb1).1 _ _ (by simp; omega)).trans HS0.out.2.2⟩); (have y0 : w1.cell? ⟨w.heap.size, 0, none⟩ = some (.slice none 0 0) := ((bcell hb1).1 w.heap.size 0 (by simp)).trans (by simp [go_sem])); (have y1 : w1.cell? ⟨w.heap.size, 1, none⟩ = some (.slice none 0 0) := ((bcell hb1).1 w.heap.size 1 (by simp)).trans (by simp [go_sem])); (have y2 : w1.cell? ⟨w.heap.size, 2, none⟩ = some (.int .i64 0) := ((bcell hb1).1 w.heap.size 2 (by simp)).trans (by simp [go_sem])); (have yf : ∀ o, w1.frozen? ⟨w.heap.size, o, none⟩ = false := fun o => ((bcell hb1).2 w.heap.size o (by simp)).trans (by simp [go_sem])); (have HB1 : Hid (Below w.heap.size w w1) := below_next HB0.out.drew hb1)) | skip)
  refine hK.out _ _ ?_ (fun hHeld' => ?_)
  (focus ((try dsimp only); (first | done | ((first | (with_reducible exact hSC) | (with_reducible exact hSB) | (with_reducible exact hSA) | exact HS0.out); done))))
  clear hK K hHeld
  have hHeld := hHeld'
  clear hHeld'
  (try simp only [Act.put, List.setIfInBounds_toArray, List.set_cons_zero, List.set_cons_succ])
  refine nextH (i := 9) (by decide +kernel) (by rfl) (by rfl) (fun K hK => ?_)
  go_simp
  (first | (go_at_call 150; (refine (l00Own_c sa sc p.stores _ (HH.out.stores.below HB1.out (Nat.le_refl _)) m2).mono ?_); (rintro e w2 ⟨sa', sc', rfl, ho2, hb2⟩); (have hSB : w2.cell? ⟨pb, po, none⟩ = some (.slice pa p.pits.length pc) ∧ w2.cell? ⟨pb, po + 1, none⟩ = some (.slice sa p.stores.length sc) ∧ w2.cell? ⟨pb, po + 2, none⟩ = some (.int .i64 p.player) := ⟨((bcell hb2).1 _ _ hpb1).trans hSA.1, ((bcell hb2).1 _ _ hpb1).trans hSA.2.1, ((bcell hb2).1 _ _ hpb1).trans hSA.2.2⟩); (have z0 := ((bcell hb2).1 _ _ hz1).trans y0); (have z1 := ((bcell hb2).1 _ _ hz1).trans y1); (have z2 := ((bcell hb2).1 _ _ hz1).trans y2); (have zf := fun o => ((bcell hb2).2 _ o hz1).trans (yf o)); (have hSC : (((w2.setCell ⟨w.heap.size, 0, none⟩ (.slice pa' p.pits.length pc')).setCell ⟨w.heap.size, 1, none⟩ (.slice sa' p.stores.length sc')).setCell ⟨w.heap.size, 2, none⟩ (.int .i64 p.player)).cell? ⟨pb, po, none⟩ = some (.slice pa p.pits.length pc) ∧ (((w2.setCell ⟨w.heap.size, 0, none⟩ (.slice pa' p.pits.length pc')).setCell ⟨w.heap.size, 1, none⟩ (.slice sa' p.stores.length sc')).setCell ⟨w.heap.size, 2, none⟩ (.int .i64 p.player)).cell? ⟨pb, po + 1, none⟩ = some (.slice sa p.stores.length sc) ∧ (((w2.setCell ⟨w.heap.size, 0, none⟩ (.slice pa' p.pits.length pc')).setCell ⟨w.heap.size, 1, none⟩ (.slice sa' p.stores.length sc')).setCell ⟨w.heap.size, 2, none⟩ (.int .i64 p.player)).cell? ⟨pb, po + 2, none⟩ = some (.int .i64 p.player) := by (refine ⟨?_, ?_, ?_⟩ <;> rw [cell_other hne, cell_other hne, cell_other hne]); exact hSB.1; exact hSB.2.1; exact hSB.2.2)) | (go_at_call 150; (refine (l00Own_c pa pc p.pits _ (HH.out.pits.below HB0.out.drew (Nat.le_refl _)) m1).mono ?_); (rintro e w1 ⟨pa', pc', rfl, ho1, hb1⟩); (have hz1 : w.heap.size < w1.heap.size := (Nat.lt_of_lt_of_le (by simp; try omega) hb1.size)); (have hpb1 : pb < w1.heap.size := by omega); (have hSA : w1.cell? ⟨pb, po, none⟩ = some (.slice pa p.pits.length pc) ∧ w1.cell? ⟨pb, po + 1, none⟩ = some (.slice sa p.stores.length sc) ∧ w1.cell? ⟨pb, po + 2, none⟩ = some (.int .i64 p.player) := ⟨((bcell hb1).1 _ _ (by simp; omega)).trans HS0.out.1, ((bcell hb1).1 _ _ (by simp; omega)).trans HS0.out.2.1, ((bcell hb1).1 _ _ (by simp; omega)).trans HS0.out.2.2⟩); (have y0 : w1.cell? ⟨w.heap.size, 0, none⟩ = some (.slice none 0 0) := ((bcell hb1).1 w.heap.size 0 (by simp)).trans (by simp [go_sem])); (have y1 : w1.cell? ⟨w.heap.size, 1, none⟩ = some (.slice none 0 0) := ((bcell hb1).1 w.heap.size 1 (by simp)).trans (by simp [go_sem])); (have y2 : w1.cell? ⟨w.heap.size, 2, none⟩ = some (.int .i64 0) := ((bcell hb1).1 w.heap.size 2 (by simp)).trans (by simp [go_sem])); (have yf : ∀ o, w1.frozen? ⟨w.heap.size, o, none⟩ = false := fun o => ((bcell hb1).2 w.heap.size o (by simp)).trans (by simp [go_sem])); (have HB1 : Hid (Below w.heap.size w w1) := below_next HB0.out.drew hb1)) | skip)
  refine hK.out _ _ ?_ (fun hHeld' => ?_)
  (focus ((try dsimp only); (first | done | ((first | (with_reducible exact hSC) | (with_reducible exact hSB) | (with_reducible exact hSA) | exact HS0.out); done))))
  clear hK K hHeld
  have hHeld := hHeld'
  clear hHeld'
  (try simp only [Act.put, List.setIfInBounds_toArray, List.set_cons_zero, List.set_cons_succ])
  (refine takeH (i := 14) (v := ?_) (by decide +kernel) (by decide +kernel) (by kernel_rfl) (by rfl) (by exact fun _ _ _ h => h) (by rfl) ?_ (by assumption) ?_); rotate_left; (focus (intro w hSw; (try dsimp only at hSw); go_simp; (try with_reducible rfl); done)); (try simp only [Act.put, List.setIfInBounds_toArray, List.set_cons_zero, List.set_cons_succ])
  refine nextH (i := 15) (by decide +kernel) (by rfl) (by rfl) (fun K hK => ?_)
  go_simp
  (first | (go_at_call 150; (refine (l00Own_c sa sc p.stores _ (HH.out.stores.below HB1.out (Nat.le_refl _)) m2).mono ?_); (rintro e w2 ⟨sa', sc', rfl, ho2, hb2⟩); (have hSB : w2.cell? ⟨pb, po, none⟩ = some (.slice pa p.pits.length pc) ∧ w2.cell? ⟨pb, po + 1, none⟩ = some (.slice sa p.stores.length sc) ∧ w2.cell? ⟨pb, po + 2, none⟩ = some (.int .i64 p.player) := ⟨((bcell hb2).1 _ _ hpb1).trans hSA.1, ((bcell hb2).1 _ _ hpb1).trans hSA.2.1, ((bcell hb2).1 _ _ hpb1).trans hSA.2.2⟩); (have z0 := ((bcell hb2).1 _ _ hz1).trans y0); (have z1 := ((bcell hb2).1 _ _ hz1).trans y1); (have z2 := ((bcell hb2).1 _ _ hz1).trans y2); (have zf := fun o => ((bcell hb2).2 _ o hz1).trans (yf o)); (have hSC : (((w2.setCell ⟨w.heap.size, 0, none⟩ (.slice pa' p.pits.length pc')).setCell ⟨w.heap.size, 1, none⟩ (.slice sa' p.stores.length sc')).setCell ⟨w.heap.size, 2, none⟩ (.int .i64 p.player)).cell? ⟨pb, po, none⟩ = some (.slice pa p.pits.length pc) ∧ (((w2.setCell ⟨w.heap.size, 0, none⟩ (.slice pa' p.pits.length pc')).setCell ⟨w.heap.size, 1, none⟩ (.slice sa' p.stores.length sc')).setCell ⟨w.heap.size, 2, none⟩ (.int .i64 p.player)).cell? ⟨pb, po + 1, none⟩ = some (.slice sa p.stores.length sc) ∧ (((w2.setCell ⟨w.heap.size, 0, none⟩ (.slice pa' p.pits.length pc')).setCell ⟨w.heap.size, 1, none⟩ (.slice sa' p.stores.length sc')).setCell ⟨w.heap.size, 2, none⟩ (.int .i64 p.player)).cell? ⟨pb, po + 2, none⟩ = some (.int .i64 p.player) := by (refine ⟨?_, ?_, ?_⟩ <;> rw [cell_other hne, cell_other hne, cell_other hne]); exact hSB.1; exact hSB.2.1; exact hSB.2.2)) | (go_at_call 150; (refine (l00Own_c pa pc p.pits _ (HH.out.pits.below HB0.out.drew (Nat.le_refl _)) m1).mono ?_); (rintro e w1 ⟨pa', pc', rfl, ho1, hb1⟩); (have hz1 : w.heap.size < w1.heap.size := (Nat.lt_of_lt_of_le (by simp; try omega) hb1.size)); (have hpb1 : pb < w1.heap.size := by omega); (have hSA : w1.cell? ⟨pb, po, none⟩ = some (.slice pa p.pits.length pc) ∧ w1.cell? ⟨pb, po + 1, none⟩ = some (.slice sa p.stores.length sc) ∧ w1.cell? ⟨pb, po + 2, none⟩ = some (.int .i64 p.player) := ⟨((bcell hb1).1 _ _ (by simp; omega)).trans HS0.out.1, ((bcell hb1).1 _ _ (by simp; omega)).trans HS0.out.2.1, ((bcell hb1).1 _ _ (by simp; omega)).trans HS0.out.2.2⟩); (have y0 : w1.cell? ⟨w.heap.size, 0, none⟩ = some (.slice none 0 0) := ((bcell hb1).1 w.heap.size 0 (by simp)).trans (by simp [go_sem])); (have y1 : w1.cell? ⟨w.heap.size, 1, none⟩ = some (.slice none 0 0) := ((bcell hb1).1 w.heap.size 1 (by simp)).trans (by simp [go_sem])); (have y2 : w1.cell? ⟨w.heap.size, 2, none⟩ = some (.int .i64 0) := ((bcell hb1).1 w.heap.size 2 (by simp)).trans (by simp [go_sem])); (have yf : ∀ o, w1.frozen? ⟨w.heap.size, o, none⟩ = false := fun o => ((bcell hb1).2 w.heap.size o (by simp)).trans (by simp [go_sem])); (have HB1 : Hid (Below w.heap.size w w1) := below_next HB0.out.drew hb1)) | skip)
  refine hK.out _ _ ?_ (fun hHeld' => ?_)
  (focus ((try dsimp only); (first | done | ((first | (with_reducible exact hSC) | (with_reducible exact hSB) | (with_reducible exact hSA) | exact HS0.out); done))))
  clear hK K hHeld
  have hHeld := hHeld'
  clear hHeld'
  (try simp only [Act.put, List.setIfInBounds_toArray, List.set_cons_zero, List.set_cons_succ])
  refine wpAnyH_done (by decide +kernel) ?_ _
  have B2 := Lib.hid (below_next HB1.out hb2)
  simp only [World.size_alloc, World.size_drew] at ho1
  have HA := Lib.hid (apart_of ho1 ho2 (Nat.le_refl _))
  have O1 := Lib.hid (own_below ho1 hb2 (Nat.le_refl _))
  have O2 := Lib.hid ho2
  clear ho1 ho2 hb1 hb2 hSA hSB hSC hHeld y0 y1 y2 yf
  go_wp2
  refine bodyPost_ret (v := p.val pa' pc' sa' sc') (by simp [results, Try.results133, go_sem, z0, z1, z2, P.val, P.cells]) rfl ?_
  refine ⟨pa', pc', sa', sc', rfl, ⟨?_, ?_, HA.out⟩, ?_⟩
  · have k0 := O1.out
    refine ownsRow_le (base := w.heap.size + 1) ?_ (by omega)
    repeat (first | (with_reducible exact k0) | ((with_reducible refine ownsRow_setCell_below ?_ ?_ _); rotate_left; (simp <;> omega)))
  · have k0 := O2.out
    refine ownsRow_le (base := w1.heap.size) ?_ (by omega)
    repeat (first | (with_reducible exact k0) | ((with_reducible refine ownsRow_setCell_below ?_ ?_ _); rotate_left; (simp <;> omega)))
  · have k0 := B2.out
    repeat (first | (with_reducible exact k0) | ((with_reducible refine Below.setCell ?_ ?_ _); rotate_left; (simp <;> omega)))


/-! ### PosS: whether two positions are equal: both sides' functions. Each contract holds for every argument, under the premises that it states. -/
set_option maxHeartbeats 4000000 in
theorem SamePosition_c (x y : P) (pa sa qa ta : Option Addr) (pc sc qc tc : Nat) (w : World) (hx : PRow w x pa sa) (hy : PRow w y qa ta) (m1 : x.pits.length ≤ maxLen) (m2 : x.stores.length ≤ maxLen) (m3 : y.pits.length ≤ maxLen) (m4 : y.stores.length ≤ maxLen) :
    Calls Try.prog 89 #[x.val pa pc sa sc, y.val qa qc ta tc] w fun e w' => e = .returned (.bool (decide (x = y))) ∧ Below w.heap.size w w' := by
  obtain ⟨xp, xs, xl⟩ := x
  obtain ⟨yp, ys, yl⟩ := y
  obtain ⟨hx1, hx2⟩ := hx
  obtain ⟨hy1, hy2⟩ := hy
  by_cases hm : xl = yl
  · subst hm
    go_enter Try.func89, Try.ntmps89
    go_wp2_with fail
    refine (sameNumbers_c _ _ _ _ xp yp _ ((hx1.below (below_alloc2 _ _ _) (Nat.le_refl _))) ((hy1.below (below_alloc2 _ _ _) (Nat.le_refl _))) m1 m3).mono ?_
    rintro e w' ⟨rfl, n, rfl⟩
    by_cases hv : xp = yp
    · subst hv
      go_wp2_with fail
      refine (sameNumbers_c _ _ _ _ xs ys _ ((hx2.below ((below_alloc2 _ _ _).trans (below_draws _ _ _)) (Nat.le_refl _))) ((hy2.below ((below_alloc2 _ _ _).trans (below_draws _ _ _)) (Nat.le_refl _))) m2 m4).mono ?_
      rintro e w' ⟨rfl, n', rfl⟩
      go_wp2
      go_ret
      exact ⟨by simp, (below_alloc2 _ _ _).trans (below_draws _ _ _)⟩
    · have hd : decide (xp = yp) = false := decide_eq_false hv
      have HV := Lib.hid hv
      clear hv
      go_wp2
      go_ret
      exact ⟨by simp [HV.out], (below_alloc2 _ _ _).trans (below_draws _ _ _)⟩
  · have hd : (xl == yl) = false := by simpa using hm
    have HM := Lib.hid hm
    clear hm
    go_enter Try.func89, Try.ntmps89
    go_wp2
    go_ret
    exact ⟨by simp [HM.out], below_alloc2 _ _ _⟩

set_option maxRecDepth 100000 in
set_option maxHeartbeats 1000000 in
theorem l04Same_c (b c o p : Nat) (x y : P) (pa sa qa ta : Option Addr) (pc sc qc tc : Nat) (w : World) (hb : P.At w b o x pa pc sa sc) (hc : P.At w c p y qa qc ta tc) (hx : PRow w x pa sa) (hy : PRow w y qa ta) (m1 : x.pits.length ≤ maxLen) (m2 : x.stores.length ≤ maxLen) (m3 : y.pits.length ≤ maxLen) (m4 : y.stores.length ≤ maxLen) :
    Calls Try.prog 115 #[.pointer (some ⟨b, o, none⟩), .pointer (some ⟨c, p, none⟩)] w fun e w' => e = .returned (.bool (decide (x = y))) ∧ ∃ m, w' = w.drewN m := by
  obtain ⟨xp, xs, xl⟩ := x
  obtain ⟨yp, ys, yl⟩ := y
  obtain ⟨hx1, hx2⟩ := hx
  obtain ⟨hy1, hy2⟩ := hy
  obtain ⟨b0, b1, b2⟩ := hb
  obtain ⟨c0, c1, c2⟩ := hc
  dsimp only at hx1 hx2 hy1 hy2 b0 b1 b2 c0 c1 c2 m1 m2 m3 m4
  have X1 : ∀ n, Ints (w.drewN n) pa xp := fun n => hx1
  have X2 : ∀ n, Ints (w.drewN n) sa xs := fun n => hx2
  have Y1 : ∀ n, Ints (w.drewN n) qa yp := fun n => hy1
  have Y2 : ∀ n, Ints (w.drewN n) ta ys := fun n => hy2
  clear hx1 hx2 hy1 hy2
  have Q1 : ∀ n, Calls Try.prog 110 #[.slice pa xp.length pc, .slice qa yp.length qc] (w.drewN n) fun e w' => e = .returned (.bool (decide (xp = yp))) ∧ ∃ m, w' = (w.drewN n).drewN m := fun n => l00Same_c _ _ _ _ _ _ _ (X1 n) (Y1 n) m1 m3
  have Q2 : ∀ n, Calls Try.prog 110 #[.slice sa xs.length sc, .slice ta ys.length tc] (w.drewN n) fun e w' => e = .returned (.bool (decide (xs = ys))) ∧ ∃ m, w' = (w.drewN n).drewN m := fun n => l00Same_c _ _ _ _ _ _ _ (X2 n) (Y2 n) m2 m4
  have HE : Hid (decide ((⟨xp, xs, xl⟩ : P) = ⟨yp, ys, yl⟩) = (decide (xp = yp) && (decide (xs = ys) && (xl == yl)))) := by
    unfold Hid
    by_cases e1 : xp = yp <;> by_cases e2 : xs = ys <;> by_cases e3 : xl = yl <;> simp [e1, e2, e3]
  cases hd : decide (xp = yp) <;> cases hd2 : decide (xs = ys)
  all_goals (rw [hd] at Q1; rw [hd2] at Q2; rw [hd, hd2] at HE; rw [HE.out]; clear hd hd2 HE X1 X2 Y1 Y2 m1 m2 m3 m4)
  all_goals (have Q1 := Lib.hid Q1; have Q2 := Lib.hid Q2)
  all_goals
    go_enter Try.func115, Try.ntmps115
    go_wp2
    go_quiet ((go_at_call 110; (first | (with_reducible exact Calls.quiet_of (Q1.out _)) | (with_reducible exact Calls.quiet_of (Q2.out _)))))
    go_wp2
    go_ret
    exact ⟨by simp, _, rfl⟩


end Go.Proofs.Yteabheocbkcmnaa
