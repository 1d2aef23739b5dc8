/- The law FnExactValidGame returns true for every argument, and every argument reads afterwards as before. No conditions. -/
import Derived.Test.YteabheocbkcmnaaValid
import Derived.Test.YteabheocbkcmnaaGame
import Derived.Test.YteabheocbkcmnaaHeldM
import Derived.Deep.CutRange
namespace Go.Proofs.Yteabheocbkcmnaa.lValidGame
set_option linter.unusedSimpArgs false
set_option linter.unusedVariables false
set_option linter.unnecessarySimpa false
open Go.RowKit Go.ChangeShapes Go.WideShapes Go.ChangeAt Go.Joins
open Go.ChangeMaps (open_string)

theorem range_below {w w' : World} {B b : Nat} {cs : List Value} (h : w.rangeAt b 0 cs) (hb : Below B w w') (hB : b < B) : w'.rangeAt b 0 cs := fun j v hv => (hb.cell (p := ⟨b, 0 + j, none⟩) hB).trans (h j v hv)
set_option maxRecDepth 100000 in
set_option maxHeartbeats 16000000 in
theorem walk (y : G) (k : GA) (w : World) (hy : GRow w y k) (m1 : y.Len maxLen) :
    Calls Try.prog 5 #[y.val k] w fun e w' => e = .returned (.bool true) ∧ Below w.heap.size w w' := by
  have X0 : BoxP w.heap.size (y.cells k).toList (w.alloc (.cells (y.cells k) 44)) := (Bx.alloc w (y.cells k) 44 rfl).box
  have RX := Lib.hid (boxP_range X0)
  have HW := Lib.hid (below_alloc1 w (.cells (y.cells k) 44))
  clear X0
  go_enter Try.func5, Try.ntmps5
  go_wp2_with (refine wpList_load_mid rfl 44 _ rfl _ _ rfl _ _ RX.out Try.underlying44 rfl (by kernel_rfl) ?_)
  refine (szGame_c y k 1048576 _ (by omega) (by omega) m1).mono ?_
  rintro e w1 ⟨rfl, hb1⟩
  have B1 := Lib.hid (below_next HW.out hb1)
  have RX1 := Lib.hid (range_below RX.out hb1 (by simp <;> omega))
  have z1 := hb1.size
  simp only [World.size_alloc] at z1
  clear hb1 RX HW
  by_cases hl1 : szG 1048576 y < 0
  · go_wp2_with fail
    go_ret
    exact ⟨rfl, B1.out⟩
  have l1 := szG_len hl1
  obtain ⟨b, hb⟩ : ∃ b, b = y.ok := ⟨_, rfl⟩
  have HI := Lib.hid (fun K W (h : GRow W y K) hc hcm => iValidGame_c y K W h l1 hc hcm)
  have HSV := Lib.hid (fun K W (h : GRow W y K) => sValidGame_c y K W h l1)
  rw [← hb] at HI HSV
  clear hb
  go_wp2_with (refine wpList_load_mid rfl 44 _ rfl _ _ rfl _ _ RX1.out Try.underlying44 rfl (by kernel_rfl) ?_)
  refine (toGame_c y k _ (hy.below B1.out (Nat.le_refl _)) l1).mono ?_
  rintro e w2 ⟨k2, rfl, ho2, hb2⟩
  have B2 := Lib.hid (below_next B1.out hb2)
  have RX2 := Lib.hid (range_below RX1.out hb2 (by omega))
  have z2 : w.heap.size + 1 ≤ w2.heap.size := Nat.le_trans z1 hb2.size
  have HO2 := Lib.hid ho2.row
  clear hb2 ho2 RX1 B1
  go_wp2_with fail
  refine (HSV.out k2 _ HO2.out).mono ?_
  rintro e w3 ⟨rfl, hb3⟩
  have B3 := Lib.hid (below_next B2.out hb3)
  have RX3 := Lib.hid (range_below RX2.out hb3 (by omega))
  have z3 : w.heap.size + 1 ≤ w3.heap.size := Nat.le_trans z2 hb3.size
  clear hb3 RX2 B2 HO2 HSV
  go_wp2_with (refine wpList_load_mid rfl 44 _ rfl _ _ rfl _ _ RX3.out Try.underlying44 rfl (by kernel_rfl) ?_)
  refine (toGame_c y k _ (hy.below B3.out (Nat.le_refl _)) l1).mono ?_
  rintro e w4 ⟨k4, rfl, ho4, hb4⟩
  have B4 := Lib.hid (below_next B3.out hb4)
  have RX4 := Lib.hid (range_below RX3.out hb4 (by omega))
  have z4 : w.heap.size + 1 ≤ w4.heap.size := Nat.le_trans z3 hb4.size
  have HO4 := Lib.hid ho4
  clear hb4 ho4 RX3 B3
  have X5 := (Bx.alloc w4 (y.cells k4) 29 rfl).box
  have BA := below_alloc1 w4 (.cells (y.cells k4) 29)
  have RX5 := Lib.hid (range_below RX4.out BA (by omega))
  have RN5 := Lib.hid (boxP_range X5)
  have B5 := Lib.hid (below_next B4.out BA)
  have HO5 := Lib.hid (HO4.out.below BA (Nat.le_refl _))
  have z5 : w.heap.size + 1 ≤ (w4.alloc (.cells (y.cells k4) 29)).heap.size := Nat.le_trans z4 BA.size
  have z5n : w4.heap.size < (w4.alloc (.cells (y.cells k4) 29)).heap.size := by simp
  obtain ⟨hcap1, hcap2⟩ := own_caps HO4.out.start.pits
  clear X5 BA RX4 B4 HO4
  go_wp2_with (refine wpList_load_mid rfl 29 _ rfl _ _ rfl _ _ RN5.out Try.underlying29 rfl (by kernel_rfl) ?_)
  refine (HI.out k4 _ HO5.out.row hcap1 hcap2).mono ?_
  rintro e w6 ⟨rfl, hb6⟩
  have B6 := Lib.hid (below_next B5.out hb6)
  have RX6 := range_below RX5.out hb6 (by omega)
  have RN6 := range_below RN5.out hb6 z5n
  have HO6 := Lib.hid (HO5.out.below hb6 (Nat.le_refl _))
  have zA : w.heap.size < w6.heap.size := Nat.lt_of_lt_of_le (by omega) hb6.size
  have zB : w4.heap.size < w6.heap.size := Nat.lt_of_lt_of_le z5n hb6.size
  have HB : Hid (∀ W, Below w6.heap.size w6 W → (W.rangeAt w4.heap.size 0 (y.cells k4).toList ∧ W.rangeAt w.heap.size 0 (y.cells k).toList)) := fun W hW => ⟨range_below RN6 hW zB, range_below RX6 hW zA⟩
  have KA : Hid (∀ W : World, (W.rangeAt w4.heap.size 0 (y.cells k4).toList ∧ W.rangeAt w.heap.size 0 (y.cells k).toList) → W.rangeAt w4.heap.size 0 (y.cells k4).toList) := fun W h => h.1
  have KX : Hid (∀ W : World, (W.rangeAt w4.heap.size 0 (y.cells k4).toList ∧ W.rangeAt w.heap.size 0 (y.cells k).toList) → W.rangeAt w.heap.size 0 (y.cells k).toList) := fun W h => h.2
  clear hb6 RX6 RN6 RX5 RN5 B5 HO5 HI
  go_wp2_with fail
  refine heldH (S := fun W => W.rangeAt w4.heap.size 0 (y.cells k4).toList ∧ W.rangeAt w.heap.size 0 (y.cells k).toList) (n := 5) (listed := #[false, false, false, false, false]) (by kernel_rfl) (by rfl) (by rfl) ?_ (fun hHeld => ?_)
  (focus ((try dsimp only); (first | done | (((refine HB.out _ ?_; first | (with_reducible exact HB8.out) | (with_reducible exact HB7.out) | exact (Below.refl _ _).drew)); done))))
  (refine takeM (i := 0) 29 _ (by decide +kernel) (by decide +kernel) (by kernel_rfl) (by rfl) (by exact fun _ _ _ h => h) (by rfl) rfl rfl KA.out Try.underlying29 rfl (by kernel_rfl) (by assumption) ?_); (try simp only [Act.put, List.setIfInBounds_toArray, List.set_cons_zero, List.set_cons_succ])
  (refine takeM (i := 1) 44 _ (by decide +kernel) (by decide +kernel) (by kernel_rfl) (by rfl) (by exact fun _ _ _ h => h) (by rfl) rfl rfl KX.out Try.underlying44 rfl (by kernel_rfl) (by assumption) ?_); (try simp only [Act.put, List.setIfInBounds_toArray, List.set_cons_zero, List.set_cons_succ])
  refine nextH (i := 2) (by decide +kernel) (by rfl) (by rfl) (fun K hK => ?_)
  go_simp
  (first | (go_at_call 18; (refine (eqGame_c y y k4 k7 _ (HO6.out.below HB7.out (Nat.le_refl _)).row ho7.row m1 m1).mono ?_); (rintro e w8 ⟨rfl, hb8⟩); (have HB8 := Lib.hid (below_next HB7.out hb8))) | (go_at_call 29; (refine (toGame_c y k _ (hy.below B6.out.drew (Nat.le_refl _)) l1).mono ?_); (rintro e w7 ⟨k7, rfl, ho7, hb7⟩); (have HB7 : Hid (Below w6.heap.size w6 w7) := below_next (Below.refl _ _).drew hb7)) | skip)
  refine hK.out _ _ ?_ (fun hHeld' => ?_)
  (focus ((try dsimp only); (first | done | (((refine HB.out _ ?_; first | (with_reducible exact HB8.out) | (with_reducible exact HB7.out) | exact (Below.refl _ _).drew)); done))))
  clear hK K hHeld
  have hHeld := hHeld'
  clear hHeld'
  (try simp only [Act.put, List.setIfInBounds_toArray, List.set_cons_zero, List.set_cons_succ])
  refine nextH (i := 3) (by decide +kernel) (by rfl) (by rfl) (fun K hK => ?_)
  go_simp
  (first | (go_at_call 18; (refine (eqGame_c y y k4 k7 _ (HO6.out.below HB7.out (Nat.le_refl _)).row ho7.row m1 m1).mono ?_); (rintro e w8 ⟨rfl, hb8⟩); (have HB8 := Lib.hid (below_next HB7.out hb8))) | (go_at_call 29; (refine (toGame_c y k _ (hy.below B6.out.drew (Nat.le_refl _)) l1).mono ?_); (rintro e w7 ⟨k7, rfl, ho7, hb7⟩); (have HB7 : Hid (Below w6.heap.size w6 w7) := below_next (Below.refl _ _).drew hb7)) | skip)
  refine hK.out _ _ ?_ (fun hHeld' => ?_)
  (focus ((try dsimp only); (first | done | (((refine HB.out _ ?_; first | (with_reducible exact HB8.out) | (with_reducible exact HB7.out) | exact (Below.refl _ _).drew)); done))))
  clear hK K hHeld
  have hHeld := hHeld'
  clear hHeld'
  (try simp only [Act.put, List.setIfInBounds_toArray, List.set_cons_zero, List.set_cons_succ])
  (refine takeH (i := 4) (v := ?_) (by decide +kernel) (by decide +kernel) (by kernel_rfl) (by rfl) (by exact fun _ _ _ h => h) (by rfl) ?_ (by assumption) ?_); rotate_left; (focus (intro w hSw; (try dsimp only at hSw); go_simp; (try with_reducible rfl); done)); (try simp only [Act.put, List.setIfInBounds_toArray, List.set_cons_zero, List.set_cons_succ])
  refine wpAnyH_done (by decide +kernel) ?_ _
  go_wp2_with fail
  go_ret
  exact ⟨rfl, below_next B6.out HB8.out⟩
set_option maxRecDepth 100000 in
theorem contract (H : Type) (enc : TypeId × Value → H) (W : World) (base : Nat) (args : Array Value) (ds gs : List (DataW H)) (before : List MemPlace)
    (hval : ∀ (j : Nat) t v, Try.f5.params[j]? = some t → args[j]? = some v → Value.okWide Try.prog W .any base t v)
    (hW : DataW.Whole enc Try.prog Try.f5.params.toList Rows.fnExactValidGameSpec.vars false W args.toList ds gs before) :
    Calls Try.prog 5 args W fun e W' => ∃ v, e = .returned v ∧ Rows.fnExactValidGameSpec.post enc Try.prog Try.f5 false true false false W args v W' := by
  have hW' := hW
  obtain ⟨p, q, hA0, hV, rfl, hfz, hnd⟩ := hW
  have hA : DataW.TrodAll enc Try.prog W 0 (fun _ => true) true Try.f5.params.toList args.toList ds p := hA0
  rw [Try.params5] at hA hval
  obtain ⟨v0, vs0, d0, ds0, p0, q0, hargs, rfl, rfl, h0, r0⟩ := trodAll_cons hA
  obtain ⟨rfl, rfl, rfl⟩ := trodAll_nil r0
  obtain rfl : args = #[v0] := by cases args; simp_all
  obtain ⟨a0, k0, rfl, w0⟩ := arg_game (hval 0 44 v0 rfl rfl) h0
  refine (walk a0 k0 W w0.1 w0.2).mono fun e W' ⟨he, hb⟩ => ?_
  subst he
  exact ⟨_, rfl, law_post hW' hb rfl rfl (by kernel_rfl) rfl⟩

set_option maxRecDepth 100000 in
theorem lifted (os : Os) (started : os.Started) (H : Type) (enc : TypeId × Value → H) :
    ReturnsInHanded {} Try.checked os 5 .any (Rows.fnExactValidGameSpec.pre6 enc Try.prog Try.f5 Rows.fnExactValidGameRow.domain false) (Rows.fnExactValidGameSpec.post enc Try.prog Try.f5 false true false false) := by
  refine returnsInHanded_of_change (C := Try.checked) (s := Rows.fnExactValidGameSpec) own started (by kernel_rfl) Try.func5
    (ChangeSpec.witness6 (enc := enc) (C := Try.checked) (s := Rows.fnExactValidGameSpec) false ⟨#[], #[.agg #[.int .i64 0, .int .i64 0, .bool false, .bool false, .bool false, .bool false, .bool false, .int .i64 0, .int .i64 0, .slice none 0 0, .slice none 0 0, .int .i64 0, .slice none 0 0, .slice none 0 0, .slice none 0 0, .int .i64 0, .int .i64 0]], []⟩ 8 (by kernel_rfl) (by kernel_rfl) (by kernel_rfl) (by kernel_rfl)) ?_
  intro W base args ds gs before hval hW _ _
  exact contract H enc W base args ds gs before hval hW

theorem proved : Rows.FnExactValidGameSaid :=
  OpenClaim.holds_of_wide 5 Try.f5 rfl rfl rfl rfl rfl rfl rfl ⟨rfl, rfl, rfl, rfl, rfl⟩ rfl rfl rfl rfl rfl (by kernel_rfl) Try.func5 (by kernel_rfl)
    (of_decide_eq_true (by kernel_rfl)) (by unfold Func.isWrapper; first | (rw [if_pos (by decide +kernel)]; kernel_rfl) | (rw [if_neg (by decide +kernel)]; exact ⟨rfl, rfl⟩))
    (fun os started H enc _ => lifted os started H enc)
end Go.Proofs.Yteabheocbkcmnaa.lValidGame
