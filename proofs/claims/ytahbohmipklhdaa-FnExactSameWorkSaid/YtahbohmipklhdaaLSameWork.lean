/- The law FnExactSameWork returns true for every argument, and every argument reads afterwards as before. No conditions. -/
import Derived.Test.YtahbohmipklhdaaTable
import Derived.Deep.RegionHeld3
namespace Go.Proofs.Ytahbohmipklhdaa.lSameWork
set_option linter.unusedSimpArgs false
set_option linter.unusedVariables false
open Go.RowKit Go.ChangeShapes Go.WideShapes Go.ChangeAt Go.Joins
open Go.ChangeMaps (open_string)

set_option maxRecDepth 100000 in
set_option maxHeartbeats 2000000 in
theorem walk (x y : Wk) (k l : TA) (w : World) (hx : TRow w x.table k) (hy : TRow w y.table l) (m1 : x.table.values.length ≤ maxLen) (m2 : x.table.ranks.length ≤ maxLen) (m3 : y.table.values.length ≤ maxLen) (m4 : y.table.ranks.length ≤ maxLen) :
    Calls Try.prog 9 #[x.val k, y.val l] w fun e w' => e = .returned (.bool true) ∧ Below w.heap.size w w' := by
  go_enter Try.func9, Try.ntmps9
  go_wp2_with fail
  refine (szWork_c x k _ _ (by omega) (by omega) m1 m2).mono ?_
  rintro e w1 ⟨rfl, hb1⟩
  have hB0 := Below.refl ((w.alloc (.cells (x.cells k) 52)).alloc (.cells (y.cells l) 52)).heap.size ((w.alloc (.cells (x.cells k) 52)).alloc (.cells (y.cells l) 52))
  have hW0 : Below w.heap.size w ((w.alloc (.cells (x.cells k) 52)).alloc (.cells (y.cells l) 52)) := below_alloc2 _ _ _
  have hB1 := below_next hB0 hb1
  by_cases hl1 : szT 1048576 x.table < 0
  · go_wp2
    go_ret
    exact ⟨rfl, hW0.trans (hB1.mono (by simp <;> omega))⟩
  obtain ⟨l1, l2, l3, l4⟩ := szT_len hl1 (by omega) (by omega)
  obtain ⟨hc1, hf1⟩ := bcell hB1
  simp only [World.size_alloc] at hc1 hf1
  go_wp2_with fail
  refine (szWork_c y l _ _ l3 l4 m3 m4).mono ?_
  rintro e w2 ⟨rfl, hb2⟩
  have hB2 := below_next hB1 hb2
  obtain ⟨hc2, hf2⟩ := bcell hB2
  simp only [World.size_alloc] at hc2 hf2
  clear hc1 hf1
  by_cases hl2 : szT (szT 1048576 x.table) y.table < 0
  · go_wp2
    go_ret
    exact ⟨rfl, hW0.trans (hB2.mono (by simp <;> omega))⟩
  obtain ⟨l5, l6, l7, l8⟩ := szT_len hl2 l3 l4
  go_wp2_with fail
  clear hb1 hb2 hf2
  have HB2 := Lib.hid hB2
  clear hB1 hB2 hB0
  go_region_held3 (fun w' => ∀ b o, b < w.heap.size + 1 + 1 → w'.cell? ⟨b, o, none⟩ = ((w.alloc (.cells (x.cells k) 52)).alloc (.cells (y.cells l) 52)).cell? ⟨b, o, none⟩) (first | exact hc2 | exact hcA | exact hcB | exact hcC)
    (first
      | (go_at_call 36; refine (toWork_c y l _ (hy.below (hW0.trans (HB3.out.mono (by simp <;> omega))) (Nat.le_refl _)) l5 l6).mono ?_; rintro e w4 ⟨k4, rfl, ho4, hb4⟩; have HB4 := Lib.hid (below_next HB3.out hb4); have hcB := (bcell HB4.out).1; simp only [World.size_alloc] at hcB)
      | (go_at_call 36; refine (toWork_c x k _ (hx.below (hW0.trans (HB2.out.drew.mono (by simp <;> omega))) (Nat.le_refl _)) l1 l2).mono ?_; rintro e w3 ⟨k3, rfl, ho3, hb3⟩; have HB3 := Lib.hid (below_next HB2.out.drew hb3); have hcA := (bcell HB3.out).1; simp only [World.size_alloc] at hcA)
      | (go_at_call 35; refine (sSameWork_c x y k3 k4 _ (ho3.row.below hb4 (Nat.le_refl _)) ho4.row m1 m2 m3 m4).mono ?_; rintro e w5 ⟨rfl, hb5⟩; have HB5 := Lib.hid (below_next HB4.out hb5); have hcC := (bcell HB5.out).1; simp only [World.size_alloc] at hcC))
  clear hcA hcB hc2 ho3 ho4 hb3 hb4 hb5
  go_wp2_with fail
  refine (toWork_c x k _ (hx.below (hW0.trans (HB5.out.mono (by simp <;> omega))) (Nat.le_refl _)) l1 l2).mono ?_
  rintro e w6 ⟨k6, rfl, ho6, hb6⟩
  have HB6 := Lib.hid (below_next HB5.out hb6)
  have hcD := (bcell HB6.out).1
  simp only [World.size_alloc] at hcD
  have hy6 : w.heap.size + 1 < w6.heap.size := by have := HB6.out.size; simp at this; omega
  have hz6 : w.heap.size < w6.heap.size := by omega
  clear hcC
  go_wp2_with fail
  have HW6 : Below w.heap.size w w6 := hW0.trans (HB6.out.mono (by simp <;> omega))
  refine (toWork_c y l _ (hy.below (HW6.alloc (by omega) _) (Nat.le_refl _)) l5 l6).mono ?_
  rintro e w7 ⟨k7, rfl, ho7, hb7⟩
  have HW7 : Below w.heap.size w w7 := below_next (HW6.alloc (by omega) _) hb7
  have hcE := (bcell hb7).1
  simp only [World.size_alloc] at hcE
  have s7 : w6.heap.size < w7.heap.size := by have := hb7.size; simp at this; omega
  have s7a : w.heap.size + 1 < w7.heap.size := by omega
  have s7b : w.heap.size < w7.heap.size := by omega
  have r6 := (ho6.below ((below_alloc1 _ _).mono (Nat.le_refl _)) (Nat.le_refl _)).row.below hb7 (Nat.le_refl _)
  have r7 := ho7.row
  clear ho6 ho7 hb6 hb7
  go_wp2_with fail
  refine (iSameWork_c x y k6 k7 _ (r6.below (below_alloc1 _ _) (Nat.le_refl _)) (r7.below (below_alloc1 _ _) (Nat.le_refl _)) m1 m2 m3 m4).mono ?_
  rintro e w8 ⟨rfl, hb8⟩
  have HW8 : Below w.heap.size w w8 := below_next (HW7.alloc (by omega) _) hb8
  have hcF := (bcell hb8).1
  simp only [World.size_alloc] at hcF
  have s8 : w7.heap.size < w8.heap.size := by have := hb8.size; simp at this; omega
  have s8c : w6.heap.size < w8.heap.size := by omega
  have s8a : w.heap.size + 1 < w8.heap.size := by omega
  have s8b : w.heap.size < w8.heap.size := by omega
  replace r6 := (r6.below (below_alloc1 _ _) (Nat.le_refl _)).below hb8 (Nat.le_refl _)
  replace r7 := (r7.below (below_alloc1 _ _) (Nat.le_refl _)).below hb8 (Nat.le_refl _)
  clear hb8
  go_wp2_with fail
  have q7 := Lib.hid hcF
  go_region_held3 (fun w' => ∀ b o, b < w7.heap.size + 1 → w'.cell? ⟨b, o, none⟩ = (w7.alloc (.cells (y.cells k7) 58)).cell? ⟨b, o, none⟩) (first | exact hcF | exact hcG | exact hcH)
    (first
      | (go_at_call 36; refine (toWork_c x k _ (hx.below HW8.drew (Nat.le_refl _)) l1 l2).mono ?_; rintro e w9 ⟨k9, rfl, ho9, hb9⟩; have hcG : ∀ b o, b < w7.heap.size + 1 → w9.cell? ⟨b, o, none⟩ = (w7.alloc (.cells (y.cells k7) 58)).cell? ⟨b, o, none⟩ := fun b o h => ((bcell hb9).1 b o (by simp; omega)).trans (q7.out b o h))
      | (go_at_call 38; refine (eqWork_c x x k6 k9 _ ((TRow.mk r6.values r6.ranks : TRow w8.drew x.table k6).below hb9 (Nat.le_refl _)) ho9.row m1 m2 m1 m2).mono ?_; rintro e w10 ⟨rfl, hb10⟩; have hcH : ∀ b o, b < w7.heap.size + 1 → w10.cell? ⟨b, o, none⟩ = (w7.alloc (.cells (y.cells k7) 58)).cell? ⟨b, o, none⟩ := fun b o h => ((bcell hb10).1 b o (by have := hb9.size; simp at this; omega)).trans (hcG b o h)))
  go_wp2_with fail
  have q10 := Lib.hid hcH
  have HW9 : Below w.heap.size w w9 := below_next HW8.drew hb9
  have HW10 : Below w.heap.size w w10 := below_next HW9 hb10
  have r7' : TRow w10 y.table k7 := ((TRow.mk r7.values r7.ranks : TRow w8.drew y.table k7).below hb9 (Nat.le_refl _)).below hb10 (Nat.le_refl _)
  have s10 : w7.heap.size < w10.heap.size := by have := hb10.size; have := hb9.size; simp at *; omega
  clear hcG hcF hb9 hb10 ho9 q7 s8 s8a s8b s8c HW8 HW9 r6 r7
  go_region_held3 (fun w' => ∀ b o, b < w7.heap.size + 1 → w'.cell? ⟨b, o, none⟩ = (w7.alloc (.cells (y.cells k7) 58)).cell? ⟨b, o, none⟩) (first | exact hcH | exact hcI | exact hcJ)
    (first
      | (go_at_call 36; refine (toWork_c y l _ (hy.below HW10.drew (Nat.le_refl _)) l5 l6).mono ?_; rintro e w11 ⟨k11, rfl, ho11, hb11⟩; have hcI : ∀ b o, b < w7.heap.size + 1 → w11.cell? ⟨b, o, none⟩ = (w7.alloc (.cells (y.cells k7) 58)).cell? ⟨b, o, none⟩ := fun b o h => ((bcell hb11).1 b o (by simp; omega)).trans (q10.out b o h))
      | (go_at_call 38; refine (eqWork_c y y k7 k11 _ ((TRow.mk r7'.values r7'.ranks : TRow w10.drew y.table k7).below hb11 (Nat.le_refl _)) ho11.row m3 m4 m3 m4).mono ?_; rintro e w12 ⟨rfl, hb12⟩; have hcJ : ∀ b o, b < w7.heap.size + 1 → w12.cell? ⟨b, o, none⟩ = (w7.alloc (.cells (y.cells k7) 58)).cell? ⟨b, o, none⟩ := fun b o h => ((bcell hb12).1 b o (by have := hb11.size; simp at this; omega)).trans (hcI b o h)))
  go_wp2
  go_ret
  exact ⟨rfl, below_next (below_next HW10.drew hb11) hb12⟩
set_option maxRecDepth 100000 in
theorem contract (H : Type) (enc : TypeId × Value → H) (W : World) (base : Nat) (args : Array Value) (ds gs : List (DataW H)) (before : List MemPlace)
    (hval : ∀ (j : Nat) t v, Try.f9.params[j]? = some t → args[j]? = some v → Value.okWide Try.prog W .any base t v)
    (hW : DataW.Whole enc Try.prog Try.f9.params.toList Rows.fnExactSameWorkSpec.vars false W args.toList ds gs before) :
    Calls Try.prog 9 args W fun e W' => ∃ v, e = .returned v ∧ Rows.fnExactSameWorkSpec.post enc Try.prog Try.f9 false true false false W args v W' := by
  have hW' := hW
  obtain ⟨p, q, hA0, hV, rfl, hfz, hnd⟩ := hW
  have hA : DataW.TrodAll enc Try.prog W 0 (fun _ => true) true Try.f9.params.toList args.toList ds p := hA0
  rw [Try.params9] at hA hval
  obtain ⟨v0, vs0, d0, ds0, p0, q0, hargs, rfl, rfl, h0, r0⟩ := trodAll_cons hA
  obtain ⟨v1, vs1, d1, ds1, p1, q1, rfl, rfl, rfl, h1, r1⟩ := trodAll_cons r0
  obtain ⟨rfl, rfl, rfl⟩ := trodAll_nil r1
  obtain rfl : args = #[v0, v1] := by cases args; simp_all
  obtain ⟨a0, k0, rfl, w0⟩ := arg_work (hval 0 52 v0 rfl rfl) h0
  obtain ⟨a1, k1, rfl, w1⟩ := arg_work (hval 1 52 v1 rfl rfl) h1
  refine (walk a0 a1 k0 k1 W w0.1 w1.1 w0.2.1 w0.2.2 w1.2.1 w1.2.2).mono fun e W' ⟨he, hb⟩ => ?_
  subst he
  exact ⟨_, rfl, law_post hW' hb rfl rfl (by kernel_rfl) rfl⟩

set_option maxRecDepth 100000 in
theorem lifted (os : Os) (started : os.Started) (H : Type) (enc : TypeId × Value → H) :
    ReturnsInHanded {} Try.checked os 9 .any (Rows.fnExactSameWorkSpec.pre6 enc Try.prog Try.f9 Rows.fnExactSameWorkRow.domain false) (Rows.fnExactSameWorkSpec.post enc Try.prog Try.f9 false true false false) := by
  refine returnsInHanded_of_change (C := Try.checked) (s := Rows.fnExactSameWorkSpec) own started (by kernel_rfl) Try.func9
    (ChangeSpec.witness6 (enc := enc) (C := Try.checked) (s := Rows.fnExactSameWorkSpec) false ⟨#[], #[.agg #[.int .i64 0, .int .i64 0, .int .i64 0, .bool false, .bool false, .bool false, .bool false, .bool false, .int .i64 0, .int .i64 0, .int .i64 0, .slice none 0 0, .slice none 0 0], .agg #[.int .i64 0, .int .i64 0, .int .i64 0, .bool false, .bool false, .bool false, .bool false, .bool false, .int .i64 0, .int .i64 0, .int .i64 0, .slice none 0 0, .slice none 0 0]], []⟩ 8 (by kernel_rfl) (by kernel_rfl) (by kernel_rfl) (by kernel_rfl)) ?_
  intro W base args ds gs before hval hW _ _
  exact contract H enc W base args ds gs before hval hW

theorem proved : Rows.FnExactSameWorkSaid :=
  OpenClaim.holds_of_wide 9 Try.f9 rfl rfl rfl rfl rfl rfl rfl ⟨rfl, rfl, rfl, rfl, rfl⟩ rfl rfl rfl rfl rfl (by kernel_rfl) Try.func9 (by kernel_rfl)
    (of_decide_eq_true (by kernel_rfl)) (by unfold Func.isWrapper; first | (rw [if_pos (by decide +kernel)]; kernel_rfl) | (rw [if_neg (by decide +kernel)]; exact ⟨rfl, rfl⟩))
    (fun os started H enc _ => lifted os started H enc)
end Go.Proofs.Ytahbohmipklhdaa.lSameWork
