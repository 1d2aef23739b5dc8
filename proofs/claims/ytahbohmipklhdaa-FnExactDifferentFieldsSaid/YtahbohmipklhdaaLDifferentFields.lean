/- The law FnExactDifferentFields returns true for every argument, and every argument reads afterwards as before. No conditions. -/
import Derived.Test.YtahbohmipklhdaaDiff
namespace Go.Proofs.Ytahbohmipklhdaa.lDifferentFields
set_option linter.unusedSimpArgs false
set_option linter.unusedVariables false
open Go.RowKit Go.ChangeShapes Go.WideShapes Go.ChangeAt Go.Joins
open Go.ChangeMaps (open_string)

theorem len (x y : R) : (DiffP x y).1.length ≤ 9 := by
  unfold DiffP
  split
  · exact diffK_len x y 9
  · simp
set_option maxRecDepth 100000 in
set_option maxHeartbeats 8000000 in
theorem walk (x y : R) (w : World) : Calls Try.prog 7 #[x.val, y.val] w fun e w' => e = .returned (.bool true) ∧ Below w.heap.size w w' := by
  obtain ⟨z, hz⟩ : ∃ z, z = DiffP x y := ⟨_, rfl⟩
  have HS := Lib.hid (fun W => hz ▸ sDifferentFields_c x y W : ∀ W, Calls Try.prog 29 #[x.val, y.val] W (StrRes2 W z))
  have HI := Lib.hid (fun W => hz ▸ iDifferentFields_c x y W : ∀ W, Calls Try.prog 30 #[x.val, y.val] W (StrRes2 W z))
  have hl : z.1.length ≤ 9 := by rw [hz]; exact len x y
  clear hz
  obtain ⟨ss, cd⟩ := z
  simp only at hl
  have F0 := ((Fr.start w).alloc x.cells 28).alloc y.cells 28
  go_enter Try.func7, Try.ntmps7
  go_wp2_with fail
  go_region_held3 (fun w' => ∀ b o, b < w.heap.size + 1 + 1 → w'.cell? ⟨b, o, none⟩ = ((w.alloc (.cells x.cells 28)).alloc (.cells y.cells 28)).cell? ⟨b, o, none⟩) (first | exact hcC | exact hcB | exact hcA | (intro b o h; rfl))
    (first
      | (go_at_call 21; have tk := hb1; refine (toRules_c y _).mono ?_; rintro e w2 ⟨rfl, hb2⟩; have hcB : ∀ b o, b < w.heap.size + 1 + 1 → w2.cell? ⟨b, o, none⟩ = ((w.alloc (.cells x.cells 28)).alloc (.cells y.cells 28)).cell? ⟨b, o, none⟩ := fun b o h => ((bcell hb2).1 b o (Nat.lt_of_lt_of_le h (by have := hb1.size; simpa using this))).trans (hcA b o h))
      | (go_at_call 21; refine (toRules_c x _).mono ?_; rintro e w1 ⟨rfl, hb1⟩; have hcA : ∀ b o, b < w.heap.size + 1 + 1 → w1.cell? ⟨b, o, none⟩ = ((w.alloc (.cells x.cells 28)).alloc (.cells y.cells 28)).cell? ⟨b, o, none⟩ := fun b o h => (bcell hb1).1 b o (by simpa using h))
      | (go_at_call 29; refine (HS.out _).mono ?_; rintro e w3 ⟨ad3, k3, rfl, ho3, hb3⟩; have hcC : ∀ b o, b < w.heap.size + 1 + 1 → w3.cell? ⟨b, o, none⟩ = ((w.alloc (.cells x.cells 28)).alloc (.cells y.cells 28)).cell? ⟨b, o, none⟩ := fun b o h => ((bcell hb3).1 b o (Nat.lt_of_lt_of_le h (Nat.le_trans (by have := hb1.size; simpa using this) hb2.size))).trans (hcB b o h)))
  have F3 := (((F0.drew.step hb1).step hb2).step hb3).ownV ho3
  clear hcA hcB hcC hb1 hb2 hb3 ho3 F0
  obtain ⟨c0, c1, c2, c3, c4, c5, c6, c7, c8⟩ := R.boxc (F3.at 2 rfl)
  obtain ⟨d0, d1, d2, d3, d4, d5, d6, d7, d8⟩ := R.boxc (F3.at 1 rfl)
  simp only [World.size_alloc] at d0 d1 d2 d3 d4 d5 d6 d7 d8
  have z0 : w.heap.size < w3.heap.size := F3.le 2 rfl
  have z1 : w.heap.size + 1 < w3.heap.size := by have := F3.le 1 rfl; simp at this; omega
  go_wp2_with fail
  go_region_held3 (fun w' => ∀ b o, b < w3.heap.size → w'.cell? ⟨b, o, none⟩ = w3.cell? ⟨b, o, none⟩) (first | exact hcC | exact hcB | exact hcA | (intro b o h; rfl))
    (first
      | (go_at_call 21; have tk := hb4; refine (toRules_c y _).mono ?_; rintro e w5 ⟨rfl, hb5⟩; have hcB : ∀ b o, b < w3.heap.size → w5.cell? ⟨b, o, none⟩ = w3.cell? ⟨b, o, none⟩ := fun b o h => ((bcell hb5).1 b o (Nat.lt_of_lt_of_le h hb4.size)).trans (hcA b o h))
      | (go_at_call 21; refine (toRules_c x _).mono ?_; rintro e w4 ⟨rfl, hb4⟩; have hcA : ∀ b o, b < w3.heap.size → w4.cell? ⟨b, o, none⟩ = w3.cell? ⟨b, o, none⟩ := fun b o h => (bcell hb4).1 b o h)
      | (go_at_call 30; refine (HI.out _).mono ?_; rintro e w6 ⟨ad6, k6, rfl, ho6, hb6⟩; have hcC : ∀ b o, b < w3.heap.size → w6.cell? ⟨b, o, none⟩ = w3.cell? ⟨b, o, none⟩ := fun b o h => ((bcell hb6).1 b o (Nat.lt_of_lt_of_le h (Nat.le_trans hb4.size hb5.size))).trans (hcB b o h)))
  have F6 := (((F3.drew.step hb4).step hb5).step hb6).ownV ho6
  have s50 : w.heap.size + 1 + 1 ≤ w3.heap.size := by have := F3.le 1 rfl; simpa using this
  have s35 : w3.heap.size ≤ w5.heap.size := Nat.le_trans hb4.size hb5.size
  have s5 : w.heap.size ≤ w5.heap.size := Nat.le_trans F3.below.size s35
  clear hcA hcB hcC hb4 hb5 hb6 ho6 F3 c0 c1 c2 c3 c4 c5 c6 c7 c8 d0 d1 d2 d3 d4 d5 d6 d7 d8 z0 z1
  go_wp2_with fail
  refine (eqStringS_c ad6 ad3 k6 k3 ss ss _ (own_row (F6.at 0 rfl).1) (own_row (F6.at 1 rfl).1) (by unfold maxLen; omega) (by unfold maxLen; omega)).mono ?_
  rintro e w7 ⟨rfl, m7, rfl⟩
  have F7 := F6.drawn m7
  rw [strsEq_self]
  clear F6
  go_wp2_with fail
  refine (markStringS_c _ _ ad6 ss.length k6 _ 1 _ (F7.at 0 rfl) (F7.le 0 rfl) (by omega) (by omega)).mono ?_
  rintro e w8 ⟨rfl, ho8, hg8⟩
  have F8 := (F7.chgAt 0 hg8 s5 (by simp [List.eraseIdx]; omega)).add _ _ _ (OwnP.stab _ _ _ _ _ _ _) ho8 (Nat.le_trans (F7.le 0 rfl) hg8.size)
  clear ho8 hg8 F7
  go_wp2_with fail
  refine (heldStringS_c ad6 ss.length k6 1 _ (own_row (F8.at 0 rfl).1) (by omega) (by omega)).mono ?_
  rintro e w9 ⟨rfl, hb9⟩
  have F9 := F8.step hb9
  clear hb9 F8
  obtain ⟨c0, c1, c2, c3, c4, c5, c6, c7, c8⟩ := R.boxc (F9.at 3 rfl)
  obtain ⟨d0, d1, d2, d3, d4, d5, d6, d7, d8⟩ := R.boxc (F9.at 2 rfl)
  simp only [World.size_alloc] at d0 d1 d2 d3 d4 d5 d6 d7 d8
  have z0 : w.heap.size < w9.heap.size := F9.le 3 rfl
  have z1 : w.heap.size + 1 < w9.heap.size := by have := F9.le 2 rfl; simp at this; omega
  go_wp2_with fail
  go_region_held3 (fun w' => ∀ b o, b < w9.heap.size → w'.cell? ⟨b, o, none⟩ = w9.cell? ⟨b, o, none⟩) (first | exact hcC | exact hcB | exact hcA | (intro b o h; rfl))
    (first
      | (go_at_call 21; have tk := hb10; refine (toRules_c y _).mono ?_; rintro e w11 ⟨rfl, hb11⟩; have hcB : ∀ b o, b < w9.heap.size → w11.cell? ⟨b, o, none⟩ = w9.cell? ⟨b, o, none⟩ := fun b o h => ((bcell hb11).1 b o (Nat.lt_of_lt_of_le h hb10.size)).trans (hcA b o h))
      | (go_at_call 21; refine (toRules_c x _).mono ?_; rintro e w10 ⟨rfl, hb10⟩; have hcA : ∀ b o, b < w9.heap.size → w10.cell? ⟨b, o, none⟩ = w9.cell? ⟨b, o, none⟩ := fun b o h => (bcell hb10).1 b o h)
      | (go_at_call 30; refine (HI.out _).mono ?_; rintro e w12 ⟨ad12, k12, rfl, ho12, hb12⟩; have hcC : ∀ b o, b < w9.heap.size → w12.cell? ⟨b, o, none⟩ = w9.cell? ⟨b, o, none⟩ := fun b o h => ((bcell hb12).1 b o (Nat.lt_of_lt_of_le h (Nat.le_trans hb10.size hb11.size))).trans (hcB b o h)))
  have F12 := (((F9.drew.step hb10).step hb11).step hb12).ownV ho12
  clear hcA hcB hcC hb10 hb11 hb12 ho12 F9 c0 c1 c2 c3 c4 c5 c6 c7 c8 d0 d1 d2 d3 d4 d5 d6 d7 d8 z0 z1
  go_wp2_with fail
  refine (eqStringS_c ad12 ad3 k12 k3 ss ss _ (own_row (F12.at 0 rfl).1) (own_row (F12.at 2 rfl).1) (by unfold maxLen; omega) (by unfold maxLen; omega)).mono ?_
  rintro e w13 ⟨rfl, m13, rfl⟩
  have F13 := F12.drawn m13
  rw [strsEq_self]
  clear F12
  go_wp2_with fail
  refine (heldStringS_c ad6 ss.length k6 1 _ (own_row (F13.at 1 rfl).1) (by omega) (by omega)).mono ?_
  rintro e w14 ⟨rfl, hb14⟩
  have F14 := F13.step hb14
  clear hb14 F13
  go_wp2
  go_ret
  exact ⟨rfl, F14.below⟩

set_option maxRecDepth 100000 in
theorem contract (H : Type) (enc : TypeId × Value → H) (W : World) (base : Nat) (args : Array Value) (ds gs : List (DataW H)) (before : List MemPlace)
    (hval : ∀ (j : Nat) t v, Try.f7.params[j]? = some t → args[j]? = some v → Value.okWide Try.prog W .any base t v)
    (hW : DataW.Whole enc Try.prog Try.f7.params.toList Rows.fnExactDifferentFieldsSpec.vars false W args.toList ds gs before) :
    Calls Try.prog 7 args W fun e W' => ∃ v, e = .returned v ∧ Rows.fnExactDifferentFieldsSpec.post enc Try.prog Try.f7 false true false false W args v W' := by
  have hW' := hW
  obtain ⟨p, q, hA0, hV, rfl, hfz, hnd⟩ := hW
  have hA : DataW.TrodAll enc Try.prog W 0 (fun _ => true) true Try.f7.params.toList args.toList ds p := hA0
  rw [Try.params7] at hA hval
  obtain ⟨v0, vs0, d0, ds0, p0, q0, hargs, rfl, rfl, h0, r0⟩ := trodAll_cons hA
  obtain ⟨v1, vs1, d1, ds1, p1, q1, rfl, rfl, rfl, h1, r1⟩ := trodAll_cons r0
  obtain ⟨rfl, rfl, rfl⟩ := trodAll_nil r1
  obtain rfl : args = #[v0, v1] := by cases args; simp_all
  obtain ⟨a0, rfl, w0⟩ := arg_rules (hval 0 28 v0 rfl rfl) h0
  obtain ⟨a1, rfl, w1⟩ := arg_rules (hval 1 28 v1 rfl rfl) h1
  refine (walk a0 a1 W).mono fun e W' ⟨he, hb⟩ => ?_
  subst he
  exact ⟨_, rfl, law_post hW' hb rfl rfl (by kernel_rfl) rfl⟩

set_option maxRecDepth 100000 in
theorem lifted (os : Os) (started : os.Started) (H : Type) (enc : TypeId × Value → H) :
    ReturnsInHanded {} Try.checked os 7 .any (Rows.fnExactDifferentFieldsSpec.pre6 enc Try.prog Try.f7 Rows.fnExactDifferentFieldsRow.domain false) (Rows.fnExactDifferentFieldsSpec.post enc Try.prog Try.f7 false true false false) := by
  refine returnsInHanded_of_change (C := Try.checked) (s := Rows.fnExactDifferentFieldsSpec) own started (by kernel_rfl) Try.func7
    (ChangeSpec.witness6 (enc := enc) (C := Try.checked) (s := Rows.fnExactDifferentFieldsSpec) false ⟨#[], #[.agg #[.int .i64 0, .int .i64 0, .bool false, .bool false, .bool false, .bool false, .bool false, .int .i64 0, .int .i64 0], .agg #[.int .i64 0, .int .i64 0, .bool false, .bool false, .bool false, .bool false, .bool false, .int .i64 0, .int .i64 0]], []⟩ 8 (by kernel_rfl) (by kernel_rfl) (by kernel_rfl) (by kernel_rfl)) ?_
  intro W base args ds gs before hval hW _ _
  exact contract H enc W base args ds gs before hval hW

theorem proved : Rows.FnExactDifferentFieldsSaid :=
  OpenClaim.holds_of_wide 7 Try.f7 rfl rfl rfl rfl rfl rfl rfl ⟨rfl, rfl, rfl, rfl, rfl⟩ rfl rfl rfl rfl rfl (by kernel_rfl) Try.func7 (by kernel_rfl)
    (of_decide_eq_true (by kernel_rfl)) (by unfold Func.isWrapper; first | (rw [if_pos (by decide +kernel)]; kernel_rfl) | (rw [if_neg (by decide +kernel)]; exact ⟨rfl, rfl⟩))
    (fun os started H enc _ => lifted os started H enc)
end Go.Proofs.Ytahbohmipklhdaa.lDifferentFields
