/- The law FnExactFactsOf returns true for every argument, and every argument reads afterwards as before. No conditions. -/
import Derived.Test.YtbjgigdkbjabaaaFcF
import Derived.Test.YtbjgigdkbjabaaaPos2
namespace Go.Proofs.Ytbjgigdkbjabaaa.lFactsOf
set_option linter.unusedSimpArgs false
set_option linter.unusedVariables false
set_option linter.unnecessarySimpa false
open Go.RowKit Go.ChangeShapes Go.WideShapes Go.ChangeAt Go.Joins
open Go.ChangeMaps (open_string)

set_option maxRecDepth 100000 in
set_option maxHeartbeats 16000000 in
theorem walk (r : R) (p : P) (pa sa : Option Addr) (pc sc : Nat) (m : Int) (w : World) (h : PRow w p pa sa) (hm1 : p.pits.length ≤ maxLen) (hm2 : p.stores.length ≤ maxLen) (y : List Fc × Int) (hy : y.1.length ≤ 1048576)
    (hs : ∀ (pa sa : Option Addr) (pc sc b : Nat) (w : World), POwn w b p pa pc sa sc → p.pits.length ≤ 1048576 → p.stores.length ≤ 1048576 → p.pits.length ≤ pc → pc ≤ maxLen → Calls Try.prog 22 #[r.val, p.val pa pc sa sc, .int .i64 m] w (FcRes2 w y))
    (hi : ∀ (pa sa : Option Addr) (pc sc b : Nat) (w : World), POwn w b p pa pc sa sc → p.pits.length ≤ 1048576 → p.stores.length ≤ 1048576 → p.pits.length ≤ pc → pc ≤ maxLen → Calls Try.prog 23 #[r.val, p.val pa pc sa sc, .int .i64 m] w (FcRes2 w y)) :
    Calls Try.prog 4 #[r.val, p.val pa pc sa sc, .int .i64 m] w fun e w' => e = .returned (.bool true) ∧ Below w.heap.size w w' := by
  have HS := Lib.hid hs
  have HI := Lib.hid hi
  clear hs hi
  obtain ⟨y, yc⟩ := y
  simp only at hy
  have hs7n : ¬ (1 : Int) + 3 * (y.length : Int) < 0 := by omega
  go_enter Try.func4, Try.ntmps4
  go_wp2_with fail
  refine (szPosition_c p pa sa pc sc _ _ (by omega) (by omega) hm1 hm2).mono ?_
  rintro e w1 ⟨rfl, hb1⟩
  have F1 := (((Fr.start w).alloc r.cells 23).alloc (p.cells pa pc sa sc) 26).step hb1
  by_cases hl : szP 1048576 p < 0
  · go_wp2
    go_ret
    exact ⟨rfl, F1.below⟩
  obtain ⟨l1, l2⟩ := szP_len hl
  obtain ⟨c0, c1, c2, c3, c4, c5, c6, c7, c8⟩ := R.boxc (F1.at 1 rfl)
  obtain ⟨d0, d1, d2⟩ := P.boxc (F1.at 0 rfl)
  have zA : w.heap.size < w1.heap.size := F1.le 1 rfl
  have zB : w.heap.size + 1 < w1.heap.size := by have := F1.le 0 rfl; simp at this; omega
  simp only [World.size_alloc] at d0 d1 d2
  clear hb1
  go_wp2_with fail
  go_region_held3 (fun w' => ∀ b o, b < w1.heap.size → w'.cell? ⟨b, o, none⟩ = w1.cell? ⟨b, o, none⟩) (first | exact hcC | exact hcB | exact hcA | (intro b o h; rfl))
    (first
      | (go_at_call 14; refine (toPosition_c p pa sa pc sc _ (h.below (F1.drew.step hb2).below (Nat.le_refl _)) l1 l2).mono ?_; rintro e w3 ⟨qa3, qc3, ta3, tc3, rfl, ho3, hb3⟩; have hcB : ∀ b o, b < w1.heap.size → w3.cell? ⟨b, o, none⟩ = w1.cell? ⟨b, o, none⟩ := fun b o h => ((bcell hb3).1 b o (Nat.lt_of_lt_of_le h hb2.size)).trans (hcA b o h))
      | (go_at_call 13; refine (toRules_c r _).mono ?_; rintro e w2 ⟨rfl, hb2⟩; have hcA : ∀ b o, b < w1.heap.size → w2.cell? ⟨b, o, none⟩ = w1.cell? ⟨b, o, none⟩ := fun b o h => (bcell hb2).1 b o h)
      | (go_at_call 22; refine (HS.out qa3 ta3 qc3 tc3 _ _ ho3 l1 l2 (own_caps ho3.pits).1 (own_caps ho3.pits).2).mono ?_; rintro e w4 ⟨a4, k4, rfl, ho4, hb4⟩; have hcC : ∀ b o, b < w1.heap.size → w4.cell? ⟨b, o, none⟩ = w1.cell? ⟨b, o, none⟩ := fun b o h => ((bcell hb4).1 b o (Nat.lt_of_lt_of_le h (Nat.le_trans hb2.size hb3.size))).trans (hcB b o h)))
  have F4 := (((F1.drew.step hb2).step hb3).step hb4).pcs ho4
  clear hcA hcB hcC hb2 hb3 hb4 ho3 ho4 F1 c0 c1 c2 c3 c4 c5 c6 c7 c8 d0 d1 d2 zA zB
  obtain ⟨d0, d1, d2⟩ := P.boxc (F4.at 1 rfl)
  have zB : w.heap.size + 1 < w4.heap.size := by have := F4.le 1 rfl; simp at this; omega
  simp only [World.size_alloc] at d0 d1 d2
  go_wp2_with fail
  refine (toPosition_c p pa sa pc sc _ (h.below F4.below (Nat.le_refl _)) l1 l2).mono ?_
  rintro e w5 ⟨qa5, qc5, ta5, tc5, rfl, ho5, hb5⟩
  have s4 : w.heap.size + 1 + 1 ≤ w4.heap.size := by have := F4.le 1 rfl; simp at this; omega
  have s45 : w4.heap.size ≤ w5.heap.size := hb5.size
  have F5 := (F4.step hb5).pos ho5
  clear hb5 ho5 F4 d0 d1 d2 zB
  obtain ⟨c0, c1, c2, c3, c4, c5, c6, c7, c8⟩ := R.boxc (F5.at 3 rfl)
  have zA : w.heap.size < w5.heap.size := F5.le 3 rfl
  have F6 := F5.alloc (p.cells qa5 qc5 ta5 tc5) 30
  have s5 : w.heap.size ≤ w5.heap.size := by omega
  clear F5
  go_wp2_with fail
  go_region_held3 (fun w' => ∀ b o, b < w5.heap.size + 1 → w'.cell? ⟨b, o, none⟩ = (w5.alloc (.cells (p.cells qa5 qc5 ta5 tc5) 30)).cell? ⟨b, o, none⟩) (first | exact hcB | exact hcA | (intro b o h; rfl))
    (first
      | (go_at_call 23; refine (HI.out qa5 ta5 qc5 tc5 _ _ ((F6.drew.step hb6).at 1 rfl).1 l1 l2 (own_caps ((F6.drew.step hb6).at 1 rfl).1.pits).1 (own_caps ((F6.drew.step hb6).at 1 rfl).1.pits).2).mono ?_; rintro e w7 ⟨a7, k7, rfl, ho7, hb7⟩; have hcB : ∀ b o, b < w5.heap.size + 1 → w7.cell? ⟨b, o, none⟩ = (w5.alloc (.cells (p.cells qa5 qc5 ta5 tc5) 30)).cell? ⟨b, o, none⟩ := fun b o h => ((bcell hb7).1 b o (Nat.lt_of_lt_of_le h (by have := hb6.size; simpa using this))).trans (hcA b o h))
      | (go_at_call 13; refine (toRules_c r _).mono ?_; rintro e w6 ⟨rfl, hb6⟩; have hcA : ∀ b o, b < w5.heap.size + 1 → w6.cell? ⟨b, o, none⟩ = (w5.alloc (.cells (p.cells qa5 qc5 ta5 tc5) 30)).cell? ⟨b, o, none⟩ := fun b o h => (bcell hb6).1 b o (by simpa using h)))
  have s6 : w5.heap.size + 1 ≤ w6.heap.size := by have := hb6.size; simpa using this
  have F7 := ((F6.drew.step hb6).step hb7).pcs ho7
  clear hcA hcB hb6 hb7 ho7 F6 c0 c1 c2 c3 c4 c5 c6 c7 c8 zA
  go_wp2_with fail
  refine (eqFactS_c y a7 a4 k7 k4 _ (fc_row (F7.at 0 rfl)) (fc_row (F7.at 3 rfl)) hy).mono ?_
  rintro e w7' ⟨rfl, hb7e⟩
  have F8 := F7.step hb7e
  clear F7 hb7e
  obtain ⟨q0, q1, q2⟩ := P.boxc (F8.at 1 rfl)
  obtain ⟨d0, d1, d2⟩ := P.boxc (F8.at 4 rfl)
  simp only [World.size_alloc] at d0 d1 d2
  have zA : w.heap.size + 1 < w7'.heap.size := by have := F8.le 4 rfl; simp at this; omega
  have zB : w5.heap.size < w7'.heap.size := F8.le 1 rfl
  go_wp2_with fail
  go_region_held3 (fun w' => ∀ b o, b < w7'.heap.size → w'.cell? ⟨b, o, none⟩ = w7'.cell? ⟨b, o, none⟩) (first | exact hcB | exact hcA | (intro b o h; rfl))
    (first
      | (go_at_call 14; refine (toPosition_c p pa sa pc sc _ (h.below F8.drew.below (Nat.le_refl _)) l1 l2).mono ?_; rintro e w8 ⟨qa8, qc8, ta8, tc8, rfl, ho8, hb8⟩; have hcA : ∀ b o, b < w7'.heap.size → w8.cell? ⟨b, o, none⟩ = w7'.cell? ⟨b, o, none⟩ := fun b o h => (bcell hb8).1 b o h)
      | (go_at_call 17; refine (eqPosition_c p p qa5 ta5 qa8 ta8 qc5 tc5 qc8 tc8 _ ((F8.drew.step hb8).at 2 rfl).1.row ho8.row hm1 hm2 hm1 hm2).mono ?_; rintro e w9 ⟨rfl, hb9⟩; have hcB : ∀ b o, b < w7'.heap.size → w9.cell? ⟨b, o, none⟩ = w7'.cell? ⟨b, o, none⟩ := fun b o h => ((bcell hb9).1 b o (Nat.lt_of_lt_of_le h hb8.size)).trans (hcA b o h)))
  have F9 := (F8.drew.step hb8).step hb9
  clear hcA hcB hb8 hb9 ho8 F8 q0 q1 q2 d0 d1 d2 zA zB
  obtain ⟨q0, q1, q2⟩ := P.boxc (F9.at 1 rfl)
  have zB : w5.heap.size < w9.heap.size := F9.le 1 rfl
  have hX := F9.at 2 rfl
  go_wp2_with fail
  refine (markPosition_c _ _ p qa5 ta5 qc5 tc5 1 _ hX.1 hX.2.1 hX.2.2 (by omega) (by omega)).mono ?_
  rintro e w10 ⟨rfl, hg10⟩
  have F10 := F9.chgAt 2 hg10 (by omega) (by simp [List.eraseIdx]; omega)
  clear hg10 hX F9 q0 q1 q2 zB
  go_wp2_with fail
  refine (eqFactS_c y a7 a4 k7 k4 _ (fc_row (F10.at 0 rfl)) (fc_row (F10.at 2 rfl)) hy).mono ?_
  rintro e w11 ⟨rfl, hb11⟩
  have F11 := F10.step hb11
  clear F10 hb11
  go_wp2_with fail
  refine (markFactS_c _ _ a7 k7 y 1 _ (F11.at 0 rfl) hy (by omega) (by omega)).mono ?_
  rintro e w12 ⟨rfl, ho12, hg12⟩
  have F12 := (F11.chgAt 0 hg12 (by omega) (by simp [List.eraseIdx]; omega)).add _ _ _ (PcsP.stab _ _ _) ho12 (Nat.le_trans (F11.le 0 rfl) hg12.size)
  clear ho12 hg12 F11
  go_wp2_with fail
  refine (heldFactS_c a7 k7 y 1 _ (fc_row (F12.at 0 rfl)) hy (by omega) (by omega)).mono ?_
  rintro e w13 ⟨rfl, rfl⟩
  obtain ⟨c0, c1, c2, c3, c4, c5, c6, c7, c8⟩ := R.boxc (F12.at 4 rfl)
  obtain ⟨d0, d1, d2⟩ := P.boxc (F12.at 3 rfl)
  have zA : w.heap.size < w12.heap.size := F12.le 4 rfl
  have zB : w.heap.size + 1 < w12.heap.size := by have := F12.le 3 rfl; simp at this; omega
  simp only [World.size_alloc] at d0 d1 d2
  go_wp2_with fail
  go_region_held3 (fun w' => ∀ b o, b < w12.heap.size → w'.cell? ⟨b, o, none⟩ = w12.cell? ⟨b, o, none⟩) (first | exact hcC | exact hcB | exact hcA | (intro b o h; rfl))
    (first
      | (go_at_call 14; refine (toPosition_c p pa sa pc sc _ (h.below (F12.drew.step hb14).below (Nat.le_refl _)) l1 l2).mono ?_; rintro e w15 ⟨qa15, qc15, ta15, tc15, rfl, ho15, hb15⟩; have hcB : ∀ b o, b < w12.heap.size → w15.cell? ⟨b, o, none⟩ = w12.cell? ⟨b, o, none⟩ := fun b o h => ((bcell hb15).1 b o (Nat.lt_of_lt_of_le h hb14.size)).trans (hcA b o h))
      | (go_at_call 13; refine (toRules_c r _).mono ?_; rintro e w14 ⟨rfl, hb14⟩; have hcA : ∀ b o, b < w12.heap.size → w14.cell? ⟨b, o, none⟩ = w12.cell? ⟨b, o, none⟩ := fun b o h => (bcell hb14).1 b o h)
      | (go_at_call 23; refine (HI.out qa15 ta15 qc15 tc15 _ _ ho15 l1 l2 (own_caps ho15.pits).1 (own_caps ho15.pits).2).mono ?_; rintro e w16 ⟨a16, k16, rfl, ho16, hb16⟩; have hcC : ∀ b o, b < w12.heap.size → w16.cell? ⟨b, o, none⟩ = w12.cell? ⟨b, o, none⟩ := fun b o h => ((bcell hb16).1 b o (Nat.lt_of_lt_of_le h (Nat.le_trans hb14.size hb15.size))).trans (hcB b o h)))
  have F16 := (((F12.drew.step hb14).step hb15).step hb16).pcs ho16
  clear hcA hcB hcC hb14 hb15 hb16 ho15 ho16 F12 c0 c1 c2 c3 c4 c5 c6 c7 c8 d0 d1 d2 zA zB
  go_wp2_with fail
  refine (eqFactS_c y a16 a4 k16 k4 _ (fc_row (F16.at 0 rfl)) (fc_row (F16.at 3 rfl)) hy).mono ?_
  rintro e w17 ⟨rfl, hb17⟩
  have F17 := F16.step hb17
  clear F16 hb17
  go_wp2_with fail
  refine (heldFactS_c a7 k7 y 1 _ (fc_row (F17.at 1 rfl)) hy (by omega) (by omega)).mono ?_
  rintro e w18 ⟨rfl, rfl⟩
  go_wp2
  go_ret
  exact ⟨rfl, F17.below⟩

theorem walked (r : R) (p : P) (pa sa : Option Addr) (pc sc : Nat) (m : Int) (w : World) (h : PRow w p pa sa) (hm1 : p.pits.length ≤ maxLen) (hm2 : p.stores.length ≤ maxLen) :
    Calls Try.prog 4 #[r.val, p.val pa pc sa sc, .int .i64 m] w fun e w' => e = .returned (.bool true) ∧ Below w.heap.size w w' :=
  walk r p pa sa pc sc m w h hm1 hm2 (factsP r p m) (factsP_len r p m) (fun pa sa pc sc b w h l1 l2 hc hcm => sFactsOf_c r p m pa sa pc sc w h.row (by omega) (by omega)) (fun pa sa pc sc b w h l1 l2 hc hcm => iFactsOf_c r p m pa sa pc sc w h.row (by omega) (by omega) hc hcm)

set_option maxRecDepth 100000 in
theorem contract (H : Type) (enc : TypeId × Value → H) (W : World) (base : Nat) (args : Array Value) (ds gs : List (DataW H)) (before : List MemPlace)
    (hval : ∀ (j : Nat) t v, Try.f4.params[j]? = some t → args[j]? = some v → Value.okWide Try.prog W .any base t v)
    (hW : DataW.Whole enc Try.prog Try.f4.params.toList Rows.fnExactFactsOfSpec.vars false W args.toList ds gs before) :
    Calls Try.prog 4 args W fun e W' => ∃ v, e = .returned v ∧ Rows.fnExactFactsOfSpec.post enc Try.prog Try.f4 false true false false W args v W' := by
  have hW' := hW
  obtain ⟨p, q, hA0, hV, rfl, hfz, hnd⟩ := hW
  have hA : DataW.TrodAll enc Try.prog W 0 (fun _ => true) true Try.f4.params.toList args.toList ds p := hA0
  rw [Try.params4] at hA hval
  obtain ⟨v0, vs0, d0, ds0, p0, q0, hargs, rfl, rfl, h0, r0⟩ := trodAll_cons hA
  obtain ⟨v1, vs1, d1, ds1, p1, q1, rfl, rfl, rfl, h1, r1⟩ := trodAll_cons r0
  obtain ⟨v2, vs2, d2, ds2, p2, q2, rfl, rfl, rfl, h2, r2⟩ := trodAll_cons r1
  obtain ⟨rfl, rfl, rfl⟩ := trodAll_nil r2
  obtain rfl : args = #[v0, v1, v2] := by cases args; simp_all
  obtain ⟨a0, rfl, w0⟩ := arg_rules (hval 0 23 v0 rfl rfl) h0
  obtain ⟨p1p, pa1, pc1, sa1, sc1, rfl, w1⟩ := arg_pos (hval 1 26 v1 rfl rfl) h1
  obtain ⟨a2, rfl, _, _, w2⟩ := open_int Try.underlying2 (hval 2 2 v2 rfl rfl) h2
  refine (walked a0 p1p pa1 sa1 pc1 sc1 a2 W w1.1 w1.2.1 w1.2.2.1).mono fun e W' ⟨he, hb⟩ => ?_
  subst he
  exact ⟨_, rfl, law_post hW' hb rfl rfl (by kernel_rfl) rfl⟩

set_option maxRecDepth 100000 in
theorem lifted (os : Os) (started : os.Started) (H : Type) (enc : TypeId × Value → H) :
    ReturnsInHanded {} Try.checked os 4 .any (Rows.fnExactFactsOfSpec.pre6 enc Try.prog Try.f4 Rows.fnExactFactsOfRow.domain false) (Rows.fnExactFactsOfSpec.post enc Try.prog Try.f4 false true false false) := by
  refine returnsInHanded_of_change (C := Try.checked) (s := Rows.fnExactFactsOfSpec) own started (by kernel_rfl) Try.func4
    (ChangeSpec.witness6 (enc := enc) (C := Try.checked) (s := Rows.fnExactFactsOfSpec) false ⟨#[], #[.agg #[.int .i64 0, .int .i64 0, .bool false, .bool false, .bool false, .bool false, .bool false, .int .i64 0, .int .i64 0], .agg #[.slice none 0 0, .slice none 0 0, .int .i64 0], .int .i64 0], []⟩ 8 (by kernel_rfl) (by kernel_rfl) (by kernel_rfl) (by kernel_rfl)) ?_
  intro W base args ds gs before hval hW _ _
  exact contract H enc W base args ds gs before hval hW

theorem proved : Rows.FnExactFactsOfSaid :=
  OpenClaim.holds_of_wide 4 Try.f4 rfl rfl rfl rfl rfl rfl rfl ⟨rfl, rfl, rfl, rfl, rfl⟩ rfl rfl rfl rfl rfl (by kernel_rfl) Try.func4 (by kernel_rfl)
    (of_decide_eq_true (by kernel_rfl)) (by unfold Func.isWrapper; first | (rw [if_pos (by decide +kernel)]; kernel_rfl) | (rw [if_neg (by decide +kernel)]; exact ⟨rfl, rfl⟩))
    (fun os started H enc _ => lifted os started H enc)
end Go.Proofs.Ytbjgigdkbjabaaa.lFactsOf
