/- The law FnExactNewGame returns true for every argument, and every argument reads afterwards as before. No conditions. -/
import Derived.Test.YteabheocbkcmnaaGame3
import Derived.Deep.CutRange
namespace Go.Proofs.Yteabheocbkcmnaa.lNewGame
set_option linter.unusedSimpArgs false
set_option linter.unusedVariables false
set_option linter.unnecessarySimpa false
open Go.RowKit Go.ChangeShapes Go.WideShapes Go.ChangeAt Go.Joins
open Go.ChangeMaps (open_string)

set_option maxRecDepth 100000 in
set_option maxHeartbeats 32000000 in
theorem walk (r : R) (w : World) (y : G × Int) (hy1 : y.1.Len 1048576)
    (hs : ∀ (w : World), Calls Try.prog 15 #[r.val] w (GRes w y)) (hi : ∀ (w : World), Calls Try.prog 17 #[r.val] w (GRes w y)) :
    Calls Try.prog 3 #[r.val] w fun e w' => e = .returned (.bool true) ∧ Below w.heap.size w w' := by
  have HS := Lib.hid hs
  have HI := Lib.hid hi
  clear hs hi
  obtain ⟨y, yc⟩ := y
  dsimp only at hy1
  have my1 : y.Len maxLen := hy1.mono (by unfold maxLen; omega)
  have hsz : 1 + y.size ≤ 1099511627776 ∧ 0 ≤ y.size := by have := hy1.sp; have := hy1.ss; have := hy1.m; have := hy1.np; have := hy1.ns; unfold G.size; omega
  have hdy : decide (y = y) = true := by simp
  have F1 := (Fr.start w).alloc r.cells 23
  go_enter Try.func3, Try.ntmps3
  go_upto_region 1 with fail
  go_cut [3, 4] from 11 to 16 (fun s3 s4 wx => ∃ (nb0 : Nat) (A0 : GA) (lo0 hi0 : Nat), s3 = .pointer (some ⟨nb0, 0, none⟩) ∧ s4 = .int .i64 yc ∧ w.heap.size + 1 ≤ lo0 ∧ hi0 ≤ nb0 ∧ Fr w wx [⟨nb0, nb0 + 1, BoxP nb0 (y.cells A0).toList⟩, ⟨lo0, hi0, GP lo0 hi0 y A0⟩, ⟨w.heap.size, w.heap.size + 1, BoxP w.heap.size r.cells.toList⟩])
  case first =>
    obtain ⟨c0, c1, c2, c3, c4, c5, c6, c7, c8⟩ := R.boxc (F1.at 0 rfl)
    have zA := F1.le 0 rfl
    go_wp2_with fail
    refine (toRules_c r _).mono ?_
    rintro e v1 ⟨rfl, hv1⟩
    have G1 := F1.step hv1
    have t1 := hv1.size
    (try simp only [World.size_alloc] at t1)
    clear hv1 c0 c1 c2 c3 c4 c5 c6 c7 c8
    go_wp2_with fail
    refine (HS.out _).mono ?_
    rintro e v2 ⟨B, rfl, hg2, hv2⟩
    have G2 := (G1.step hv2).game hg2
    have t2 := hv2.size
    have KL := Lib.hid (G2.storedL #[.int .i64 0, .int .i64 0, .bool false, .bool false, .bool false, .bool false, .bool false, .int .i64 0, .int .i64 0, .slice none 0 0, .slice none 0 0, .int .i64 0, .slice none 0 0, .slice none 0 0, .slice none 0 0, .int .i64 0, .int .i64 0] 29 (y.cells B).toList rfl (by decide))
    clear hg2 hv2 G1
    go_wp2_with (refine wpList_store_mid rfl 29 _ _ rfl _ 0 (y.cells B) rfl rfl (there_alloc _ _ _ rfl) (by kernel_rfl) (by simp [Value.oneCell', G.cells]) ?_)
    go_meet
    case rel =>
      have KL := KL.out
      refine ⟨_, B, _, _, rfl, rfl, ?_, ?_, KL⟩
      all_goals omega
  case rest =>
  obtain ⟨nb0, A0, lo0, hi0, rfl, rfl, n01, n02, F5⟩ := hcut
  clear F1
  have y1 : nb0 + 1 ≤ wc.heap.size := F5.le 0 rfl
  have y2 : hi0 ≤ wc.heap.size := F5.le 1 rfl
  have y3 : w.heap.size + 1 ≤ wc.heap.size := F5.le 2 rfl
  go_upto_region 2 with fail
  go_cut [5, 6] from 17 to 22 (fun s5 s6 wx => ∃ (nb1 : Nat) (A1 : GA) (lo1 hi1 : Nat), s5 = .pointer (some ⟨nb1, 0, none⟩) ∧ s6 = .int .i64 yc ∧ nb0 + 1 ≤ lo1 ∧ hi0 ≤ lo1 ∧ w.heap.size + 1 ≤ lo1 ∧ hi1 ≤ nb1 ∧ Fr w wx [⟨nb1, nb1 + 1, BoxP nb1 (y.cells A1).toList⟩, ⟨lo1, hi1, GP lo1 hi1 y A1⟩, ⟨nb0, nb0 + 1, BoxP nb0 (y.cells A0).toList⟩, ⟨lo0, hi0, GP lo0 hi0 y A0⟩, ⟨w.heap.size, w.heap.size + 1, BoxP w.heap.size r.cells.toList⟩])
  case first =>
    obtain ⟨c0, c1, c2, c3, c4, c5, c6, c7, c8⟩ := R.boxc (F5.at 2 rfl)
    have zA : w.heap.size < wc.heap.size := F5.le 2 rfl
    go_wp2_with fail
    refine (toRules_c r _).mono ?_
    rintro e v1 ⟨rfl, hv1⟩
    have G1 := F5.step hv1
    have t1 := hv1.size
    (try simp only [World.size_alloc] at t1)
    clear hv1 c0 c1 c2 c3 c4 c5 c6 c7 c8
    go_wp2_with fail
    refine (HI.out _).mono ?_
    rintro e v2 ⟨B, rfl, hg2, hv2⟩
    have G2 := (G1.step hv2).game hg2
    have t2 := hv2.size
    have KL := Lib.hid (G2.storedL #[.int .i64 0, .int .i64 0, .bool false, .bool false, .bool false, .bool false, .bool false, .int .i64 0, .int .i64 0, .slice none 0 0, .slice none 0 0, .int .i64 0, .slice none 0 0, .slice none 0 0, .slice none 0 0, .int .i64 0, .int .i64 0] 29 (y.cells B).toList rfl (by decide))
    clear hg2 hv2 G1
    go_wp2_with (refine wpList_store_mid rfl 29 _ _ rfl _ 0 (y.cells B) rfl rfl (there_alloc _ _ _ rfl) (by kernel_rfl) (by simp [Value.oneCell', G.cells]) ?_)
    go_meet
    case rel =>
      have KL := KL.out
      refine ⟨_, B, _, _, rfl, rfl, ?_, ?_, ?_, ?_, KL⟩
      all_goals omega
  case rest =>
  obtain ⟨nb1, A1, lo1, hi1, rfl, rfl, g01, g02, g03, g04, F8⟩ := hcut
  clear F5 y1 y2 y3
  have RGe := Lib.hid (boxP_range (F8.at 0 rfl))
  have RGf := Lib.hid (boxP_range (F8.at 2 rfl))
  go_wp2_with (first | (refine wpList_load_mid rfl 29 _ rfl _ _ rfl _ _ RGe.out Try.underlying29 rfl (by kernel_rfl) ?_) | (refine wpList_load_mid rfl 29 _ rfl _ _ rfl _ _ RGf.out Try.underlying29 rfl (by kernel_rfl) ?_) | (refine wpList_load_midG (by rfl) 29 _ rfl _ _ rfl _ _ RGe.out Try.underlying29 rfl (by kernel_rfl) ?_))
  refine (eqGame_c y y A1 A0 _ (F8.at 1 rfl).row (F8.at 3 rfl).row my1 my1).mono ?_
  rintro e w9 ⟨rfl, hb9⟩
  have F9 := F8.step hb9
  clear RGe RGf hb9 F8
  have RGe := Lib.hid (boxP_range (F9.at 0 rfl))
  have hX := F9.at 1 rfl
  have hXl : hi1 ≤ w9.heap.size := F9.le 1 rfl
  go_wp2_with (refine wpList_load_mid rfl 29 _ rfl _ _ rfl _ _ RGe.out Try.underlying29 rfl (by kernel_rfl) ?_)
  refine (markGame_c _ _ y A1 1 _ hX hXl (by omega) hsz.1).mono ?_
  rintro e w14 ⟨rfl, hm14, hg14⟩
  have F14 := (F9.chgAt 1 hg14 (by omega) (by simp [List.eraseIdx]; omega)).markG hm14 (Nat.le_trans hXl hg14.size)
  clear RGe hX hm14 hg14 F9
  have RGe := Lib.hid (boxP_range (F14.at 1 rfl))
  go_wp2_with (refine wpList_load_mid rfl 29 _ rfl _ _ rfl _ _ RGe.out Try.underlying29 rfl (by kernel_rfl) ?_)
  refine (heldGame_c _ _ y A1 1 _ (F14.at 0 rfl) (F14.le 0 rfl) (by omega) hsz.1).mono ?_
  rintro e w16 ⟨rfl, hb16⟩
  have F16 := F14.step hb16
  clear RGe hb16 F14
  go_upto_region 13 with fail
  go_cut [9, 10] from 43 to 48 (fun s9 s10 wx => ∃ (nb2 : Nat) (A2 : GA) (lo2 hi2 : Nat), s9 = .pointer (some ⟨nb2, 0, none⟩) ∧ s10 = .int .i64 yc ∧ Fr w wx [⟨nb2, nb2 + 1, BoxP nb2 (y.cells A2).toList⟩, ⟨lo2, hi2, GP lo2 hi2 y A2⟩, ⟨lo1, hi1, MarkG lo1 hi1 y A1 1⟩, ⟨nb1, nb1 + 1, BoxP nb1 (y.cells A1).toList⟩, ⟨nb0, nb0 + 1, BoxP nb0 (y.cells A0).toList⟩, ⟨lo0, hi0, GP lo0 hi0 y A0⟩, ⟨w.heap.size, w.heap.size + 1, BoxP w.heap.size r.cells.toList⟩])
  case first =>
    obtain ⟨c0, c1, c2, c3, c4, c5, c6, c7, c8⟩ := R.boxc (F16.at 4 rfl)
    have zA : w.heap.size < w16.heap.size := F16.le 4 rfl
    go_wp2_with fail
    refine (toRules_c r _).mono ?_
    rintro e v1 ⟨rfl, hv1⟩
    have G1 := F16.step hv1
    have t1 := hv1.size
    (try simp only [World.size_alloc] at t1)
    clear hv1 c0 c1 c2 c3 c4 c5 c6 c7 c8
    go_wp2_with fail
    refine (HI.out _).mono ?_
    rintro e v2 ⟨B, rfl, hg2, hv2⟩
    have G2 := (G1.step hv2).game hg2
    have t2 := hv2.size
    have KL := Lib.hid (G2.storedL #[.int .i64 0, .int .i64 0, .bool false, .bool false, .bool false, .bool false, .bool false, .int .i64 0, .int .i64 0, .slice none 0 0, .slice none 0 0, .int .i64 0, .slice none 0 0, .slice none 0 0, .slice none 0 0, .int .i64 0, .int .i64 0] 29 (y.cells B).toList rfl (by decide))
    clear hg2 hv2 G1
    go_wp2_with (refine wpList_store_mid rfl 29 _ _ rfl _ 0 (y.cells B) rfl rfl (there_alloc _ _ _ rfl) (by kernel_rfl) (by simp [Value.oneCell', G.cells]) ?_)
    go_meet
    case rel =>
      have KL := KL.out
      refine ⟨_, B, _, _, rfl, rfl, KL⟩
      skip
  case rest =>
  obtain ⟨nb2, A2, lo2, hi2, rfl, rfl, F20⟩ := hcut
  clear F16
  have RGe := Lib.hid (boxP_range (F20.at 0 rfl))
  have RGf := Lib.hid (boxP_range (F20.at 4 rfl))
  go_wp2_with (first | (refine wpList_load_mid rfl 29 _ rfl _ _ rfl _ _ RGe.out Try.underlying29 rfl (by kernel_rfl) ?_) | (refine wpList_load_mid rfl 29 _ rfl _ _ rfl _ _ RGf.out Try.underlying29 rfl (by kernel_rfl) ?_) | (refine wpList_load_midG (by rfl) 29 _ rfl _ _ rfl _ _ RGe.out Try.underlying29 rfl (by kernel_rfl) ?_))
  refine (eqGame_c y y A2 A0 _ (F20.at 1 rfl).row (F20.at 5 rfl).row my1 my1).mono ?_
  rintro e w21 ⟨rfl, hb21⟩
  have F21 := F20.step hb21
  clear RGe RGf hb21 F20
  have RGe := Lib.hid (boxP_range (F21.at 3 rfl))
  go_wp2_with (refine wpList_load_mid rfl 29 _ rfl _ _ rfl _ _ RGe.out Try.underlying29 rfl (by kernel_rfl) ?_)
  refine (heldGame_c _ _ y A1 1 _ (F21.at 2 rfl) (F21.le 2 rfl) (by omega) hsz.1).mono ?_
  rintro e w22 ⟨rfl, hb22⟩
  have F22 := F21.step hb22
  clear RGe hb22 F21
  go_wp2
  go_ret
  exact ⟨rfl, F22.below⟩

theorem ngP_len (r : R) : (ngP r).1.Len 1048576 := by
  unfold ngP
  split
  · rename_i h
    have := startP_len h
    exact ⟨by simp [G.of]; omega, by simp [G.of]; omega, by simp [G.of], by simp [G.of]; omega, by simp [G.of]; omega⟩
  · exact ⟨by simp [G.zero], by simp [G.zero], by simp [G.zero], by simp [G.zero], by simp [G.zero]⟩
theorem walked (r : R) (w : World) : Calls Try.prog 3 #[r.val] w fun e w' => e = .returned (.bool true) ∧ Below w.heap.size w w' :=
  walk r w (ngP r) (ngP_len r) (sNewGame_c r) (iNewGame_c r)

set_option maxRecDepth 100000 in
theorem contract (H : Type) (enc : TypeId × Value → H) (W : World) (base : Nat) (args : Array Value) (ds gs : List (DataW H)) (before : List MemPlace)
    (hval : ∀ (j : Nat) t v, Try.f3.params[j]? = some t → args[j]? = some v → Value.okWide Try.prog W .any base t v)
    (hW : DataW.Whole enc Try.prog Try.f3.params.toList Rows.fnExactNewGameSpec.vars false W args.toList ds gs before) :
    Calls Try.prog 3 args W fun e W' => ∃ v, e = .returned v ∧ Rows.fnExactNewGameSpec.post enc Try.prog Try.f3 false true false false W args v W' := by
  have hW' := hW
  obtain ⟨p, q, hA0, hV, rfl, hfz, hnd⟩ := hW
  have hA : DataW.TrodAll enc Try.prog W 0 (fun _ => true) true Try.f3.params.toList args.toList ds p := hA0
  rw [Try.params3] at hA hval
  obtain ⟨v0, vs0, d0, ds0, p0, q0, hargs, rfl, rfl, h0, r0⟩ := trodAll_cons hA
  obtain ⟨rfl, rfl, rfl⟩ := trodAll_nil r0
  obtain rfl : args = #[v0] := by cases args; simp_all
  obtain ⟨a0, rfl, w0⟩ := arg_rules (hval 0 23 v0 rfl rfl) h0
  refine (walked a0 W).mono fun e W' ⟨he, hb⟩ => ?_
  subst he
  exact ⟨_, rfl, law_post hW' hb rfl rfl (by kernel_rfl) rfl⟩

set_option maxRecDepth 100000 in
theorem lifted (os : Os) (started : os.Started) (H : Type) (enc : TypeId × Value → H) :
    ReturnsInHanded {} Try.checked os 3 .any (Rows.fnExactNewGameSpec.pre6 enc Try.prog Try.f3 Rows.fnExactNewGameRow.domain false) (Rows.fnExactNewGameSpec.post enc Try.prog Try.f3 false true false false) := by
  refine returnsInHanded_of_change (C := Try.checked) (s := Rows.fnExactNewGameSpec) own started (by kernel_rfl) Try.func3
    (ChangeSpec.witness6 (enc := enc) (C := Try.checked) (s := Rows.fnExactNewGameSpec) false ⟨#[], #[.agg #[.int .i64 0, .int .i64 0, .bool false, .bool false, .bool false, .bool false, .bool false, .int .i64 0, .int .i64 0]], []⟩ 8 (by kernel_rfl) (by kernel_rfl) (by kernel_rfl) (by kernel_rfl)) ?_
  intro W base args ds gs before hval hW _ _
  exact contract H enc W base args ds gs before hval hW

theorem proved : Rows.FnExactNewGameSaid :=
  OpenClaim.holds_of_wide 3 Try.f3 rfl rfl rfl rfl rfl rfl rfl ⟨rfl, rfl, rfl, rfl, rfl⟩ rfl rfl rfl rfl rfl (by kernel_rfl) Try.func3 (by kernel_rfl)
    (of_decide_eq_true (by kernel_rfl)) (by unfold Func.isWrapper; first | (rw [if_pos (by decide +kernel)]; kernel_rfl) | (rw [if_neg (by decide +kernel)]; exact ⟨rfl, rfl⟩))
    (fun os started H enc _ => lifted os started H enc)
end Go.Proofs.Yteabheocbkcmnaa.lNewGame
