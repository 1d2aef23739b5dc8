/- The law FnExactTableOf returns true for every argument, and every argument reads afterwards as before. No conditions. -/
import Derived.Test.YtbjgigdkbjabaaaTab13
namespace Go.Proofs.Ytbjgigdkbjabaaa.lTableOf
set_option linter.unusedSimpArgs false
set_option linter.unusedVariables false
set_option linter.unnecessarySimpa false
open Go.RowKit Go.ChangeShapes Go.WideShapes Go.ChangeAt Go.Joins
open Go.ChangeMaps (open_string)

set_option maxRecDepth 100000 in
set_option maxHeartbeats 32000000 in
theorem walk (n : Int) (l : List Mt) (a : Option Addr) (c : Nat) (w : World) (h : Row w a (flat mtRL.f l)) (hm : l.length ≤ maxLen) (xs : List Rw) (kc : Int) (hx : xs.length ≤ 12)
    (hs : ∀ (a : Option Addr) (c : Nat) (W : World), Row W a (flat mtRL.f l) → l.length ≤ 1048576 → Calls Try.prog 37 #[.int .i64 n, .slice a l.length c] W (RwResC W xs kc))
    (hi : ∀ (a : Option Addr) (c : Nat) (W : World), Row W a (flat mtRL.f l) → l.length ≤ 1048576 → Calls Try.prog 39 #[.int .i64 n, .slice a l.length c] W (RwResC W xs kc)) :
    Calls Try.prog 8 #[.int .i64 n, .slice a l.length c] w fun e w' => e = .returned (.bool true) ∧ Below w.heap.size w w' := by
  have HS := Lib.hid hs
  have HI := Lib.hid hi
  have HH := Lib.hid h
  have HXL := Lib.hid hx
  clear hs hi h hx
  go_enter Try.func8, Try.ntmps8
  go_wp2_with fail
  refine (szMatchS_c a l.length c 1048576 _ (by omega) (by omega) hm).mono ?_
  rintro e w1 ⟨rfl, rfl⟩
  by_cases hl : szI 1048576 l.length < 0
  · go_wp2
    go_ret
    exact ⟨rfl, Below.refl _ _⟩
  have l3 : l.length ≤ 1048576 := by unfold szI at hl; split at hl <;> omega
  have HL3 := Lib.hid l3
  have hpos : ¬ (1 : Int) + 4 * (l.length : Int) < 0 := by omega
  have hpos2 : ¬ (1 : Int) + 6 * (xs.length : Int) < 0 := by omega
  clear l3
  go_wp2_with fail
  refine (toMatchS_c l a c _ HH.out HL3.out).mono ?_
  rintro e w1 ⟨ta, tc, rfl, ho1, hb1⟩
  have F1 := (Fr.start w).step hb1
  have HO1 : Hid (Row w1 ta (flat mtRL.f l)) := mt_row ho1.mk'
  clear ho1 hb1
  go_wp2_with fail
  refine (HS.out ta tc _ HO1.out HL3.out).mono ?_
  rintro e w2 ⟨wa, wc, rfl, ho2, hb2⟩
  have F2 := (F1.step hb2).pcs ho2
  have z2 : w1.heap.size ≤ w2.heap.size := hb2.size
  have z1 : w.heap.size ≤ w1.heap.size := F1.below.size
  clear ho2 hb2 F1 HO1
  go_wp2_with fail
  refine (toMatchS_c l a c _ (HH.out.below F2.below (Nat.le_refl _)) HL3.out).mono ?_
  rintro e w3 ⟨xa, xc, rfl, ho3, hb3⟩
  have F3 := (F2.step hb3).pcs ho3
  have z3 : w2.heap.size ≤ w3.heap.size := hb3.size
  clear ho3 hb3 F2
  go_wp2_with fail
  refine (HI.out xa xc _ (mt_row (F3.at 0 rfl)) HL3.out).mono ?_
  rintro e w4 ⟨ga, gc, rfl, ho4, hb4⟩
  have F4 := (F3.step hb4).pcs ho4
  have z4 : w3.heap.size ≤ w4.heap.size := hb4.size
  clear ho4 hb4 F3
  go_wp2_with fail
  refine (eqRowS_c xs ga wa gc wc _ (rw_row (F4.at 0 rfl)) (rw_row (F4.at 2 rfl)) (by have := HXL.out; omega)).mono ?_
  rintro e w5 ⟨rfl, hb5⟩
  have F5 := F4.step hb5
  clear hb5 F4
  go_wp2_with fail
  refine (toMatchS_c l a c _ (HH.out.below F5.below (Nat.le_refl _)) HL3.out).mono ?_
  rintro e w6 ⟨ya, yc, rfl, ho6, hb6⟩
  have F6 := F5.step hb6
  have HO6 : Hid (Row w6 ya (flat mtRL.f l)) := mt_row ho6.mk'
  clear ho6 hb6 F5
  go_wp2_with fail
  refine (eqMatchS_c l xa ya xc yc _ (mt_row (F6.at 1 rfl)) HO6.out HL3.out).mono ?_
  rintro e w7 ⟨rfl, hb7⟩
  have F7 := F6.step hb7
  clear hb7 F6 HO6
  have hX := F7.at 1 rfl
  go_wp2_with fail
  refine (markMatchS_c _ _ xa xc l 1 _ hX HL3.out (by omega) (by omega)).mono ?_
  rintro e w8 ⟨rfl, _, hg8⟩
  have F8 := F7.chgAt 1 hg8 (by omega) (by simp [List.eraseIdx] <;> omega)
  clear hg8 hX F7
  go_wp2_with fail
  refine (eqRowS_c xs ga wa gc wc _ (rw_row (F8.at 0 rfl)) (rw_row (F8.at 1 rfl)) (by have := HXL.out; omega)).mono ?_
  rintro e w9 ⟨rfl, hb9⟩
  have F9 := F8.step hb9
  clear hb9 F8
  have hX := F9.at 0 rfl
  have z9 : w4.heap.size ≤ w9.heap.size := F9.le 0 rfl
  go_wp2_with fail
  refine (markRowS_c _ _ ga gc xs 1 _ hX (by have := HXL.out; omega) (by omega) (by omega)).mono ?_
  rintro e w10 ⟨rfl, hm10, hg10⟩
  have F10 := (F9.chgAt 0 hg10 (by omega) (by simp [List.eraseIdx] <;> omega)).add _ _ _ (PcsP.stab _ _ _) hm10 (Nat.le_trans z9 hg10.size)
  clear hg10 hX hm10 F9
  go_wp2_with fail
  have hml : (mkGo mkRw szRw xs 1).length = xs.length := mkGo_len _ _ _ _
  have hr10 := rw_row (F10.at 0 rfl)
  refine (heldRowS_c ga gc xs 1 _ hr10 (by have := HXL.out; omega) (by omega) (by omega)).mono ?_
  rintro e w11 ⟨rfl, rfl⟩
  clear hr10
  go_wp2_with fail
  refine (toMatchS_c l a c _ (HH.out.below F10.below (Nat.le_refl _)) HL3.out).mono ?_
  rintro e w12 ⟨ua, uc, rfl, ho12, hb12⟩
  have F12 := F10.step hb12
  have HO12 : Hid (Row w12 ua (flat mtRL.f l)) := mt_row ho12.mk'
  clear ho12 hb12 F10
  go_wp2_with fail
  refine (HI.out ua uc _ HO12.out HL3.out).mono ?_
  rintro e w13 ⟨ha, hc, rfl, ho13, hb13⟩
  have F13 := (F12.step hb13).pcs ho13
  clear ho13 hb13 F12 HO12
  go_wp2_with fail
  refine (eqRowS_c xs ha wa hc wc _ (rw_row (F13.at 0 rfl)) (rw_row (F13.at 2 rfl)) (by have := HXL.out; omega)).mono ?_
  rintro e w14 ⟨rfl, hb14⟩
  have F14 := F13.step hb14
  clear hb14 F13
  have hr14 := rw_row (F14.at 1 rfl)
  go_wp2_with fail
  refine (heldRowS_c ga gc xs 1 _ hr14 (by have := HXL.out; omega) (by omega) (by omega)).mono ?_
  rintro e w15 ⟨rfl, rfl⟩
  clear hr14
  go_wp2
  go_ret
  exact ⟨rfl, F14.below⟩

theorem walked (n : Int) (l : List Mt) (a : Option Addr) (c : Nat) (w : World) (h : Row w a (flat mtRL.f l)) (hm : l.length ≤ maxLen) :
    Calls Try.prog 8 #[.int .i64 n, .slice a l.length c] w fun e w' => e = .returned (.bool true) ∧ Below w.heap.size w w' :=
  walk n l a c w h hm (tableP n l) (tableK n l) (tableP_len n l) (fun a c W h hl => sTableOf_c n l a c W h hl) (fun a c W h hl => iTableOf_c n l a c W h hl)

set_option maxRecDepth 100000 in
theorem contract (H : Type) (enc : TypeId × Value → H) (W : World) (base : Nat) (args : Array Value) (ds gs : List (DataW H)) (before : List MemPlace)
    (hval : ∀ (j : Nat) t v, Try.f8.params[j]? = some t → args[j]? = some v → Value.okWide Try.prog W .any base t v)
    (hW : DataW.Whole enc Try.prog Try.f8.params.toList Rows.fnExactTableOfSpec.vars false W args.toList ds gs before) :
    Calls Try.prog 8 args W fun e W' => ∃ v, e = .returned v ∧ Rows.fnExactTableOfSpec.post enc Try.prog Try.f8 false true false false W args v W' := by
  have hW' := hW
  obtain ⟨p, q, hA0, hV, rfl, hfz, hnd⟩ := hW
  have hA : DataW.TrodAll enc Try.prog W 0 (fun _ => true) true Try.f8.params.toList args.toList ds p := hA0
  rw [Try.params8] at hA hval
  obtain ⟨v0, vs0, d0, ds0, p0, q0, hargs, rfl, rfl, h0, r0⟩ := trodAll_cons hA
  obtain ⟨v1, vs1, d1, ds1, p1, q1, rfl, rfl, rfl, h1, r1⟩ := trodAll_cons r0
  obtain ⟨rfl, rfl, rfl⟩ := trodAll_nil r1
  obtain rfl : args = #[v0, v1] := by cases args; simp_all
  obtain ⟨a0, rfl, _, _, w0⟩ := open_int Try.underlying2 (hval 0 2 v0 rfl rfl) h0
  obtain ⟨fa1, fc1, fl1, rfl, w1⟩ := arg_mts (hval 1 63 v1 rfl rfl) h1
  refine (walked a0 fl1 fa1 fc1 W w1.1 w1.2.1).mono fun e W' ⟨he, hb⟩ => ?_
  subst he
  exact ⟨_, rfl, law_post hW' hb rfl rfl (by kernel_rfl) rfl⟩

set_option maxRecDepth 100000 in
theorem lifted (os : Os) (started : os.Started) (H : Type) (enc : TypeId × Value → H) :
    ReturnsInHanded {} Try.checked os 8 .any (Rows.fnExactTableOfSpec.pre6 enc Try.prog Try.f8 Rows.fnExactTableOfRow.domain false) (Rows.fnExactTableOfSpec.post enc Try.prog Try.f8 false true false false) := by
  refine returnsInHanded_of_change (C := Try.checked) (s := Rows.fnExactTableOfSpec) own started (by kernel_rfl) Try.func8
    (ChangeSpec.witness6 (enc := enc) (C := Try.checked) (s := Rows.fnExactTableOfSpec) false ⟨#[], #[.int .i64 0, .slice none 0 0], []⟩ 8 (by kernel_rfl) (by kernel_rfl) (by kernel_rfl) (by kernel_rfl)) ?_
  intro W base args ds gs before hval hW _ _
  exact contract H enc W base args ds gs before hval hW

theorem proved : Rows.FnExactTableOfSaid :=
  OpenClaim.holds_of_wide 8 Try.f8 rfl rfl rfl rfl rfl rfl rfl ⟨rfl, rfl, rfl, rfl, rfl⟩ rfl rfl rfl rfl rfl (by kernel_rfl) Try.func8 (by kernel_rfl)
    (of_decide_eq_true (by kernel_rfl)) (by unfold Func.isWrapper; first | (rw [if_pos (by decide +kernel)]; kernel_rfl) | (rw [if_neg (by decide +kernel)]; exact ⟨rfl, rfl⟩))
    (fun os started H enc _ => lifted os started H enc)
end Go.Proofs.Ytbjgigdkbjabaaa.lTableOf
