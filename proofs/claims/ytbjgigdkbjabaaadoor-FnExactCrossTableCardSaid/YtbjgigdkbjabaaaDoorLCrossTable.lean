/- The law FnExactCrossTable returns true for every argument, and every argument reads afterwards as before, where the listed package-level variables hold what the program's text lays. -/
import Derived.Test.YtbjgigdkbjabaaaDoorTabZ
import Derived.Test.YtbjgigdkbjabaaaDoorDoorX
import Derived.Test.YtbjgigdkbjabaaaDoorCards
import Derived.Test.YtbjgigdkbjabaaaDoorTie
import Derived.SevenTiedAt
namespace Go.Proofs.YtbjgigdkbjabaaaDoor.lCrossTable
set_option linter.unusedSimpArgs false
set_option linter.unusedVariables false
set_option linter.unnecessarySimpa false
open Go.RowKit Go.ChangeShapes Go.WideShapes Go.ChangeAt Go.Joins
open Go.ChangeMaps (open_string)

set_option maxRecDepth 100000 in
set_option maxHeartbeats 32000000 in
theorem walk (n : Int) (l : List Mt) (a : Option Addr) (c : Nat) (w : World) (h : Row w a (flat mtRL.f l)) (hm : l.length ≤ maxLen) (ht : TabB w) (xs : List ByteArray) (kc : Int) (hx : xs.length ≤ 12)
    (hs : ∀ (a : Option Addr) (c : Nat) (W : World), Row W a (flat mtRL.f l) → l.length ≤ 1048576 → Calls Tryd.prog 10 #[.int .i64 n, .slice a l.length c] W (StResC W xs kc))
    (hi : ∀ (a : Option Addr) (c : Nat) (W : World), Row W a (flat mtRL.f l) → l.length ≤ 1048576 → TabB W → Calls Tryd.prog 12 #[.int .i64 n, .slice a l.length c] W (StResC W xs kc)) :
    Calls Tryd.prog 4 #[.int .i64 n, .slice a l.length c] w fun e w' => e = .returned (.bool true) ∧ Below w.heap.size w w' := by
  have HS := Lib.hid hs
  have HI := Lib.hid hi
  have HH := Lib.hid h
  have HXL := Lib.hid hx
  have HT : Hid (∀ W, Below w.heap.size w W → TabB W) := fun W hW W' hW' => ht W' (below_next hW hW')
  clear hs hi h hx ht
  go_enter Tryd.func4, Tryd.ntmps4
  go_wp2_with fail
  refine (szMatchS_c a l.length c 1048576 _ (by omega) (by omega) hm).mono ?_
  rintro e w1 ⟨rfl, rfl⟩
  by_cases hl : szI 1048576 l.length < 0
  · go_wp2
    go_ret
    exact ⟨rfl, Below.refl _ _⟩
  have l3 : l.length ≤ 1048576 := by unfold szI at hl; split at hl <;> omega
  have HL3 := Lib.hid l3
  have hpos : ¬ (1 : Int) + 4 * (l.length : Int) < 0 := by omega
  have hpos2 : ¬ (1 : Int) + (xs.length : Int) < 0 := by omega
  clear l3
  go_wp2_with fail
  refine (toMatchS_c l a c _ HH.out HL3.out).mono ?_
  rintro e w1 ⟨ta, tc, rfl, ho1, hb1⟩
  have F1 := (Fr.start w).step hb1
  have HO1 : Hid (Row w1 ta (flat mtRL.f l)) := mt_row ho1.mk'
  clear ho1 hb1
  go_wp2_with fail
  refine (HS.out ta tc _ HO1.out HL3.out).mono ?_
  rintro e w2 ⟨wa, wc, rfl, ho2, hb2⟩
  have F2 := (F1.step hb2).ownV ho2
  have z2 : w1.heap.size ≤ w2.heap.size := hb2.size
  have z1 : w.heap.size ≤ w1.heap.size := F1.below.size
  clear ho2 hb2 F1 HO1
  go_wp2_with fail
  refine (toMatchS_c l a c _ (HH.out.below F2.below (Nat.le_refl _)) HL3.out).mono ?_
  rintro e w3 ⟨xa, xc, rfl, ho3, hb3⟩
  have F3 := (F2.step hb3).pcs ho3
  have z3 : w2.heap.size ≤ w3.heap.size := hb3.size
  clear ho3 hb3 F2
  go_wp2_with fail
  refine (HI.out xa xc _ (mt_row (F3.at 0 rfl)) HL3.out (HT.out _ F3.below)).mono ?_
  rintro e w4 ⟨ga, gc, rfl, ho4, hb4⟩
  have F4 := (F3.step hb4).ownV ho4
  have z4 : w3.heap.size ≤ w4.heap.size := hb4.size
  clear ho4 hb4 F3
  go_wp2_with fail
  refine (eqStringS_c ga wa gc wc xs xs _ (own_row (F4.at 0 rfl).1) (own_row (F4.at 2 rfl).1) (by have := HXL.out; unfold maxLen; omega) (by have := HXL.out; unfold maxLen; omega)).mono ?_
  rintro e w5 ⟨rfl, m5, hm5⟩
  have F5 := F4.step (w' := w5) (by rw [hm5]; exact below_draws _ _ _)
  rw [strsEq_self]
  clear hm5 F4
  go_wp2_with fail
  refine (toMatchS_c l a c _ (HH.out.below F5.below (Nat.le_refl _)) HL3.out).mono ?_
  rintro e w6 ⟨ya, yc, rfl, ho6, hb6⟩
  have F6 := F5.step hb6
  have HO6 : Hid (Row w6 ya (flat mtRL.f l)) := mt_row ho6.mk'
  clear ho6 hb6 F5
  go_wp2_with fail
  refine (eqMatchS_c l xa ya xc yc _ (mt_row (F6.at 1 rfl)) HO6.out HL3.out).mono ?_
  rintro e w7 ⟨rfl, hb7⟩
  have F7 := F6.step hb7
  clear hb7 F6 HO6
  have hX := F7.at 1 rfl
  go_wp2_with fail
  refine (markMatchS_c _ _ xa xc l 1 _ hX HL3.out (by omega) (by omega)).mono ?_
  rintro e w8 ⟨rfl, _, hg8⟩
  have F8 := F7.chgAt 1 hg8 (by omega) (by simp [List.eraseIdx] <;> omega)
  clear hg8 hX F7
  go_wp2_with fail
  refine (eqStringS_c ga wa gc wc xs xs _ (own_row (F8.at 0 rfl).1) (own_row (F8.at 1 rfl).1) (by have := HXL.out; unfold maxLen; omega) (by have := HXL.out; unfold maxLen; omega)).mono ?_
  rintro e w9 ⟨rfl, m9, hm9⟩
  have F9 := F8.step (w' := w9) (by rw [hm9]; exact below_draws _ _ _)
  rw [strsEq_self]
  clear hm9 F8
  have hX := F9.at 0 rfl
  have z9 : w4.heap.size ≤ w9.heap.size := F9.le 0 rfl
  go_wp2_with fail
  refine (markStringS_c _ _ ga xs.length gc _ 1 _ hX z9 (by omega) (by have := HXL.out; omega)).mono ?_
  rintro e w10 ⟨rfl, hm10, hg10⟩
  have F10 := (F9.chgAt 0 hg10 (by omega) (by simp [List.eraseIdx] <;> omega)).add _ _ _ (OwnP.stab _ _ _ _ _ _ _) hm10 (Nat.le_trans z9 hg10.size)
  clear hg10 hX hm10 F9
  go_wp2_with fail
  have hr10 := own_row (F10.at 0 rfl).1
  refine (heldStringS_c ga xs.length gc 1 _ hr10 (by omega) (by have := HXL.out; omega)).mono ?_
  rintro e w11 ⟨rfl, hb11⟩
  have F11 := F10.step hb11
  clear hr10 F10 hb11
  have F10 := F11
  clear F11
  go_wp2_with fail
  refine (toMatchS_c l a c _ (HH.out.below F10.below (Nat.le_refl _)) HL3.out).mono ?_
  rintro e w12 ⟨ua, uc, rfl, ho12, hb12⟩
  have F12 := F10.step hb12
  have HO12 : Hid (Row w12 ua (flat mtRL.f l)) := mt_row ho12.mk'
  clear ho12 hb12 F10
  go_wp2_with fail
  refine (HI.out ua uc _ HO12.out HL3.out (HT.out _ F12.below)).mono ?_
  rintro e w13 ⟨ha, hc, rfl, ho13, hb13⟩
  have F13 := (F12.step hb13).ownV ho13
  clear ho13 hb13 F12 HO12
  go_wp2_with fail
  refine (eqStringS_c ha wa hc wc xs xs _ (own_row (F13.at 0 rfl).1) (own_row (F13.at 2 rfl).1) (by have := HXL.out; unfold maxLen; omega) (by have := HXL.out; unfold maxLen; omega)).mono ?_
  rintro e w14 ⟨rfl, m14, hm14⟩
  have F14 := F13.step (w' := w14) (by rw [hm14]; exact below_draws _ _ _)
  rw [strsEq_self]
  clear hm14 F13
  have hr14 := own_row (F14.at 1 rfl).1
  go_wp2_with fail
  refine (heldStringS_c ga xs.length gc 1 _ hr14 (by omega) (by have := HXL.out; omega)).mono ?_
  rintro e w15 ⟨rfl, hb15⟩
  have F15 := F14.step hb15
  clear hr14 hb15 F14
  go_wp2
  go_ret
  exact ⟨rfl, F15.below⟩

theorem walked (n : Int) (l : List Mt) (a : Option Addr) (c : Nat) (w : World) (h : Row w a (flat mtRL.f l)) (hm : l.length ≤ maxLen) (ht : TabB w) :
    Calls Tryd.prog 4 #[.int .i64 n, .slice a l.length c] w fun e w' => e = .returned (.bool true) ∧ Below w.heap.size w w' :=
  walk n l a c w h hm ht (crossP n l) (crossK n l) (crossP_len n l) (fun a c W h hl => sCrossTable_c n l a c W h hl) (fun a c W h hl ht => iCrossTable_c n l a c W h hl ht)

set_option maxRecDepth 100000 in
theorem contract (H : Type) (enc : TypeId × Value → H) (W : World) (base : Nat) (args : Array Value) (ds gs : List (DataW H)) (before : List MemPlace)
    (hval : ∀ (j : Nat) t v, Tryd.f4.params[j]? = some t → args[j]? = some v → Value.okWide Tryd.prog W .any base t v)
    (hW : DataW.Whole enc Tryd.prog Tryd.f4.params.toList Rows.fnExactCrossTableSpec.vars false W args.toList ds gs before) (hL : laidMetH Tryd.prog laidL W) :
    Calls Tryd.prog 4 args W fun e W' => ∃ v, e = .returned v ∧ Rows.fnExactCrossTableSpec.post enc Tryd.prog Tryd.f4 false true false false W args v W' := by
  have hW' := hW
  have htab := Lib.tabBelow_of_tabIs (laidL_tab hL)
  obtain ⟨p, q, hA0, hV, rfl, hfz, hnd⟩ := hW
  have hA : DataW.TrodAll enc Tryd.prog W 0 (fun _ => true) true Tryd.f4.params.toList args.toList ds p := hA0
  rw [Tryd.params4] at hA hval
  obtain ⟨v0, vs0, d0, ds0, p0, q0, hargs, rfl, rfl, h0, r0⟩ := trodAll_cons hA
  obtain ⟨v1, vs1, d1, ds1, p1, q1, rfl, rfl, rfl, h1, r1⟩ := trodAll_cons r0
  obtain ⟨rfl, rfl, rfl⟩ := trodAll_nil r1
  obtain rfl : args = #[v0, v1] := by cases args; simp_all
  obtain ⟨a0, rfl, _, _, w0⟩ := open_int Tryd.underlying2 (hval 0 2 v0 rfl rfl) h0
  obtain ⟨fa1, fc1, fl1, rfl, w1⟩ := arg_mts (hval 1 28 v1 rfl rfl) h1
  refine (walked a0 fl1 fa1 fc1 W w1.1 w1.2.1 htab).mono fun e W' ⟨he, hb⟩ => ?_
  subst he
  exact ⟨_, rfl, law_post hW' hb rfl rfl (by kernel_rfl) rfl⟩

set_option maxRecDepth 100000 in
theorem lifted (os : Os) (started : os.Started) (H : Type) (enc : TypeId × Value → H) :
    ReturnsInHanded {} Tryd.checked os 4 .any (fun w args => (Rows.fnExactCrossTableSpec.pre enc Tryd.prog Tryd.f4 [] false w args ∧ laidMetH Tryd.prog laidL w) ∧ sizedMet enc Tryd.prog Tryd.f4 (OpenSpec.ofChange Rows.fnExactCrossTableSpec) false w args)
      (Rows.fnExactCrossTableSpec.post enc Tryd.prog Tryd.f4 false true false false) := by
  refine returnsInHanded_of_change_and (C := Tryd.checked) (X := fun w _ => laidMetH Tryd.prog laidL w) (fun _ _ _ hh h => h.of_heap hh) own started (by kernel_rfl) Tryd.func4
    (ChangeSpec.witness_shaped (enc := enc) (C := Tryd.checked) (os := os) (X := fun w _ => laidMetH Tryd.prog laidL w) false (World.doorLaid Tryd.prog 400 os) #[.int .i64 0, .slice none 0 0] 8 rfl (World.shaped_of_RefB (by kernel_rfl) (by kernel_rfl)) (by kernel_rfl) (by kernel_rfl) (by kernel_rfl) (doorL_met os _)) ?_
  intro W base args ds gs before hval0 hW _ _ hL _
  exact contract H enc W base args ds gs before hval0 hW hL

theorem row_proved : Rows.FnExactCrossTableSaid :=
  OpenClaim.holds_of_wide 4 Tryd.f4 rfl rfl rfl rfl rfl rfl rfl ⟨rfl, rfl, rfl, rfl, rfl⟩ rfl rfl rfl rfl rfl (by kernel_rfl) Tryd.func4 (by kernel_rfl)
    (of_decide_eq_true (by kernel_rfl)) (by unfold Func.isWrapper; first | (rw [if_pos (by decide +kernel)]; kernel_rfl) | (rw [if_neg (by decide +kernel)]; exact ⟨rfl, rfl⟩))
    (fun os started H enc _ => lifted os started H enc)

set_option maxRecDepth 100000 in
theorem proved : Rows.FnExactCrossTableCardSaid :=
  Claim7.holds_tied_plain_at .later [] [.data, .data, .data] true (true, "cf7da85aba921c0a137666ee167e91f821a3b8d94663f1f91e3d68700fadb406") false
    row_proved (fun _ h => by cases h) (by kernel_rfl) (fun _ h => by cases h) fnExactCrossTable_row_tie rfl ⟨rfl, rfl⟩ (by kernel_rfl) rfl
    (fun f fn hf hfn => by
      obtain rfl : f = 4 := Option.some.inj ((show Tryd.prog.funcNamed "loop.example/g00926/laws.FnExactCrossTable" = some 4 by kernel_rfl).symm.trans hf) |>.symm
      obtain rfl : fn = Tryd.f4 := (Option.some.inj (Tryd.func4.symm.trans hfn)).symm
      exact ⟨by kernel_rfl, fun j t ht => by
        rw [Tryd.params4] at ht
        have hm : t ∈ [2, 28] := by simpa using Array.mem_of_getElem? ht
        have hall : ([2, 28].all fun u => !Tryd.prog.wantsStandIn u) = true := by kernel_rfl
        exact (show Tryd.prog.wantsStandIn t = false by simpa using List.all_eq_true.1 hall t hm)⟩)
    (by kernel_rfl)
end Go.Proofs.YtbjgigdkbjabaaaDoor.lCrossTable
