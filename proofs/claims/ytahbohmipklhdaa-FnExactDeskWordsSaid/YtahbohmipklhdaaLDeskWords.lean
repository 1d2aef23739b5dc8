/- The law FnExactDeskWords returns true. No conditions. -/
import Derived.Test.YtahbohmipklhdaaStrs
namespace Go.Proofs.Ytahbohmipklhdaa.lDeskWords
set_option linter.unusedSimpArgs false
set_option linter.unusedVariables false
open Go.RowKit Go.ChangeShapes Go.WideShapes Go.ChangeAt Go.Joins
open Go.ChangeMaps (open_string)

def deskWords : List ByteArray := [⟨#[97, 116]⟩, ⟨#[98, 101, 115, 116]⟩, ⟨#[99, 104, 101, 99, 107]⟩, ⟨#[103, 114, 101, 101, 100, 121]⟩, ⟨#[105, 110, 100, 101, 120]⟩, ⟨#[108, 105, 110, 101]⟩, ⟨#[108, 111, 115, 115]⟩, ⟨#[109, 111, 118, 101]⟩, ⟨#[109, 111, 118, 101, 115]⟩, ⟨#[110, 101, 119]⟩, ⟨#[111, 117, 116, 99, 111, 109, 101]⟩, ⟨#[112, 97, 99, 107]⟩, ⟨#[114, 97, 110, 107]⟩, ⟨#[115, 101, 97, 114, 99, 104]⟩, ⟨#[115, 101, 116]⟩, ⟨#[115, 104, 111, 119]⟩, ⟨#[115, 111, 119]⟩, ⟨#[116, 97, 98, 108, 101]⟩, ⟨#[118, 97, 108, 117, 101]⟩]
def deskCells : Array Value := (deskWords.map Value.string).toArray
set_option maxHeartbeats 1000000 in
theorem i_c (w : World) : Calls Try.prog 16 #[] w fun e w' => e = .returned (.slice (some ⟨w.heap.size, 0, none⟩) 19 19) ∧ w' = w.alloc (.cells deskCells 9) := by
  go_enter Try.func16, Try.ntmps16
  go_wp2
  go_ret
  exact ⟨rfl, rfl⟩
set_option maxHeartbeats 1000000 in
theorem w_c (w : World) : Calls Try.prog 63 #[] w fun e w' => e = .returned (.slice (some ⟨w.heap.size, 0, none⟩) 19 19) ∧ w' = w.alloc (.cells deskCells 9) := by
  go_enter Try.func63, Try.ntmps63
  go_wp2
  go_ret
  exact ⟨rfl, rfl⟩
set_option maxHeartbeats 1000000 in
theorem s_c (w : World) : Calls Try.prog 15 #[] w fun e w' => e = .returned (.slice (some ⟨w.heap.size, 0, none⟩) 19 19) ∧ w' = w.alloc (.cells deskCells 9) := by
  go_enter Try.func15, Try.ntmps15
  go_wp2_with fail
  refine (w_c _).mono ?_
  rintro e w' ⟨rfl, rfl⟩
  go_wp2
  go_ret
  exact ⟨rfl, rfl⟩

theorem box_own (w : World) : OwnP w.heap.size (w.heap.size + 1) 9 1 (.slice (some ⟨w.heap.size, 0, none⟩) 19 19) 19 (deskWords.map Value.string) (w.alloc (.cells deskCells 9)) :=
  ⟨World.ownsRow_lit (base := w.heap.size) (e := 9) (size := 1) w deskCells 19 (Nat.le_refl _) (by unfold maxLen; omega) rfl, fun k hk => by simp [Value.ownBlock] at hk; omega⟩
set_option maxRecDepth 100000 in
set_option maxHeartbeats 4000000 in
theorem walk (w : World) : Calls Try.prog 3 #[] w fun e w' => e = .returned (.bool true) ∧ Below w.heap.size w w' := by
  go_enter Try.func3, Try.ntmps3
  go_wp2_with fail
  refine (s_c _).mono ?_
  rintro e w1 ⟨rfl, hw1⟩
  have F1 := (Fr.start w).alloc deskCells 9
  rw [← hw1] at F1
  have s1 : w1.heap.size = w.heap.size + 1 := by rw [hw1]; simp
  have S1 := Lib.hid s1
  clear hw1 s1
  go_wp2_with fail
  refine (i_c _).mono ?_
  rintro e w2 ⟨rfl, hw2⟩
  have O2 := box_own w1
  have F2 := (F1.step (below_alloc1 _ (.cells deskCells 9))).add _ _ _ (OwnP.stab _ _ _ _ _ _ _) O2 (by simp)
  rw [← hw2] at F2 O2
  clear hw2
  go_wp2_with fail
  refine (eqStringS_c (some ⟨w1.heap.size, 0, none⟩) (some ⟨w.heap.size, 0, none⟩) 19 19 deskWords deskWords _ (own_row (F2.at 0 rfl).1) (BoxP.row (F2.at 1 rfl)) (by simp [deskWords, maxLen]) (by simp [deskWords, maxLen])).mono ?_
  rintro e w3 ⟨rfl, m3, rfl⟩
  have F3 := F2.drawn m3
  rw [strsEq_self]
  go_wp2_with fail
  refine (markStringS_c _ _ (some ⟨w1.heap.size, 0, none⟩) 19 19 _ 1 _ (F3.at 0 rfl) (F3.le 0 rfl) (by omega) (by omega)).mono ?_
  rintro e w4 ⟨rfl, ho4, hg4⟩
  have F4 := (F3.chgAt 0 hg4 (by have := S1.out; omega) (by simp [List.eraseIdx]; have := S1.out; omega)).add _ _ _ (OwnP.stab _ _ _ _ _ _ _) ho4 (Nat.le_trans (F3.le 0 rfl) hg4.size)
  go_wp2_with fail
  refine (heldStringS_c (some ⟨w1.heap.size, 0, none⟩) 19 19 1 _ (own_row (F4.at 0 rfl).1) (by omega) (by omega)).mono ?_
  rintro e w5 ⟨rfl, hb5⟩
  have F5 := F4.step hb5
  go_wp2_with fail
  refine (i_c _).mono ?_
  rintro e w6 ⟨rfl, hw6⟩
  have F6 := F5.alloc deskCells 9
  rw [← hw6] at F6
  clear hw6
  go_wp2_with fail
  refine (eqStringS_c (some ⟨w5.heap.size, 0, none⟩) (some ⟨w.heap.size, 0, none⟩) 19 19 deskWords deskWords _ (BoxP.row (F6.at 0 rfl)) (BoxP.row (F6.at 2 rfl)) (by simp [deskWords, maxLen]) (by simp [deskWords, maxLen])).mono ?_
  rintro e w7 ⟨rfl, m7, rfl⟩
  have F7 := F6.drawn m7
  rw [strsEq_self]
  go_wp2_with fail
  refine (heldStringS_c (some ⟨w1.heap.size, 0, none⟩) 19 19 1 _ (own_row (F7.at 1 rfl).1) (by omega) (by omega)).mono ?_
  rintro e w8 ⟨rfl, hb8⟩
  have F8 := F7.step hb8
  go_wp2
  go_ret
  exact ⟨rfl, F8.below⟩
set_option maxRecDepth 100000 in
theorem contract (H : Type) (enc : TypeId × Value → H) (W : World) (base : Nat) (args : Array Value) (ds gs : List (DataW H)) (before : List MemPlace)
    (hval : ∀ (j : Nat) t v, Try.f3.params[j]? = some t → args[j]? = some v → Value.okWide Try.prog W .any base t v)
    (hW : DataW.Whole enc Try.prog Try.f3.params.toList Rows.fnExactDeskWordsSpec.vars false W args.toList ds gs before) :
    Calls Try.prog 3 args W fun e W' => ∃ v, e = .returned v ∧ Rows.fnExactDeskWordsSpec.post enc Try.prog Try.f3 false true false false W args v W' := by
  have hW' := hW
  obtain ⟨p, q, hA0, hV, rfl, hfz, hnd⟩ := hW
  have hA : DataW.TrodAll enc Try.prog W 0 (fun _ => true) true Try.f3.params.toList args.toList ds p := hA0
  rw [Try.params3] at hA hval
  obtain ⟨hargs, rfl, rfl⟩ := trodAll_nil hA
  obtain rfl : args = #[] := by cases args; simp_all
  refine (walk W).mono fun e W' ⟨he, hb⟩ => ?_
  subst he
  exact ⟨_, rfl, law_post hW' hb rfl rfl (by kernel_rfl) rfl⟩

set_option maxRecDepth 100000 in
theorem lifted (os : Os) (started : os.Started) (H : Type) (enc : TypeId × Value → H) :
    ReturnsInHanded {} Try.checked os 3 .any (Rows.fnExactDeskWordsSpec.pre6 enc Try.prog Try.f3 Rows.fnExactDeskWordsRow.domain false) (Rows.fnExactDeskWordsSpec.post enc Try.prog Try.f3 false true false false) := by
  refine returnsInHanded_of_change (C := Try.checked) (s := Rows.fnExactDeskWordsSpec) own started (by kernel_rfl) Try.func3
    (ChangeSpec.witness6 (enc := enc) (C := Try.checked) (s := Rows.fnExactDeskWordsSpec) false ⟨#[], #[], []⟩ 8 (by kernel_rfl) (by kernel_rfl) (by kernel_rfl) (by kernel_rfl)) ?_
  intro W base args ds gs before hval hW _ _
  exact contract H enc W base args ds gs before hval hW

theorem proved : Rows.FnExactDeskWordsSaid :=
  OpenClaim.holds_of_wide 3 Try.f3 rfl rfl rfl rfl rfl rfl rfl ⟨rfl, rfl, rfl, rfl, rfl⟩ rfl rfl rfl rfl rfl (by kernel_rfl) Try.func3 (by kernel_rfl)
    (of_decide_eq_true (by kernel_rfl)) (by unfold Func.isWrapper; first | (rw [if_pos (by decide +kernel)]; kernel_rfl) | (rw [if_neg (by decide +kernel)]; exact ⟨rfl, rfl⟩))
    (fun os started H enc _ => lifted os started H enc)
end Go.Proofs.Ytahbohmipklhdaa.lDeskWords
