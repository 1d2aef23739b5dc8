/- Clock6: time is added to a clock: both sides return the same. Each contract holds for every argument, under the premises that it states. -/
import Derived.Test.YtbjdfgfebepacaaClock5
namespace Go.Proofs.Ytbjdfgfebepacaa
set_option linter.unusedSimpArgs false
set_option linter.unusedVariables false
set_option linter.unnecessarySimpa false
open Go.RowKit Go.ChangeShapes Go.WideShapes Go.ChangeAt Go.Joins

theorem Ck.ok_parts {x : Ck} (h : x.ok = true) : ∃ p q, x.left = [p, q] ∧ (0 ≤ p ∧ p ≤ 36000000) ∧ (0 ≤ q ∧ q ≤ 36000000) ∧ (0 ≤ x.inc ∧ x.inc ≤ 36000000) ∧ (0 ≤ x.delay ∧ x.delay ≤ 36000000) ∧ (0 ≤ x.since ∧ x.since ≤ 36000000) ∧ (0 ≤ x.player ∧ x.player ≤ 1) := by
  unfold Ck.ok at h
  split at h
  · rename_i p q e
    simp only [Bool.and_eq_true, Ck.first] at h
    obtain ⟨⟨⟨⟨⟨⟨h1, h2⟩, h3⟩, h4⟩, h5⟩, h6⟩, _⟩ := h
    exact ⟨p, q, e, isT_iff.1 h1, isT_iff.1 h2, isT_iff.1 h3, isT_iff.1 h4, isT_iff.1 h5, inB_iff.1 h6⟩
  · cases h
/-- the number of the player: left or right -/
def pick2 (pl p q : Int) : Int := if pl = 0 then p else q
def set2 (pl p q v : Int) : List Int := if pl = 0 then [v, q] else [p, v]
def addP (x : Ck) (pl t : Int) : Ck × Int :=
  if x.ok = false then (Ck.zero, 1) else if (inB pl 0 1 && inB t (-36000000) 36000000) = false then (Ck.zero, 2) else
  match x.left with
  | [p, q] => if (x.fallen || !inB (pick2 pl p q + t) 1 36000000) = true then (Ck.zero, 6) else ({ x with left := set2 pl p q (pick2 pl p q + t) }, 0)
  | _ => (Ck.zero, 6)

theorem addP_len (x : Ck) (pl t : Int) : (addP x pl t).1.left.length ≤ 2 := by
  unfold addP
  repeat' split
  all_goals first | (simp [Ck.zero]; done) | (simp [set2]; split <;> simp)
theorem own_two {w : World} {base c : Nat} {a : Option Addr} {p q : Int} (h : OwnI w base a c [p, q]) :
    ∃ g, a = some ⟨g, 0, none⟩ ∧ base ≤ g ∧ g < w.heap.size ∧ w.cell? ⟨g, 0, none⟩ = some (.int .i64 p) ∧ w.cell? ⟨g, 1, none⟩ = some (.int .i64 q) ∧ w.frozen? ⟨g, 0, none⟩ = false ∧ w.frozen? ⟨g, 1, none⟩ = false ∧
      (∀ v, OwnI (w.setCell ⟨g, 0, none⟩ (.int .i64 v)) base a c [v, q]) ∧ (∀ v, OwnI (w.setCell ⟨g, 1, none⟩ (.int .i64 v)) base a c [p, v]) := by
  obtain ⟨g, rfl, hg1, hg2⟩ := own_lt_n h (by simp)
  refine ⟨g, rfl, hg1, hg2, ?_, ?_, ?_, ?_, fun v => ?_, fun v => ?_⟩
  · rw [h.cellAt 0 (by simp)]; rfl
  · rw [h.cellAt 1 (by simp)]; rfl
  · exact h.frozenAt 0
  · exact h.frozenAt 1
  · exact (h.stored 0 (.int .i64 v)).1
  · exact (h.stored 1 (.int .i64 v)).1
set_option maxHeartbeats 4000000 in
theorem iAddTime_c (x : Ck) (a : Option Addr) (c : Nat) (pl t : Int) (w : World) (h : Ints w a x.left) (hm : x.left.length ≤ 16777216) :
    Calls Try.prog 47 #[x.val a c, .int .i64 pl, .int .i64 t] w (CkRes w (addP x pl t)) := by
  go_enter Try.func47, Try.ntmps47
  go_wp2_with fail
  refine (ValidClock_c x a c _ (h.below (below_alloc2 _ _ _) (Nat.le_refl _)) (by unfold maxLen; omega)).mono ?_
  rintro e w1 ⟨rfl, hb1⟩
  have hW1 : Below w.heap.size w w1 := below_next (below_alloc2 _ _ _) hb1
  obtain ⟨hc1, hf1⟩ := bcell hb1
  simp only [World.size_alloc] at hc1 hf1
  have hz1b : w.heap.size + 1 < w1.heap.size := by have := hb1.size; simp at this; omega
  have hz1a : w.heap.size < w1.heap.size := by omega
  cases hok : x.ok
  · have HP := Lib.hid (show addP x pl t = (Ck.zero, 1) by simp [addP, hok])
    clear hok
    go_wp2
    refine bodyPost_ret (v := .tuple #[Ck.zero.val none 0, .int .i64 1]) (by simp [results, Try.results47, go_sem, hc1, hz1b, Ck.val, Ck.cells, Ck.zero]) rfl ?_
    unfold CkRes
    rw [HP.out]
    refine ⟨none, 0, rfl, ownI_nil _ _, ?_⟩
    repeat (first | (with_reducible exact hW1) | ((with_reducible refine Below.setCell ?_ ?_ _); rotate_left; (simp <;> omega)))
  have HK := Lib.hid hok
  obtain ⟨p, q, hl, ⟨hp0, hp1⟩, ⟨hq0, hq1⟩, _⟩ := Ck.ok_parts hok
  clear hok
  obtain ⟨xl, xi, xd, xp, xs, xr, xf⟩ := x
  simp only at hl
  subst hl
  obtain ⟨ab, ao, rfl, hab, ca0, ca1⟩ := ints_two (h.below hW1 (Nat.le_refl _))
  cases hpl : (inB pl 0 1 && inB t (-36000000) 36000000)
  · have HP := Lib.hid (show addP ⟨[p, q], xi, xd, xp, xs, xr, xf⟩ pl t = (Ck.zero, 2) by simp only [addP]; rw [HK.out, hpl]; rfl)
    rcases (Bool.and_eq_false_iff.1 hpl) with hh | hh
    all_goals
      clear hpl
      go_wp2_with (first | (go_at_call 124; refine (isPlayer_c _ _).mono ?_; rintro e w' ⟨rfl, rfl⟩) | (go_at_call 98; refine (between_c _ _ _ _).mono ?_; rintro e w' ⟨rfl, rfl⟩))
      all_goals refine bodyPost_ret (v := .tuple #[Ck.zero.val none 0, .int .i64 2]) (by simp [results, Try.results47, go_sem, hc1, hz1b, Ck.val, Ck.cells, Ck.zero]) rfl ?_
      all_goals unfold CkRes
      all_goals rw [HP.out]
      all_goals refine ⟨none, 0, rfl, ownI_nil _ _, ?_⟩
      all_goals repeat (first | (with_reducible exact hW1) | ((with_reducible refine Below.setCell ?_ ?_ _); rotate_left; (simp <;> omega)))
  have HPL := Lib.hid hpl
  obtain ⟨hpl1, hpl2⟩ := Bool.and_eq_true_iff.1 hpl
  obtain ⟨t0, t1⟩ := inB_iff.1 hpl2
  have hpl01 : pl = 0 ∨ pl = 1 := by have := inB_iff.1 hpl1; omega
  clear hpl
  rcases hpl01 with rfl | rfl
  · have hfc : (xf = true ∨ (xf = false ∧ inB (p + t) 1 36000000 = false)) ∨ (xf = false ∧ inB (p + t) 1 36000000 = true) := by cases xf <;> cases inB (p + t) 1 36000000 <;> simp
    rcases hfc with hfc | ⟨rfl, hin⟩
    · have HP := Lib.hid (show addP ⟨[p, q], xi, xd, xp, xs, xr, xf⟩ 0 t = (Ck.zero, 6) by simp only [addP]; rw [HK.out, HPL.out]; rcases hfc with hh | ⟨hh, hh2⟩ <;> simp_all [pick2])
      rcases hfc with rfl | ⟨rfl, hin⟩
      all_goals
        go_wp2_with (first | (go_at_call 124; refine (isPlayer_c _ _).mono ?_; rintro e w' ⟨rfl, rfl⟩) | (go_at_call 98; refine (between_c _ _ _ _).mono ?_; rintro e w' ⟨rfl, rfl⟩))
        all_goals refine bodyPost_ret (v := .tuple #[Ck.zero.val none 0, .int .i64 6]) (by simp [results, Try.results47, go_sem, hc1, hz1b, Ck.val, Ck.cells, Ck.zero]) rfl ?_
        all_goals unfold CkRes
        all_goals rw [HP.out]
        all_goals refine ⟨none, 0, rfl, ownI_nil _ _, ?_⟩
        all_goals repeat (first | (with_reducible exact hW1) | ((with_reducible refine Below.setCell ?_ ?_ _); rotate_left; (simp <;> omega)))
    · have HP := Lib.hid (show addP ⟨[p, q], xi, xd, xp, xs, xr, false⟩ 0 t = (⟨set2 0 p q (p + t), xi, xd, xp, xs, xr, false⟩, 0) by simp only [addP]; rw [HK.out, HPL.out]; simp_all [pick2, set2])
      go_wp2_with (first | (go_at_call 124; refine (isPlayer_c _ _).mono ?_; rintro e w' ⟨rfl, rfl⟩) | (go_at_call 98; refine (between_c _ _ _ _).mono ?_; rintro e w' ⟨rfl, rfl⟩))
      refine (ckCopied_c ⟨[p, q], xi, xd, xp, xs, xr, false⟩ _ c _ (h.below hW1 (Nat.le_refl _)) hm).mono ?_
      rintro e w3 ⟨a', c', rfl, ho3, hb3⟩
      have hW3 : Below w.heap.size w w3 := below_next hW1 hb3
      obtain ⟨hc3, hf3⟩ := bcell hb3
      have hz3b : w.heap.size + 1 < w3.heap.size := by have := hb3.size; omega
      have hz3a : w.heap.size < w3.heap.size := by omega
      obtain ⟨g, rfl, hg1, hg2, k0, k1, f0, f1, st0, st1⟩ := own_two ho3
      have ne1 : ¬ g = w3.heap.size := by omega
      have ne2 : ¬ w3.heap.size = g := by omega
      have ne3 : ¬ g = w.heap.size + 1 := by omega
      have ne4 : ¬ w.heap.size + 1 = g := by omega
      have ST := Lib.hid st0
      clear st0 st1 ho3
      go_wp2
      refine bodyPost_ret (v := .tuple #[(Ck.mk (set2 0 p q (p + t)) xi xd xp xs xr false).val (some ⟨g, 0, none⟩) c', .int .i64 0]) (by simp [results, Try.results47, go_sem, hc1, hc3, hz1a, hz1b, hz3b, ne3, ne4, Ck.val, Ck.cells, set2]) rfl ?_
      unfold CkRes
      rw [HP.out]
      refine ⟨_, _, rfl, ?_, ?_⟩
      · have k0 : OwnI (w3.setCell ⟨g, 0, none⟩ (.int .i64 (p + t))) w1.heap.size (some ⟨g, 0, none⟩) c' (set2 0 p q (p + t)) := ST.out (p + t)
        show OwnI _ _ (some ⟨g, 0, none⟩) c' (set2 0 p q (p + t))
        refine ownsRow_le (base := w1.heap.size) ?_ (by omega)
        repeat (first | (with_reducible exact k0) | (with_reducible refine World.ownsRow.alloc ?_ _) | ((with_reducible refine ownsRow_setCell_below ?_ ?_ _); rotate_left; (simp <;> omega)))
      · repeat (first | (with_reducible exact hW3) | ((with_reducible refine Below.alloc ?_ ?_ _); rotate_left; (simp <;> omega)) | ((with_reducible refine Below.setCell ?_ ?_ _); rotate_left; (simp <;> omega)))
  · have hfc : (xf = true ∨ (xf = false ∧ inB (q + t) 1 36000000 = false)) ∨ (xf = false ∧ inB (q + t) 1 36000000 = true) := by cases xf <;> cases inB (q + t) 1 36000000 <;> simp
    rcases hfc with hfc | ⟨rfl, hin⟩
    · have HP := Lib.hid (show addP ⟨[p, q], xi, xd, xp, xs, xr, xf⟩ 1 t = (Ck.zero, 6) by simp only [addP]; rw [HK.out, HPL.out]; rcases hfc with hh | ⟨hh, hh2⟩ <;> simp_all [pick2])
      rcases hfc with rfl | ⟨rfl, hin⟩
      all_goals
        go_wp2_with (first | (go_at_call 124; refine (isPlayer_c _ _).mono ?_; rintro e w' ⟨rfl, rfl⟩) | (go_at_call 98; refine (between_c _ _ _ _).mono ?_; rintro e w' ⟨rfl, rfl⟩))
        all_goals refine bodyPost_ret (v := .tuple #[Ck.zero.val none 0, .int .i64 6]) (by simp [results, Try.results47, go_sem, hc1, hz1b, Ck.val, Ck.cells, Ck.zero]) rfl ?_
        all_goals unfold CkRes
        all_goals rw [HP.out]
        all_goals refine ⟨none, 0, rfl, ownI_nil _ _, ?_⟩
        all_goals repeat (first | (with_reducible exact hW1) | ((with_reducible refine Below.setCell ?_ ?_ _); rotate_left; (simp <;> omega)))
    · have HP := Lib.hid (show addP ⟨[p, q], xi, xd, xp, xs, xr, false⟩ 1 t = (⟨set2 1 p q (q + t), xi, xd, xp, xs, xr, false⟩, 0) by simp only [addP]; rw [HK.out, HPL.out]; simp_all [pick2, set2])
      go_wp2_with (first | (go_at_call 124; refine (isPlayer_c _ _).mono ?_; rintro e w' ⟨rfl, rfl⟩) | (go_at_call 98; refine (between_c _ _ _ _).mono ?_; rintro e w' ⟨rfl, rfl⟩))
      refine (ckCopied_c ⟨[p, q], xi, xd, xp, xs, xr, false⟩ _ c _ (h.below hW1 (Nat.le_refl _)) hm).mono ?_
      rintro e w3 ⟨a', c', rfl, ho3, hb3⟩
      have hW3 : Below w.heap.size w w3 := below_next hW1 hb3
      obtain ⟨hc3, hf3⟩ := bcell hb3
      have hz3b : w.heap.size + 1 < w3.heap.size := by have := hb3.size; omega
      have hz3a : w.heap.size < w3.heap.size := by omega
      obtain ⟨g, rfl, hg1, hg2, k0, k1, f0, f1, st0, st1⟩ := own_two ho3
      have ne1 : ¬ g = w3.heap.size := by omega
      have ne2 : ¬ w3.heap.size = g := by omega
      have ne3 : ¬ g = w.heap.size + 1 := by omega
      have ne4 : ¬ w.heap.size + 1 = g := by omega
      have ST := Lib.hid st1
      clear st0 st1 ho3
      go_wp2
      refine bodyPost_ret (v := .tuple #[(Ck.mk (set2 1 p q (q + t)) xi xd xp xs xr false).val (some ⟨g, 0, none⟩) c', .int .i64 0]) (by simp [results, Try.results47, go_sem, hc1, hc3, hz1a, hz1b, hz3b, ne3, ne4, Ck.val, Ck.cells, set2]) rfl ?_
      unfold CkRes
      rw [HP.out]
      refine ⟨_, _, rfl, ?_, ?_⟩
      · have k0 : OwnI (w3.setCell ⟨g, 1, none⟩ (.int .i64 (q + t))) w1.heap.size (some ⟨g, 0, none⟩) c' (set2 1 p q (q + t)) := ST.out (q + t)
        show OwnI _ _ (some ⟨g, 0, none⟩) c' (set2 1 p q (q + t))
        refine ownsRow_le (base := w1.heap.size) ?_ (by omega)
        repeat (first | (with_reducible exact k0) | (with_reducible refine World.ownsRow.alloc ?_ _) | ((with_reducible refine ownsRow_setCell_below ?_ ?_ _); rotate_left; (simp <;> omega)))
      · repeat (first | (with_reducible exact hW3) | ((with_reducible refine Below.alloc ?_ ?_ _); rotate_left; (simp <;> omega)) | ((with_reducible refine Below.setCell ?_ ?_ _); rotate_left; (simp <;> omega)))

set_option maxHeartbeats 4000000 in
theorem sAddTime_c (x : Ck) (a : Option Addr) (c : Nat) (pl t : Int) (w : World) (h : Ints w a x.left) (hm : x.left.length ≤ 16777216) :
    Calls Try.prog 48 #[x.val a c, .int .i64 pl, .int .i64 t] w (CkRes w (addP x pl t)) := by
  have hat := fun o => ckAt_lit x a c w 53 o
  go_enter Try.func48, Try.ntmps48
  go_wp2_with fail
  refine (l23Ok_c w.heap.size 0 x a c _ (hat _) (h.below (below_alloc2 _ _ _) (Nat.le_refl _)) (by unfold maxLen; omega)).mono ?_
  rintro e w1 ⟨rfl, m, hw1⟩
  have hW1 : Below w.heap.size w w1 := by rw [hw1]; exact (below_alloc2 _ _ _).trans (below_draws _ _ _)
  obtain ⟨hc1, hf1⟩ := bcell (show Below _ _ w1 from hw1 ▸ below_draws _ _ m)
  simp only [World.size_alloc] at hc1 hf1
  have hz1b : w.heap.size + 1 < w1.heap.size := by rw [hw1]; simp
  have hz1a : w.heap.size < w1.heap.size := by omega
  have hat1 : Ck.At w1 w.heap.size 0 x a c := by
    constructor <;> (rw [hc1 _ _ (by omega)]; simp [Ck.cells])
  have HAT := Lib.hid hat1
  clear hw1 hat1 hat
  cases hok : x.ok
  · have HP := Lib.hid (show addP x pl t = (Ck.zero, 1) by simp [addP, hok])
    clear hok
    go_wp2
    refine bodyPost_ret (v := .tuple #[Ck.zero.val none 0, .int .i64 1]) (by simp [results, Try.results48, go_sem, hc1, hz1b, Ck.val, Ck.cells, Ck.zero]) rfl ?_
    unfold CkRes
    rw [HP.out]
    refine ⟨none, 0, rfl, ownI_nil _ _, ?_⟩
    repeat (first | (with_reducible exact hW1) | ((with_reducible refine Below.setCell ?_ ?_ _); rotate_left; (simp <;> omega)))
  have HK := Lib.hid hok
  obtain ⟨p, q, hl, ⟨hp0, hp1⟩, ⟨hq0, hq1⟩, _⟩ := Ck.ok_parts hok
  clear hok
  obtain ⟨xl, xi, xd, xp, xs, xr, xf⟩ := x
  simp only at hl
  subst hl
  obtain ⟨ab, ao, rfl, hab, ca0, ca1⟩ := ints_two (h.below hW1 (Nat.le_refl _))
  cases hpl : (inB pl 0 1 && inB t (-36000000) 36000000)
  · have HP := Lib.hid (show addP ⟨[p, q], xi, xd, xp, xs, xr, xf⟩ pl t = (Ck.zero, 2) by simp only [addP]; rw [HK.out, hpl]; rfl)
    rcases (Bool.and_eq_false_iff.1 hpl) with hh | hh
    all_goals
      clear hpl
      go_wp2_with (first | (go_at_call 104; refine (l00In_c _ _ _ _).mono ?_; rintro e w' ⟨rfl, rfl⟩) | (go_at_call 104; refine (l00In_c _ _ _ _).mono ?_; rintro e w' ⟨rfl, rfl⟩))
      all_goals refine bodyPost_ret (v := .tuple #[Ck.zero.val none 0, .int .i64 2]) (by simp [results, Try.results48, go_sem, hc1, hz1b, Ck.val, Ck.cells, Ck.zero]) rfl ?_
      all_goals unfold CkRes
      all_goals rw [HP.out]
      all_goals refine ⟨none, 0, rfl, ownI_nil _ _, ?_⟩
      all_goals repeat (first | (with_reducible exact hW1) | ((with_reducible refine Below.setCell ?_ ?_ _); rotate_left; (simp <;> omega)))
  have HPL := Lib.hid hpl
  obtain ⟨hpl1, hpl2⟩ := Bool.and_eq_true_iff.1 hpl
  obtain ⟨t0, t1⟩ := inB_iff.1 hpl2
  have hpl01 : pl = 0 ∨ pl = 1 := by have := inB_iff.1 hpl1; omega
  clear hpl
  rcases hpl01 with rfl | rfl
  · have hfc : (xf = true ∨ (xf = false ∧ inB (p + t) 1 36000000 = false)) ∨ (xf = false ∧ inB (p + t) 1 36000000 = true) := by cases xf <;> cases inB (p + t) 1 36000000 <;> simp
    rcases hfc with hfc | ⟨rfl, hin⟩
    · have HP := Lib.hid (show addP ⟨[p, q], xi, xd, xp, xs, xr, xf⟩ 0 t = (Ck.zero, 6) by simp only [addP]; rw [HK.out, HPL.out]; rcases hfc with hh | ⟨hh, hh2⟩ <;> simp_all [pick2])
      rcases hfc with rfl | ⟨rfl, hin⟩
      all_goals
        go_wp2_with (first | (go_at_call 104; refine (l00In_c _ _ _ _).mono ?_; rintro e w' ⟨rfl, rfl⟩) | (go_at_call 104; refine (l00In_c _ _ _ _).mono ?_; rintro e w' ⟨rfl, rfl⟩))
        all_goals refine bodyPost_ret (v := .tuple #[Ck.zero.val none 0, .int .i64 6]) (by simp [results, Try.results48, go_sem, hc1, hz1b, Ck.val, Ck.cells, Ck.zero]) rfl ?_
        all_goals unfold CkRes
        all_goals rw [HP.out]
        all_goals refine ⟨none, 0, rfl, ownI_nil _ _, ?_⟩
        all_goals repeat (first | (with_reducible exact hW1) | ((with_reducible refine Below.setCell ?_ ?_ _); rotate_left; (simp <;> omega)))
    · have HP := Lib.hid (show addP ⟨[p, q], xi, xd, xp, xs, xr, false⟩ 0 t = (⟨set2 0 p q (p + t), xi, xd, xp, xs, xr, false⟩, 0) by simp only [addP]; rw [HK.out, HPL.out]; simp_all [pick2, set2])
      go_wp2_with (first | (go_at_call 104; refine (l00In_c _ _ _ _).mono ?_; rintro e w' ⟨rfl, rfl⟩) | (go_at_call 104; refine (l00In_c _ _ _ _).mono ?_; rintro e w' ⟨rfl, rfl⟩))
      refine (l23Own_c w.heap.size 0 ⟨[p, q], xi, xd, xp, xs, xr, false⟩ _ c _ HAT.out hz1a (h.below hW1 (Nat.le_refl _)) hm).mono ?_
      rintro e w3 ⟨a', c', rfl, ho3, hb3⟩
      have hW3 : Below w.heap.size w w3 := below_next hW1 hb3
      obtain ⟨hc3, hf3⟩ := bcell hb3
      have hz3b : w.heap.size + 1 < w3.heap.size := by have := hb3.size; omega
      have hz3a : w.heap.size < w3.heap.size := by omega
      obtain ⟨g, rfl, hg1, hg2, k0, k1, f0, f1, st0, st1⟩ := own_two ho3
      have ne1 : ¬ g = w3.heap.size := by omega
      have ne2 : ¬ w3.heap.size = g := by omega
      have ne3 : ¬ g = w.heap.size + 1 := by omega
      have ne4 : ¬ w.heap.size + 1 = g := by omega
      have ST := Lib.hid st0
      clear st0 st1 ho3
      go_wp2
      refine bodyPost_ret (v := .tuple #[(Ck.mk (set2 0 p q (p + t)) xi xd xp xs xr false).val (some ⟨g, 0, none⟩) c', .int .i64 0]) (by simp [results, Try.results48, go_sem, hc1, hc3, hz1a, hz1b, hz3b, ne3, ne4, Ck.val, Ck.cells, set2]) rfl ?_
      unfold CkRes
      rw [HP.out]
      refine ⟨_, _, rfl, ?_, ?_⟩
      · have k0 : OwnI (w3.setCell ⟨g, 0, none⟩ (.int .i64 (p + t))) w1.heap.size (some ⟨g, 0, none⟩) c' (set2 0 p q (p + t)) := ST.out (p + t)
        show OwnI _ _ (some ⟨g, 0, none⟩) c' (set2 0 p q (p + t))
        refine ownsRow_le (base := w1.heap.size) ?_ (by omega)
        repeat (first | (with_reducible exact k0) | (with_reducible refine World.ownsRow.alloc ?_ _) | ((with_reducible refine ownsRow_setCell_below ?_ ?_ _); rotate_left; (simp <;> omega)))
      · repeat (first | (with_reducible exact hW3) | ((with_reducible refine Below.alloc ?_ ?_ _); rotate_left; (simp <;> omega)) | ((with_reducible refine Below.setCell ?_ ?_ _); rotate_left; (simp <;> omega)))
  · have hfc : (xf = true ∨ (xf = false ∧ inB (q + t) 1 36000000 = false)) ∨ (xf = false ∧ inB (q + t) 1 36000000 = true) := by cases xf <;> cases inB (q + t) 1 36000000 <;> simp
    rcases hfc with hfc | ⟨rfl, hin⟩
    · have HP := Lib.hid (show addP ⟨[p, q], xi, xd, xp, xs, xr, xf⟩ 1 t = (Ck.zero, 6) by simp only [addP]; rw [HK.out, HPL.out]; rcases hfc with hh | ⟨hh, hh2⟩ <;> simp_all [pick2])
      rcases hfc with rfl | ⟨rfl, hin⟩
      all_goals
        go_wp2_with (first | (go_at_call 104; refine (l00In_c _ _ _ _).mono ?_; rintro e w' ⟨rfl, rfl⟩) | (go_at_call 104; refine (l00In_c _ _ _ _).mono ?_; rintro e w' ⟨rfl, rfl⟩))
        all_goals refine bodyPost_ret (v := .tuple #[Ck.zero.val none 0, .int .i64 6]) (by simp [results, Try.results48, go_sem, hc1, hz1b, Ck.val, Ck.cells, Ck.zero]) rfl ?_
        all_goals unfold CkRes
        all_goals rw [HP.out]
        all_goals refine ⟨none, 0, rfl, ownI_nil _ _, ?_⟩
        all_goals repeat (first | (with_reducible exact hW1) | ((with_reducible refine Below.setCell ?_ ?_ _); rotate_left; (simp <;> omega)))
    · have HP := Lib.hid (show addP ⟨[p, q], xi, xd, xp, xs, xr, false⟩ 1 t = (⟨set2 1 p q (q + t), xi, xd, xp, xs, xr, false⟩, 0) by simp only [addP]; rw [HK.out, HPL.out]; simp_all [pick2, set2])
      go_wp2_with (first | (go_at_call 104; refine (l00In_c _ _ _ _).mono ?_; rintro e w' ⟨rfl, rfl⟩) | (go_at_call 104; refine (l00In_c _ _ _ _).mono ?_; rintro e w' ⟨rfl, rfl⟩))
      refine (l23Own_c w.heap.size 0 ⟨[p, q], xi, xd, xp, xs, xr, false⟩ _ c _ HAT.out hz1a (h.below hW1 (Nat.le_refl _)) hm).mono ?_
      rintro e w3 ⟨a', c', rfl, ho3, hb3⟩
      have hW3 : Below w.heap.size w w3 := below_next hW1 hb3
      obtain ⟨hc3, hf3⟩ := bcell hb3
      have hz3b : w.heap.size + 1 < w3.heap.size := by have := hb3.size; omega
      have hz3a : w.heap.size < w3.heap.size := by omega
      obtain ⟨g, rfl, hg1, hg2, k0, k1, f0, f1, st0, st1⟩ := own_two ho3
      have ne1 : ¬ g = w3.heap.size := by omega
      have ne2 : ¬ w3.heap.size = g := by omega
      have ne3 : ¬ g = w.heap.size + 1 := by omega
      have ne4 : ¬ w.heap.size + 1 = g := by omega
      have ST := Lib.hid st1
      clear st0 st1 ho3
      go_wp2
      refine bodyPost_ret (v := .tuple #[(Ck.mk (set2 1 p q (q + t)) xi xd xp xs xr false).val (some ⟨g, 0, none⟩) c', .int .i64 0]) (by simp [results, Try.results48, go_sem, hc1, hc3, hz1a, hz1b, hz3b, ne3, ne4, Ck.val, Ck.cells, set2]) rfl ?_
      unfold CkRes
      rw [HP.out]
      refine ⟨_, _, rfl, ?_, ?_⟩
      · have k0 : OwnI (w3.setCell ⟨g, 1, none⟩ (.int .i64 (q + t))) w1.heap.size (some ⟨g, 0, none⟩) c' (set2 1 p q (q + t)) := ST.out (q + t)
        show OwnI _ _ (some ⟨g, 0, none⟩) c' (set2 1 p q (q + t))
        refine ownsRow_le (base := w1.heap.size) ?_ (by omega)
        repeat (first | (with_reducible exact k0) | (with_reducible refine World.ownsRow.alloc ?_ _) | ((with_reducible refine ownsRow_setCell_below ?_ ?_ _); rotate_left; (simp <;> omega)))
      · repeat (first | (with_reducible exact hW3) | ((with_reducible refine Below.alloc ?_ ?_ _); rotate_left; (simp <;> omega)) | ((with_reducible refine Below.setCell ?_ ?_ _); rotate_left; (simp <;> omega)))

end Go.Proofs.Ytbjdfgfebepacaa
