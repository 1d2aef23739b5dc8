/- Clock9: a clock that is pressed: the reference's function. The contract holds for every argument, under the premises that it states. -/
import Derived.Test.YtbjdfgfebepacaaClock8
import Derived.Deep.RegionLaw
import Derived.Deep.CutRange
namespace Go.Proofs.Ytbjdfgfebepacaa
set_option linter.unusedSimpArgs false
set_option linter.unusedVariables false
set_option linter.unnecessarySimpa false
open Go.RowKit Go.ChangeShapes Go.WideShapes Go.ChangeAt Go.Joins

theorem useQ_same (x : Ck) (p q now : Int) : (useQ x p q now).player = x.player ∧ (useQ x p q now).inc = x.inc := by
  unfold useQ; split <;> exact ⟨rfl, rfl⟩
set_option maxRecDepth 100000 in
set_option maxHeartbeats 8000000 in
theorem sPressClock_c (x : Ck) (a : Option Addr) (c : Nat) (now : Int) (w : World) (h : Ints w a x.left) (hm : x.left.length ≤ 16777216) :
    Calls Try.prog 31 #[x.val a c, .int .i64 now] w (CkRes w (pressP x now)) := by
  have hat := fun o => ckAt_lit x a c w 53 o
  go_enter Try.func31, Try.ntmps31
  go_wp2_with fail
  refine (l23Code_c w.heap.size 0 x a c now true _ (hat _) (h.below (below_alloc2 _ _ _) (Nat.le_refl _)) (by unfold maxLen; omega)).mono ?_
  rintro e w1 ⟨rfl, m, hw1⟩
  have hW1 : Below w.heap.size w w1 := by rw [hw1]; exact (below_alloc2 _ _ _).trans (below_draws _ _ _)
  have hb1 := bcell (show Below _ _ w1 from hw1 ▸ below_draws _ _ m)
  obtain ⟨hc1, hf1⟩ := hb1
  simp only [World.size_alloc] at hc1 hf1
  have hz1b : w.heap.size + 1 < w1.heap.size := by rw [hw1]; simp
  have hz1a : w.heap.size < w1.heap.size := by omega
  clear hw1
  by_cases hcode : x.code now true = 0
  case neg =>
    have HP : Hid (pressP x now = (Ck.zero, x.code now true)) := by
      unfold Hid pressP chargedP
      rw [if_neg hcode]
      simp only
      rw [if_neg (fun h => hcode h.1)]
    have hne : (x.code now true != 0) = true := by simpa using hcode
    clear hcode
    go_wp2
    refine bodyPost_ret (v := .tuple #[Ck.zero.val none 0, .int .i64 (x.code now true)]) (by simp [results, Try.results31, go_sem, hc1, hz1a, hz1b, Ck.val, Ck.cells, Ck.zero]) rfl ?_
    unfold CkRes
    rw [HP.out]
    refine ⟨none, 0, rfl, ownI_nil _ _, ?_⟩
    repeat (first | (with_reducible exact hW1) | ((with_reducible refine Below.setCell ?_ ?_ _); rotate_left; (simp <;> omega)))
  have hat1 : Ck.At w1 w.heap.size 0 x a c := by
    constructor <;> (rw [hc1 _ _ (by omega)]; simp [Ck.cells])
  obtain ⟨hok, hnow, hrun, hfal⟩ := code_parts hcode
  obtain ⟨p, q, hl, hp, hq, hi, hd, hs, hx⟩ := Ck.ok_parts hok
  have hCH : chargedP x now = (useP x now, 0) := by unfold chargedP; rw [if_pos hcode]
  have hpar := charged_parts (x := x) (now := now) (by rw [hCH])
  rw [hCH] at hpar
  have HK3 := Lib.hid (⟨hat1.c3, hat1.c1⟩ : _ ∧ _)
  obtain ⟨xl, xi, xd, xp, xs, xr, xf⟩ := x
  simp only at hl hrun hfal hd hs hx hnow hi
  subst hl
  subst hrun
  subst hfal
  have HU := Lib.hid (l23Use_c w.heap.size 0 p q xi xd xp xs a c now w1 hat1 (h.below hW1 (Nat.le_refl _)) hp hq hd hs (inB_iff.1 hnow) hx)
  obtain ⟨hus1, hus2⟩ := useQ_same ⟨[p, q], xi, xd, xp, xs, true, false⟩ p q now
  have hus : useP ⟨[p, q], xi, xd, xp, xs, true, false⟩ now = useQ ⟨[p, q], xi, xd, xp, xs, true, false⟩ p q now := rfl
  rw [hus] at hpar hCH
  obtain ⟨y, hy⟩ : ∃ y, y = useQ ⟨[p, q], xi, xd, xp, xs, true, false⟩ p q now := ⟨_, rfl⟩
  rw [← hy] at HU hpar hus1 hus2 hCH
  have HP : Hid (pressP ⟨[p, q], xi, xd, xp, xs, true, false⟩ now = if y.fallen = false then (pressU y now, 0) else (y, 0)) := by
    unfold Hid pressP
    rw [hCH]
    simp
  obtain ⟨yl, yi, yd, yp, ys, yr, yf⟩ := y
  obtain ⟨p', q', hl', ⟨hp0, hp1⟩, ⟨hq0, hq1⟩, ⟨hi0, hi1⟩, ⟨hx0, hx1⟩⟩ := hpar
  simp only at hl' hus1 hus2 hi0 hi1 hx0 hx1 HU
  subst hl'
  subst hus1
  subst hus2
  rw [hcode]
  obtain ⟨hk3, hk1⟩ := HK3.out
  simp only [Nat.zero_add] at hk3 hk1
  clear hcode hy hCH hat1 hat hus hok hnow hp hq hi hd hs hx
  go_wp2_with fail
  refine HU.out.mono ?_
  rintro e w3 ⟨a', c', rfl, ho3, hb3⟩
  have hW3 : Below w.heap.size w w3 := below_next hW1 hb3
  obtain ⟨hc3, hf3⟩ := bcell hb3
  have hz3b : w.heap.size + 1 < w3.heap.size := by have := hb3.size; omega
  have hz3a : w.heap.size < w3.heap.size := by omega
  have HO := Lib.hid ho3
  have hzs := hb3.size
  clear HU hb3
  cases yf
  case true =>
    clear ho3
    go_wp2
    refine bodyPost_ret (v := .tuple #[(Ck.mk [p', q'] yi yd yp ys yr true).val a' c', .int .i64 0]) (by simp [results, Try.results31, go_sem, hc1, hc3, hf1, hf3, hz1a, hz1b, hz3a, hz3b, Ck.val, Ck.cells]) rfl ?_
    unfold CkRes
    rw [HP.out, if_neg (by simp)]
    refine ⟨a', c', rfl, ?_, ?_⟩
    · have k0 := HO.out
      refine ownsRow_le (base := w1.heap.size) ?_ (by omega)
      repeat (first | (with_reducible exact k0) | (with_reducible refine World.ownsRow.alloc ?_ _) | ((with_reducible refine ownsRow_setCell_below ?_ ?_ _); rotate_left; (simp <;> omega)))
    · repeat (first | (with_reducible exact hW3) | ((with_reducible refine Below.alloc ?_ ?_ _); rotate_left; (first | omega | (simp <;> omega))) | ((with_reducible refine Below.setCell ?_ ?_ _); rotate_left; (simp <;> omega)))
  have hx01 : yp = 0 ∨ yp = 1 := by omega
  rcases hx01 with rfl | rfl
  · obtain ⟨g, rfl, hg1, hg2, k0, k1, f0, f1, st0, st1⟩ := own_two ho3
    have hwr : IntKind.i64.wrap (p' + yi) = p' + yi := IntWalk.i64_in _ (by omega)
    have ne1 : ¬ g = w3.heap.size := by omega
    have ne2 : ¬ w3.heap.size = g := by omega
    have ne3 : ¬ g = w.heap.size := by omega
    have ne4 : ¬ w.heap.size = g := by omega
    have ne5 : ¬ g = w.heap.size + 1 := by omega
    have ne6 : ¬ w.heap.size + 1 = g := by omega
    have HST := Lib.hid (⟨st0, st1⟩ : _ ∧ _)
    obtain ⟨V, hV⟩ : ∃ V, V = min 36000000 (p' + yi) := ⟨_, rfl⟩
    have HMN := Lib.hid (fun W => l00Min_c 36000000 (p' + yi) W)
    rw [← hV] at HMN
    have hm1 : min (p' + yi) 36000000 = V := by rw [hV]; omega
    have hp2 := HP.out
    rw [if_pos rfl] at hp2
    simp only [pressU, pressQ] at hp2
    rw [show pick2 (0 : Int) p' q' = p' from rfl, hm1] at hp2
    have HP2 := Lib.hid hp2
    clear hm1 hp2
    clear st0 st1 ho3 hV
    go_upto_region 8 with fail
    go_cut [] from 22 to 34 (fun wx => wx = ((w3.setCell ⟨g, 0, none⟩ (.int .i64 V)).alloc (.cells #[.slice (some ⟨g, 0, none⟩) 2 c', .int .i64 yi, .int .i64 yd, .int .i64 0, .int .i64 ys, .bool yr, .bool false] 53)).drew)
    case first =>
      go_region_law (first | (go_simp; go_at_call 120; refine (HMN.out _).mono ?_; rintro e w' ⟨rfl, rfl⟩))
      all_goals (go_wp2_with fail)
      all_goals go_meet
      all_goals rfl
    case rest =>
      subst hcut
      clear HMN
      go_wp2_with fail
      refine bodyPost_ret (v := .tuple #[(Ck.mk (set2 0 p' q' V) yi yd (1 - 0) now yr false).val (some ⟨g, 0, none⟩) c', .int .i64 0]) (by simp [results, Try.results31, go_sem, hc1, hc3, hf1, hf3, hz1a, hz1b, hz3a, hz3b, ne1, ne2, ne3, ne4, ne5, ne6, Ck.val, Ck.cells, set2]) rfl ?_
      unfold CkRes
      rw [HP2.out]
      refine ⟨_, _, rfl, ?_, ?_⟩
      all_goals first
        | (have k0 : OwnI (w3.setCell ⟨g, 0, none⟩ (.int .i64 V)) w1.heap.size (some ⟨g, 0, none⟩) c' (set2 0 p' q' V) := HST.out.1 V
           show OwnI _ _ (some ⟨g, 0, none⟩) c' (set2 0 p' q' V)
           refine ownsRow_le (base := w1.heap.size) ?_ (by omega)
           repeat (first | (with_reducible exact k0) | (with_reducible refine World.ownsRow.alloc ?_ _) | (with_reducible refine World.ownsRow.drew ?_) | ((with_reducible refine ownsRow_setCell_other ?_ ?_ _); rotate_left; (simp [Value.ownBlock]; omega)))
           done)
        | (repeat (first | (with_reducible exact hW3) | ((with_reducible refine Below.alloc ?_ ?_ _); rotate_left; (first | omega | (simp <;> omega))) | ((with_reducible refine Below.setCell ?_ ?_ _); rotate_left; (simp <;> omega)) | (with_reducible refine Below.drew ?_)))
  · obtain ⟨g, rfl, hg1, hg2, k0, k1, f0, f1, st0, st1⟩ := own_two ho3
    have hwr : IntKind.i64.wrap (q' + yi) = q' + yi := IntWalk.i64_in _ (by omega)
    have ne1 : ¬ g = w3.heap.size := by omega
    have ne2 : ¬ w3.heap.size = g := by omega
    have ne3 : ¬ g = w.heap.size := by omega
    have ne4 : ¬ w.heap.size = g := by omega
    have ne5 : ¬ g = w.heap.size + 1 := by omega
    have ne6 : ¬ w.heap.size + 1 = g := by omega
    have HST := Lib.hid (⟨st0, st1⟩ : _ ∧ _)
    obtain ⟨V, hV⟩ : ∃ V, V = min 36000000 (q' + yi) := ⟨_, rfl⟩
    have HMN := Lib.hid (fun W => l00Min_c 36000000 (q' + yi) W)
    rw [← hV] at HMN
    have hm1 : min (q' + yi) 36000000 = V := by rw [hV]; omega
    have hp2 := HP.out
    rw [if_pos rfl] at hp2
    simp only [pressU, pressQ] at hp2
    rw [show pick2 (1 : Int) p' q' = q' from rfl, hm1] at hp2
    have HP2 := Lib.hid hp2
    clear hm1 hp2
    clear st0 st1 ho3 hV
    go_upto_region 8 with fail
    go_cut [] from 22 to 34 (fun wx => wx = ((w3.setCell ⟨g, 1, none⟩ (.int .i64 V)).alloc (.cells #[.slice (some ⟨g, 0, none⟩) 2 c', .int .i64 yi, .int .i64 yd, .int .i64 1, .int .i64 ys, .bool yr, .bool false] 53)).drew)
    case first =>
      go_region_law (first | (go_simp; go_at_call 120; refine (HMN.out _).mono ?_; rintro e w' ⟨rfl, rfl⟩))
      all_goals (go_wp2_with fail)
      all_goals go_meet
      all_goals rfl
    case rest =>
      subst hcut
      clear HMN
      go_wp2_with fail
      refine bodyPost_ret (v := .tuple #[(Ck.mk (set2 1 p' q' V) yi yd (1 - 1) now yr false).val (some ⟨g, 0, none⟩) c', .int .i64 0]) (by simp [results, Try.results31, go_sem, hc1, hc3, hf1, hf3, hz1a, hz1b, hz3a, hz3b, ne1, ne2, ne3, ne4, ne5, ne6, Ck.val, Ck.cells, set2]) rfl ?_
      unfold CkRes
      rw [HP2.out]
      refine ⟨_, _, rfl, ?_, ?_⟩
      all_goals first
        | (have k0 : OwnI (w3.setCell ⟨g, 1, none⟩ (.int .i64 V)) w1.heap.size (some ⟨g, 0, none⟩) c' (set2 1 p' q' V) := HST.out.2 V
           show OwnI _ _ (some ⟨g, 0, none⟩) c' (set2 1 p' q' V)
           refine ownsRow_le (base := w1.heap.size) ?_ (by omega)
           repeat (first | (with_reducible exact k0) | (with_reducible refine World.ownsRow.alloc ?_ _) | (with_reducible refine World.ownsRow.drew ?_) | ((with_reducible refine ownsRow_setCell_other ?_ ?_ _); rotate_left; (simp [Value.ownBlock]; omega)))
           done)
        | (repeat (first | (with_reducible exact hW3) | ((with_reducible refine Below.alloc ?_ ?_ _); rotate_left; (first | omega | (simp <;> omega))) | ((with_reducible refine Below.setCell ?_ ?_ _); rotate_left; (simp <;> omega)) | (with_reducible refine Below.drew ?_)))

end Go.Proofs.Ytbjdfgfebepacaa
