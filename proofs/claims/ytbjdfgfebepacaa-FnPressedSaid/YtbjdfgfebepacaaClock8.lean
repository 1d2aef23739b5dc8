/- Clock8: clocks that are stopped and pressed: both sides. Each contract holds for every argument, under the premises that it states. -/
import Derived.Test.YtbjdfgfebepacaaClock7
namespace Go.Proofs.Ytbjdfgfebepacaa
set_option linter.unusedSimpArgs false
set_option linter.unusedVariables false
set_option linter.unnecessarySimpa false
open Go.RowKit Go.ChangeShapes Go.WideShapes Go.ChangeAt Go.Joins

def stopP (x : Ck) (now : Int) : Ck × Int := if (chargedP x now).2 = 0 then ({ (chargedP x now).1 with running := false, since := 0 }, 0) else chargedP x now
def pressQ (y : Ck) (p q now : Int) : Ck := { y with left := set2 y.player p q (min (pick2 y.player p q + y.inc) 36000000), player := 1 - y.player, since := now }
def pressU (y : Ck) (now : Int) : Ck := match y.left with | [p, q] => pressQ y p q now | _ => Ck.zero
def pressP (x : Ck) (now : Int) : Ck × Int := if (chargedP x now).2 = 0 ∧ (chargedP x now).1.fallen = false then (pressU (chargedP x now).1 now, 0) else chargedP x now

set_option maxRecDepth 100000 in
set_option maxHeartbeats 4000000 in
theorem iStopClock_c (x : Ck) (a : Option Addr) (c : Nat) (now : Int) (w : World) (h : Ints w a x.left) (hm : x.left.length ≤ 16777216) :
    Calls Try.prog 41 #[x.val a c, .int .i64 now] w (CkRes w (stopP x now)) := by
  have HC := Lib.hid (fun W H => charged_c x a c now W H hm)
  obtain ⟨y, hy⟩ : ∃ y, y = chargedP x now := ⟨_, rfl⟩
  have HS : Hid (stopP x now = if y.2 = 0 then ({ y.1 with running := false, since := 0 }, 0) else y) := by rw [hy]; rfl
  rw [← hy] at HC
  clear hy
  obtain ⟨⟨yl, yi, yd, yp, ys, yr, yf⟩, yc⟩ := y
  go_enter Try.func41, Try.ntmps41
  go_wp2_with fail
  refine (HC.out _ (h.below (below_alloc2 _ _ _) (Nat.le_refl _))).mono ?_
  rintro e w1 ⟨a', c', rfl, ho, hb1⟩
  have hW1 : Below w.heap.size w w1 := below_next (below_alloc2 _ _ _) hb1
  obtain ⟨hc1, hf1⟩ := bcell hb1
  simp only [World.size_alloc] at hc1 hf1 ho
  have hz1b : w.heap.size + 1 < w1.heap.size := by have := hb1.size; simp at this; omega
  have hz1a : w.heap.size < w1.heap.size := by omega
  have HO := Lib.hid ho
  clear ho hb1 HC
  by_cases hz : yc = 0
  · have hz' : (yc != 0) = false := by simpa using hz
    have HP : Hid (stopP x now = (⟨yl, yi, yd, yp, 0, false, yf⟩, 0)) := by unfold Hid; rw [HS.out, if_pos hz]
    clear hz HS
    go_wp2
    refine bodyPost_ret (v := .tuple #[(Ck.mk yl yi yd yp 0 false yf).val a' c', .int .i64 0]) (by simp [results, Try.results41, go_sem, hc1, hf1, hz1a, hz1b, Ck.val, Ck.cells]) rfl ?_
    unfold CkRes
    rw [HP.out]
    refine ⟨a', c', rfl, ?_, ?_⟩
    · have k0 := HO.out
      refine ownsRow_le (base := w.heap.size + 1 + 1) ?_ (by omega)
      repeat (first | (with_reducible exact k0) | (with_reducible refine World.ownsRow.alloc ?_ _) | ((with_reducible refine ownsRow_setCell_below ?_ ?_ _); rotate_left; (simp <;> omega)))
    · repeat (first | (with_reducible exact hW1) | ((with_reducible refine Below.alloc ?_ ?_ _); rotate_left; (simp <;> omega)) | ((with_reducible refine Below.setCell ?_ ?_ _); rotate_left; (simp <;> omega)))
  · have hz' : (yc != 0) = true := by simpa using hz
    have HP : Hid (stopP x now = (⟨yl, yi, yd, yp, ys, yr, yf⟩, yc)) := by unfold Hid; rw [HS.out, if_neg hz]
    clear hz HS
    go_wp2
    refine bodyPost_ret (v := .tuple #[(Ck.mk yl yi yd yp ys yr yf).val a' c', .int .i64 yc]) (by simp [results, Try.results41, go_sem, hc1, hf1, hz1a, hz1b, Ck.val, Ck.cells]) rfl ?_
    unfold CkRes
    rw [HP.out]
    refine ⟨a', c', rfl, ?_, ?_⟩
    · have k0 := HO.out
      refine ownsRow_le (base := w.heap.size + 1 + 1) ?_ (by omega)
      repeat (first | (with_reducible exact k0) | (with_reducible refine World.ownsRow.alloc ?_ _) | ((with_reducible refine ownsRow_setCell_below ?_ ?_ _); rotate_left; (simp <;> omega)))
    · repeat (first | (with_reducible exact hW1) | ((with_reducible refine Below.alloc ?_ ?_ _); rotate_left; (simp <;> omega)) | ((with_reducible refine Below.setCell ?_ ?_ _); rotate_left; (simp <;> omega)))

theorem charged_parts {x : Ck} {now : Int} (h : (chargedP x now).2 = 0) : ∃ p q, (chargedP x now).1.left = [p, q] ∧ (0 ≤ p ∧ p ≤ 36000000) ∧ (0 ≤ q ∧ q ≤ 36000000) ∧ (0 ≤ (chargedP x now).1.inc ∧ (chargedP x now).1.inc ≤ 36000000) ∧ (0 ≤ (chargedP x now).1.player ∧ (chargedP x now).1.player ≤ 1) := by
  unfold chargedP at h ⊢
  by_cases hc : x.code now true = 0
  · rw [if_pos hc]
    have hok : x.ok = true := by
      cases hx : x.ok
      · simp [Ck.code, hx] at hc
      · rfl
    obtain ⟨p, q, hl, ⟨hp0, hp1⟩, ⟨hq0, hq1⟩, hi, hd, hs, hx⟩ := Ck.ok_parts hok
    obtain ⟨xl, xi, xd, xp, xs, xr, xf⟩ := x
    simp only at hl hi hx
    subst hl
    have hL : 0 ≤ leftQ ⟨[p, q], xi, xd, xp, xs, xr, xf⟩ p q now ∧ leftQ ⟨[p, q], xi, xd, xp, xs, xr, xf⟩ p q now ≤ 36000000 := by
      unfold leftQ pick2; split <;> omega
    simp only [useP, useQ]
    split
    · unfold set2
      split
      · exact ⟨_, _, rfl, by omega, by omega, hi, hx⟩
      · exact ⟨_, _, rfl, by omega, by omega, hi, hx⟩
    · unfold set2
      simp only
      split
      · exact ⟨_, _, rfl, hL, by omega, hi, hx⟩
      · exact ⟨_, _, rfl, by omega, hL, hi, hx⟩
  · rw [if_neg hc] at h
    exact absurd h hc

theorem charged_len (x : Ck) (now : Int) : (chargedP x now).1.left.length ≤ 2 := by
  by_cases h : (chargedP x now).2 = 0
  · obtain ⟨p, q, hl, _⟩ := charged_parts h
    rw [hl]; simp
  · unfold chargedP at h ⊢
    by_cases hc : x.code now true = 0
    · rw [if_pos hc] at h; exact absurd rfl h
    · rw [if_neg hc]; simp [Ck.zero]
theorem stopP_len (x : Ck) (now : Int) : (stopP x now).1.left.length ≤ 1048576 := by
  have h := charged_len x now
  unfold stopP
  split
  · simp only; omega
  · omega
theorem set2_len (pl p q v : Int) : (set2 pl p q v).length = 2 := by unfold set2; split <;> rfl
theorem pressP_len (x : Ck) (now : Int) : (pressP x now).1.left.length ≤ 1048576 := by
  have h := charged_len x now
  unfold pressP
  split
  · unfold pressU
    split
    · simp only [pressQ, set2_len]; omega
    · simp [Ck.zero]
  · omega

set_option maxRecDepth 100000 in
set_option maxHeartbeats 8000000 in
theorem iPressClock_c (x : Ck) (a : Option Addr) (c : Nat) (now : Int) (w : World) (h : Ints w a x.left) (hm : x.left.length ≤ 16777216) :
    Calls Try.prog 30 #[x.val a c, .int .i64 now] w (CkRes w (pressP x now)) := by
  have HC := Lib.hid (fun W H => charged_c x a c now W H hm)
  have hcp := fun h => charged_parts (x := x) (now := now) h
  obtain ⟨y, hy⟩ : ∃ y, y = chargedP x now := ⟨_, rfl⟩
  have HS : Hid (pressP x now = if y.2 = 0 ∧ y.1.fallen = false then (pressU y.1 now, 0) else y) := by rw [hy]; rfl
  rw [← hy] at HC hcp
  have HCP := Lib.hid hcp
  clear hy hcp
  obtain ⟨⟨yl, yi, yd, yp, ys, yr, yf⟩, yc⟩ := y
  go_enter Try.func30, Try.ntmps30
  go_wp2_with fail
  refine (HC.out _ (h.below (below_alloc2 _ _ _) (Nat.le_refl _))).mono ?_
  rintro e w1 ⟨a', c', rfl, ho, hb1⟩
  have hW1 : Below w.heap.size w w1 := below_next (below_alloc2 _ _ _) hb1
  obtain ⟨hc1, hf1⟩ := bcell hb1
  simp only [World.size_alloc] at hc1 hf1 ho
  have hz1b : w.heap.size + 1 < w1.heap.size := by have := hb1.size; simp at this; omega
  have hz1a : w.heap.size < w1.heap.size := by omega
  have HO := Lib.hid ho
  clear ho hb1 HC
  by_cases hz : yc = 0
  case neg =>
    have hz' : (yc != 0) = true := by simpa using hz
    have HP : Hid (pressP x now = (⟨yl, yi, yd, yp, ys, yr, yf⟩, yc)) := by unfold Hid; rw [HS.out, if_neg (fun h => hz h.1)]
    clear hz HS
    go_wp2
    refine bodyPost_ret (v := .tuple #[(Ck.mk yl yi yd yp ys yr yf).val a' c', .int .i64 yc]) (by simp [results, Try.results30, go_sem, hc1, hf1, hz1a, hz1b, Ck.val, Ck.cells]) rfl ?_
    unfold CkRes
    rw [HP.out]
    refine ⟨a', c', rfl, ?_, ?_⟩
    · have k0 := HO.out
      refine ownsRow_le (base := w.heap.size + 1 + 1) ?_ (by omega)
      repeat (first | (with_reducible exact k0) | (with_reducible refine World.ownsRow.alloc ?_ _) | ((with_reducible refine ownsRow_setCell_below ?_ ?_ _); rotate_left; (simp <;> omega)))
    · repeat (first | (with_reducible exact hW1) | ((with_reducible refine Below.alloc ?_ ?_ _); rotate_left; (simp <;> omega)) | ((with_reducible refine Below.setCell ?_ ?_ _); rotate_left; (simp <;> omega)))
  have hz' : (yc != 0) = false := by simpa using hz
  cases hyf : yf
  case true =>
    have HP : Hid (pressP x now = (⟨yl, yi, yd, yp, ys, yr, true⟩, 0)) := by unfold Hid; rw [HS.out, if_neg (fun h => by have := h.2; simp [hyf] at this), hz, hyf]
    clear hyf HS
    subst hz
    go_wp2
    refine bodyPost_ret (v := .tuple #[(Ck.mk yl yi yd yp ys yr true).val a' c', .int .i64 0]) (by simp [results, Try.results30, go_sem, hc1, hf1, hz1a, hz1b, Ck.val, Ck.cells]) rfl ?_
    unfold CkRes
    rw [HP.out]
    refine ⟨a', c', rfl, ?_, ?_⟩
    · have k0 := HO.out
      refine ownsRow_le (base := w.heap.size + 1 + 1) ?_ (by omega)
      repeat (first | (with_reducible exact k0) | (with_reducible refine World.ownsRow.alloc ?_ _) | ((with_reducible refine ownsRow_setCell_below ?_ ?_ _); rotate_left; (simp <;> omega)))
    · repeat (first | (with_reducible exact hW1) | ((with_reducible refine Below.alloc ?_ ?_ _); rotate_left; (simp <;> omega)) | ((with_reducible refine Below.setCell ?_ ?_ _); rotate_left; (simp <;> omega)))
  obtain ⟨p, q, hl, ⟨hp0, hp1⟩, ⟨hq0, hq1⟩, ⟨hi0, hi1⟩, ⟨hx0, hx1⟩⟩ := HCP.out hz
  (try simp only at hl hi0 hi1 hx0 hx1)
  subst hl
  have HP : Hid (pressP x now = (pressQ ⟨[p, q], yi, yd, yp, ys, yr, false⟩ p q now, 0)) := by unfold Hid; rw [HS.out, if_pos ⟨hz, hyf⟩, hyf]; rfl
  have hx01 : yp = 0 ∨ yp = 1 := by omega
  clear hyf HS HCP
  subst hz
  rcases hx01 with rfl | rfl
  · obtain ⟨g, rfl, hg1, hg2, k0, k1, f0, f1, st0, st1⟩ := own_two HO.out
    have hwr : IntKind.i64.wrap (p + yi) = p + yi := IntWalk.i64_in _ (by omega)
    have ne1 : ¬ g = w1.heap.size := by omega
    have ne2 : ¬ w1.heap.size = g := by omega
    have ne3 : ¬ g = w.heap.size := by omega
    have ne4 : ¬ w.heap.size = g := by omega
    have ne5 : ¬ g = w.heap.size + 1 := by omega
    have ne6 : ¬ w.heap.size + 1 = g := by omega
    have HST := Lib.hid (⟨st0, st1⟩ : _ ∧ _)
    clear st0 st1
    by_cases hgt : 36000000 < p + yi
    · have hgt1 := hgt
      go_wp2
      go_region
      go_wp2
      have HP2 : pressP x now = (⟨set2 0 p q 36000000, yi, yd, 1 - 0, now, yr, false⟩, 0) := by
        have hm1 : min (p + yi) 36000000 = 36000000 := by omega
        rw [HP.out]
        simp [pressQ, pick2, hm1]
      refine bodyPost_ret (v := .tuple #[(Ck.mk (set2 0 p q 36000000) yi yd (1 - 0) now yr false).val (some ⟨g, 0, none⟩) c', .int .i64 0]) (by simp [results, Try.results30, go_sem, hc1, hf1, hz1a, hz1b, ne1, ne2, ne3, ne4, ne5, ne6, Ck.val, Ck.cells, set2]) rfl ?_
      unfold CkRes
      rw [HP2]
      refine ⟨_, _, rfl, ?_, ?_⟩
      · have k0 : OwnI (w1.setCell ⟨g, 0, none⟩ (.int .i64 36000000)) (w.heap.size + 1 + 1) (some ⟨g, 0, none⟩) c' (set2 0 p q 36000000) := HST.out.1 36000000
        show OwnI _ _ (some ⟨g, 0, none⟩) c' (set2 0 p q 36000000)
        refine ownsRow_le (base := w.heap.size + 1 + 1) ?_ (by omega)
        repeat (first | (with_reducible exact k0) | (with_reducible refine World.ownsRow.alloc ?_ _) | (with_reducible refine World.ownsRow.drew ?_) | ((with_reducible refine ownsRow_setCell_other ?_ ?_ _); rotate_left; (simp [Value.ownBlock]; omega)))
      · repeat (first | (with_reducible exact hW1) | ((with_reducible refine Below.alloc ?_ ?_ _); rotate_left; (simp <;> omega)) | ((with_reducible refine Below.setCell ?_ ?_ _); rotate_left; (simp <;> omega)) | (with_reducible refine Below.drew ?_))
    · have hgt1 := hgt
      go_wp2
      go_region
      go_wp2
      have HP2 : pressP x now = (⟨set2 0 p q (p + yi), yi, yd, 1 - 0, now, yr, false⟩, 0) := by
        have hm1 : min (p + yi) 36000000 = (p + yi) := by omega
        rw [HP.out]
        simp [pressQ, pick2, hm1]
      refine bodyPost_ret (v := .tuple #[(Ck.mk (set2 0 p q (p + yi)) yi yd (1 - 0) now yr false).val (some ⟨g, 0, none⟩) c', .int .i64 0]) (by simp [results, Try.results30, go_sem, hc1, hf1, hz1a, hz1b, ne1, ne2, ne3, ne4, ne5, ne6, Ck.val, Ck.cells, set2]) rfl ?_
      unfold CkRes
      rw [HP2]
      refine ⟨_, _, rfl, ?_, ?_⟩
      · have k0 : OwnI (w1.setCell ⟨g, 0, none⟩ (.int .i64 (p + yi))) (w.heap.size + 1 + 1) (some ⟨g, 0, none⟩) c' (set2 0 p q (p + yi)) := HST.out.1 (p + yi)
        show OwnI _ _ (some ⟨g, 0, none⟩) c' (set2 0 p q (p + yi))
        refine ownsRow_le (base := w.heap.size + 1 + 1) ?_ (by omega)
        repeat (first | (with_reducible exact k0) | (with_reducible refine World.ownsRow.alloc ?_ _) | (with_reducible refine World.ownsRow.drew ?_) | ((with_reducible refine ownsRow_setCell_other ?_ ?_ _); rotate_left; (simp [Value.ownBlock]; omega)))
      · repeat (first | (with_reducible exact hW1) | ((with_reducible refine Below.alloc ?_ ?_ _); rotate_left; (simp <;> omega)) | ((with_reducible refine Below.setCell ?_ ?_ _); rotate_left; (simp <;> omega)) | (with_reducible refine Below.drew ?_))
  · obtain ⟨g, rfl, hg1, hg2, k0, k1, f0, f1, st0, st1⟩ := own_two HO.out
    have hwr : IntKind.i64.wrap (q + yi) = q + yi := IntWalk.i64_in _ (by omega)
    have ne1 : ¬ g = w1.heap.size := by omega
    have ne2 : ¬ w1.heap.size = g := by omega
    have ne3 : ¬ g = w.heap.size := by omega
    have ne4 : ¬ w.heap.size = g := by omega
    have ne5 : ¬ g = w.heap.size + 1 := by omega
    have ne6 : ¬ w.heap.size + 1 = g := by omega
    have HST := Lib.hid (⟨st0, st1⟩ : _ ∧ _)
    clear st0 st1
    by_cases hgt : 36000000 < q + yi
    · have hgt1 := hgt
      go_wp2
      go_region
      go_wp2
      have HP2 : pressP x now = (⟨set2 1 p q 36000000, yi, yd, 1 - 1, now, yr, false⟩, 0) := by
        have hm1 : min (q + yi) 36000000 = 36000000 := by omega
        rw [HP.out]
        simp [pressQ, pick2, hm1]
      refine bodyPost_ret (v := .tuple #[(Ck.mk (set2 1 p q 36000000) yi yd (1 - 1) now yr false).val (some ⟨g, 0, none⟩) c', .int .i64 0]) (by simp [results, Try.results30, go_sem, hc1, hf1, hz1a, hz1b, ne1, ne2, ne3, ne4, ne5, ne6, Ck.val, Ck.cells, set2]) rfl ?_
      unfold CkRes
      rw [HP2]
      refine ⟨_, _, rfl, ?_, ?_⟩
      · have k0 : OwnI (w1.setCell ⟨g, 1, none⟩ (.int .i64 36000000)) (w.heap.size + 1 + 1) (some ⟨g, 0, none⟩) c' (set2 1 p q 36000000) := HST.out.2 36000000
        show OwnI _ _ (some ⟨g, 0, none⟩) c' (set2 1 p q 36000000)
        refine ownsRow_le (base := w.heap.size + 1 + 1) ?_ (by omega)
        repeat (first | (with_reducible exact k0) | (with_reducible refine World.ownsRow.alloc ?_ _) | (with_reducible refine World.ownsRow.drew ?_) | ((with_reducible refine ownsRow_setCell_other ?_ ?_ _); rotate_left; (simp [Value.ownBlock]; omega)))
      · repeat (first | (with_reducible exact hW1) | ((with_reducible refine Below.alloc ?_ ?_ _); rotate_left; (simp <;> omega)) | ((with_reducible refine Below.setCell ?_ ?_ _); rotate_left; (simp <;> omega)) | (with_reducible refine Below.drew ?_))
    · have hgt1 := hgt
      go_wp2
      go_region
      go_wp2
      have HP2 : pressP x now = (⟨set2 1 p q (q + yi), yi, yd, 1 - 1, now, yr, false⟩, 0) := by
        have hm1 : min (q + yi) 36000000 = (q + yi) := by omega
        rw [HP.out]
        simp [pressQ, pick2, hm1]
      refine bodyPost_ret (v := .tuple #[(Ck.mk (set2 1 p q (q + yi)) yi yd (1 - 1) now yr false).val (some ⟨g, 0, none⟩) c', .int .i64 0]) (by simp [results, Try.results30, go_sem, hc1, hf1, hz1a, hz1b, ne1, ne2, ne3, ne4, ne5, ne6, Ck.val, Ck.cells, set2]) rfl ?_
      unfold CkRes
      rw [HP2]
      refine ⟨_, _, rfl, ?_, ?_⟩
      · have k0 : OwnI (w1.setCell ⟨g, 1, none⟩ (.int .i64 (q + yi))) (w.heap.size + 1 + 1) (some ⟨g, 0, none⟩) c' (set2 1 p q (q + yi)) := HST.out.2 (q + yi)
        show OwnI _ _ (some ⟨g, 0, none⟩) c' (set2 1 p q (q + yi))
        refine ownsRow_le (base := w.heap.size + 1 + 1) ?_ (by omega)
        repeat (first | (with_reducible exact k0) | (with_reducible refine World.ownsRow.alloc ?_ _) | (with_reducible refine World.ownsRow.drew ?_) | ((with_reducible refine ownsRow_setCell_other ?_ ?_ _); rotate_left; (simp [Value.ownBlock]; omega)))
      · repeat (first | (with_reducible exact hW1) | ((with_reducible refine Below.alloc ?_ ?_ _); rotate_left; (simp <;> omega)) | ((with_reducible refine Below.setCell ?_ ?_ _); rotate_left; (simp <;> omega)) | (with_reducible refine Below.drew ?_))

set_option maxRecDepth 100000 in
set_option maxHeartbeats 4000000 in
theorem l23Left_c (cb co : Nat) (p q xi xd xp xs : Int) (xr xf : Bool) (a : Option Addr) (c : Nat) (now : Int) (w : World) (hat : Ck.At w cb co ⟨[p, q], xi, xd, xp, xs, xr, xf⟩ a c) (h : Ints w a [p, q]) (hp : 0 ≤ p ∧ p ≤ 36000000) (hq : 0 ≤ q ∧ q ≤ 36000000) (hd : 0 ≤ xd ∧ xd ≤ 36000000) (hs : 0 ≤ xs ∧ xs ≤ 36000000) (hn : xs ≤ now ∧ now ≤ 36000000) (hpl : 0 ≤ xp ∧ xp ≤ 1) :
    Calls Try.prog 127 #[.pointer (some ⟨cb, co, none⟩), .int .i64 now] w fun e w' => e = .returned (.int .i64 (leftQ ⟨[p, q], xi, xd, xp, xs, xr, xf⟩ p q now)) ∧ ∃ m, w' = w.drewN m := by
  obtain ⟨b, o, rfl, hb, c0, c1⟩ := ints_two h
  obtain ⟨k0, k1, k2, k3, k4, k5, k6⟩ := hat
  obtain ⟨p0, p1⟩ := hp
  obtain ⟨q0, q1⟩ := hq
  obtain ⟨d0, d1⟩ := hd
  obtain ⟨s0, s1⟩ := hs
  obtain ⟨n0, n1⟩ := hn
  clear h
  have hp01 : xp = 0 ∨ xp = 1 := by omega
  clear hpl
  rcases hp01 with rfl | rfl
  · have e1 : IntKind.i64.wrap (now - xs) = now - xs := IntWalk.i64_in _ (by omega)
    have e2 : IntKind.i64.wrap (now - xs - xd) = now - xs - xd := IntWalk.i64_in _ (by omega)
    have e3 : IntKind.i64.wrap (p - max 0 (now - xs - xd)) = p - max 0 (now - xs - xd) := IntWalk.i64_in _ (by omega)
    go_enter Try.func127, Try.ntmps127
    go_wp2_with fail
    go_quiet ((go_at_call 177; exact Calls.quiet_of_same (q_same (l00Max_c _ _ _))))
    clear e1 e2 e3
    go_wp2
    go_ret
    exact ⟨ret_int (by simp [leftQ, pick2]), _, rfl⟩
  · have e1 : IntKind.i64.wrap (now - xs) = now - xs := IntWalk.i64_in _ (by omega)
    have e2 : IntKind.i64.wrap (now - xs - xd) = now - xs - xd := IntWalk.i64_in _ (by omega)
    have e3 : IntKind.i64.wrap (q - max 0 (now - xs - xd)) = q - max 0 (now - xs - xd) := IntWalk.i64_in _ (by omega)
    go_enter Try.func127, Try.ntmps127
    go_wp2_with fail
    go_quiet ((go_at_call 177; exact Calls.quiet_of_same (q_same (l00Max_c _ _ _))))
    clear e1 e2 e3
    go_wp2
    go_ret
    exact ⟨ret_int (by simp [leftQ, pick2]), _, rfl⟩

set_option maxRecDepth 100000 in
set_option maxHeartbeats 8000000 in
theorem l23Use_c (cb co : Nat) (p q xi xd xp xs : Int) (a : Option Addr) (c : Nat) (now : Int) (w : World) (hat : Ck.At w cb co ⟨[p, q], xi, xd, xp, xs, true, false⟩ a c) (h : Ints w a [p, q]) (hp : 0 ≤ p ∧ p ≤ 36000000) (hq : 0 ≤ q ∧ q ≤ 36000000) (hd : 0 ≤ xd ∧ xd ≤ 36000000) (hs : 0 ≤ xs ∧ xs ≤ 36000000) (hn : xs ≤ now ∧ now ≤ 36000000) (hpl : 0 ≤ xp ∧ xp ≤ 1) :
    Calls Try.prog 119 #[.pointer (some ⟨cb, co, none⟩), .int .i64 now] w fun e w' => ∃ a' c', e = .returned ((useQ ⟨[p, q], xi, xd, xp, xs, true, false⟩ p q now).val a' c') ∧ OwnI w' w.heap.size a' c' (useQ ⟨[p, q], xi, xd, xp, xs, true, false⟩ p q now).left ∧ Below w.heap.size w w' := by
  have hcb : cb < w.heap.size := World.block_lt_of_cell? w _ hat.c0
  have B0 := below_alloc1 w (.cells #[.slice none 0 0, .int .i64 0, .int .i64 0, .int .i64 0, .int .i64 0, .bool false, .bool false] 53)
  have HAT : Hid (∀ W, Below w.heap.size w W → Ck.At W cb co ⟨[p, q], xi, xd, xp, xs, true, false⟩ a c) := fun W hW => by
    obtain ⟨k0, k1, k2, k3, k4, k5, k6⟩ := hat
    exact ⟨(hW.cell (show (Addr.mk cb co none).block < _ from hcb)).trans k0, (hW.cell (show (Addr.mk cb (co + 1) none).block < _ from hcb)).trans k1, (hW.cell (show (Addr.mk cb (co + 2) none).block < _ from hcb)).trans k2, (hW.cell (show (Addr.mk cb (co + 3) none).block < _ from hcb)).trans k3, (hW.cell (show (Addr.mk cb (co + 4) none).block < _ from hcb)).trans k4, (hW.cell (show (Addr.mk cb (co + 5) none).block < _ from hcb)).trans k5, (hW.cell (show (Addr.mk cb (co + 6) none).block < _ from hcb)).trans k6⟩
  have hOWN := Lib.hid (l23Own_c cb co ⟨[p, q], xi, xd, xp, xs, true, false⟩ a c _ (HAT.out _ B0) (by simp; omega) (h.below B0 (Nat.le_refl _)) (by simp))
  have HB := Lib.hid (⟨hp, hq, hd, hs, hn, hpl⟩ : _ ∧ _ ∧ _ ∧ _ ∧ _ ∧ _)
  have HH := Lib.hid h
  have K3 := Lib.hid hat.c3
  have hL : ∀ (xp : Int), 0 ≤ leftQ ⟨[p, q], xi, xd, xp, xs, true, false⟩ p q now := fun xp => by unfold leftQ; omega
  have hx01 : xp = 0 ∨ xp = 1 := by omega
  clear hat h hp hq hd hs hn hpl hL
  rcases hx01 with rfl | rfl
  · go_enter Try.func119, Try.ntmps119
    go_wp2_with fail
    refine hOWN.out.mono ?_
    rintro e w1 ⟨a', c', rfl, ho, hb1⟩
    simp only [World.size_alloc] at ho
    have W1 : Below w.heap.size w w1 := below_next B0 hb1
    obtain ⟨hc1, hf1⟩ := bcell hb1
    simp only [World.size_alloc] at hc1 hf1
    have zA : w.heap.size < w1.heap.size := by have := hb1.size; simp at this; omega
    have hcb1 : cb < w1.heap.size := by omega
    obtain ⟨g, rfl, hg1, hg2, k0, k1, f0, f1, st0, st1⟩ := own_two ho
    have HST := Lib.hid (⟨st0, st1⟩ : _ ∧ _)
    have HO := Lib.hid ho
    have W2 := W1.trans ((below_alloc1 w1 (.cells (Ck.cells ⟨[p, q], xi, xd, 0, xs, true, false⟩ (some ⟨g, 0, none⟩) c') 53)).mono (by omega))
    have HLF := Lib.hid (l23Left_c cb co p q xi xd 0 xs true false a c now _ (HAT.out _ W2) (HH.out.below W2 (Nat.le_refl _)) HB.out.1 HB.out.2.1 HB.out.2.2.1 HB.out.2.2.2.1 HB.out.2.2.2.2.1 ⟨by omega, by omega⟩)
    obtain ⟨L, hL⟩ : ∃ L, L = leftQ ⟨[p, q], xi, xd, 0, xs, true, false⟩ p q now := ⟨_, rfl⟩
    rw [← hL] at HLF
    have HU := Lib.hid (show useQ ⟨[p, q], xi, xd, 0, xs, true, false⟩ p q now = if L = 0 then ⟨set2 0 p q 0, xi, xd, 0, 0, false, true⟩ else ⟨set2 0 p q L, xi, xd, 0, xs, true, false⟩ by unfold useQ; rw [← hL])
    have k3 := K3.out
    have ne1 : ¬ g = w1.heap.size := by omega
    have ne2 : ¬ w1.heap.size = g := by omega
    have ne3 : ¬ g = w.heap.size := by omega
    have ne4 : ¬ w.heap.size = g := by omega
    have ne5 : ¬ g = cb := by omega
    have ne6 : ¬ cb = g := by omega
    clear st0 st1 ho hL hb1
    go_wp2_with fail
    refine HLF.out.mono ?_
    rintro e w2 ⟨rfl, m, rfl⟩
    go_wp2
    go_region
    have B3 : Below w1.heap.size w1 ((w1.alloc (.cells #[.slice (some ⟨g, 0, none⟩) 2 c', .int .i64 xi, .int .i64 xd, .int .i64 0, .int .i64 xs, .bool true, .bool false] 53)).drewN (m + 1)) := (below_alloc1 w1 _).trans (below_draws _ _ _)
    obtain ⟨g', hg', _, _, _, _, _, _, t0, t1⟩ := own_two (own_below HO.out B3 (Nat.le_refl _))
    cases hg'
    by_cases hz : L = 0
    · subst hz
      have HO5 := Lib.hid (t0 0)
      clear t0 t1 B3
      go_wp2
      refine bodyPost_ret (v := (Ck.mk (set2 0 p q 0) xi xd 0 0 false true).val (some ⟨g, 0, none⟩) c') (by simp [results, Try.results119, go_sem, hc1, hf1, zA, hcb1, ne1, ne2, ne3, ne4, ne5, ne6, Ck.val, Ck.cells, set2]) rfl ?_
      rw [HU.out]
      first | rw [if_pos rfl] | rw [if_pos trivial]
      refine ⟨some ⟨g, 0, none⟩, c', rfl, ?_, ?_⟩
      · have k0 : OwnI (((w1.alloc (.cells #[.slice (some ⟨g, 0, none⟩) 2 c', .int .i64 xi, .int .i64 xd, .int .i64 0, .int .i64 xs, .bool true, .bool false] 53)).drewN (m + 1)).setCell ⟨g, 0, none⟩ (.int .i64 0)) (w.heap.size + 1) (some ⟨g, 0, none⟩) c' (set2 0 p q 0) := HO5.out
        show OwnI _ _ (some ⟨g, 0, none⟩) c' (set2 0 p q 0)
        refine ownsRow_le (base := w.heap.size + 1) ?_ (by omega)
        repeat (first | (with_reducible exact k0) | (with_reducible refine World.ownsRow.alloc ?_ _) | (with_reducible refine World.ownsRow.drew ?_) | ((with_reducible refine ownsRow_setCell_other ?_ ?_ _); rotate_left; (simp [Value.ownBlock]; omega)))
      · repeat (first | (with_reducible exact W1) | ((with_reducible refine Below.alloc ?_ ?_ _); rotate_left; (first | omega | (simp <;> omega))) | ((with_reducible refine Below.setCell ?_ ?_ _); rotate_left; (simp <;> omega)) | (with_reducible refine Below.drew ?_) | (with_reducible refine Below.trans ?_ (below_draws _ _ _)))
    · have hz' : (L == 0) = false := by simpa using hz
      have HZ := Lib.hid hz
      have HO5 := Lib.hid (t0 L)
      clear t0 t1 B3 hz
      go_wp2
      refine bodyPost_ret (v := (Ck.mk (set2 0 p q L) xi xd 0 xs true false).val (some ⟨g, 0, none⟩) c') (by simp [results, Try.results119, go_sem, hc1, hf1, zA, hcb1, ne1, ne2, ne3, ne4, ne5, ne6, Ck.val, Ck.cells, set2]) rfl ?_
      rw [HU.out, if_neg HZ.out]
      refine ⟨some ⟨g, 0, none⟩, c', rfl, ?_, ?_⟩
      · have k0 : OwnI (((w1.alloc (.cells #[.slice (some ⟨g, 0, none⟩) 2 c', .int .i64 xi, .int .i64 xd, .int .i64 0, .int .i64 xs, .bool true, .bool false] 53)).drewN (m + 1)).setCell ⟨g, 0, none⟩ (.int .i64 L)) (w.heap.size + 1) (some ⟨g, 0, none⟩) c' (set2 0 p q L) := HO5.out
        show OwnI _ _ (some ⟨g, 0, none⟩) c' (set2 0 p q L)
        refine ownsRow_le (base := w.heap.size + 1) ?_ (by omega)
        repeat (first | (with_reducible exact k0) | (with_reducible refine World.ownsRow.alloc ?_ _) | (with_reducible refine World.ownsRow.drew ?_) | ((with_reducible refine ownsRow_setCell_other ?_ ?_ _); rotate_left; (simp [Value.ownBlock]; omega)))
      · repeat (first | (with_reducible exact W1) | ((with_reducible refine Below.alloc ?_ ?_ _); rotate_left; (first | omega | (simp <;> omega))) | ((with_reducible refine Below.setCell ?_ ?_ _); rotate_left; (simp <;> omega)) | (with_reducible refine Below.drew ?_) | (with_reducible refine Below.trans ?_ (below_draws _ _ _)))
  · go_enter Try.func119, Try.ntmps119
    go_wp2_with fail
    refine hOWN.out.mono ?_
    rintro e w1 ⟨a', c', rfl, ho, hb1⟩
    simp only [World.size_alloc] at ho
    have W1 : Below w.heap.size w w1 := below_next B0 hb1
    obtain ⟨hc1, hf1⟩ := bcell hb1
    simp only [World.size_alloc] at hc1 hf1
    have zA : w.heap.size < w1.heap.size := by have := hb1.size; simp at this; omega
    have hcb1 : cb < w1.heap.size := by omega
    obtain ⟨g, rfl, hg1, hg2, k0, k1, f0, f1, st0, st1⟩ := own_two ho
    have HST := Lib.hid (⟨st0, st1⟩ : _ ∧ _)
    have HO := Lib.hid ho
    have W2 := W1.trans ((below_alloc1 w1 (.cells (Ck.cells ⟨[p, q], xi, xd, 1, xs, true, false⟩ (some ⟨g, 0, none⟩) c') 53)).mono (by omega))
    have HLF := Lib.hid (l23Left_c cb co p q xi xd 1 xs true false a c now _ (HAT.out _ W2) (HH.out.below W2 (Nat.le_refl _)) HB.out.1 HB.out.2.1 HB.out.2.2.1 HB.out.2.2.2.1 HB.out.2.2.2.2.1 ⟨by omega, by omega⟩)
    obtain ⟨L, hL⟩ : ∃ L, L = leftQ ⟨[p, q], xi, xd, 1, xs, true, false⟩ p q now := ⟨_, rfl⟩
    rw [← hL] at HLF
    have HU := Lib.hid (show useQ ⟨[p, q], xi, xd, 1, xs, true, false⟩ p q now = if L = 0 then ⟨set2 1 p q 0, xi, xd, 1, 0, false, true⟩ else ⟨set2 1 p q L, xi, xd, 1, xs, true, false⟩ by unfold useQ; rw [← hL])
    have k3 := K3.out
    have ne1 : ¬ g = w1.heap.size := by omega
    have ne2 : ¬ w1.heap.size = g := by omega
    have ne3 : ¬ g = w.heap.size := by omega
    have ne4 : ¬ w.heap.size = g := by omega
    have ne5 : ¬ g = cb := by omega
    have ne6 : ¬ cb = g := by omega
    clear st0 st1 ho hL hb1
    go_wp2_with fail
    refine HLF.out.mono ?_
    rintro e w2 ⟨rfl, m, rfl⟩
    go_wp2
    go_region
    have B3 : Below w1.heap.size w1 ((w1.alloc (.cells #[.slice (some ⟨g, 0, none⟩) 2 c', .int .i64 xi, .int .i64 xd, .int .i64 1, .int .i64 xs, .bool true, .bool false] 53)).drewN (m + 1)) := (below_alloc1 w1 _).trans (below_draws _ _ _)
    obtain ⟨g', hg', _, _, _, _, _, _, t0, t1⟩ := own_two (own_below HO.out B3 (Nat.le_refl _))
    cases hg'
    by_cases hz : L = 0
    · subst hz
      have HO5 := Lib.hid (t1 0)
      clear t0 t1 B3
      go_wp2
      refine bodyPost_ret (v := (Ck.mk (set2 1 p q 0) xi xd 1 0 false true).val (some ⟨g, 0, none⟩) c') (by simp [results, Try.results119, go_sem, hc1, hf1, zA, hcb1, ne1, ne2, ne3, ne4, ne5, ne6, Ck.val, Ck.cells, set2]) rfl ?_
      rw [HU.out]
      first | rw [if_pos rfl] | rw [if_pos trivial]
      refine ⟨some ⟨g, 0, none⟩, c', rfl, ?_, ?_⟩
      · have k0 : OwnI (((w1.alloc (.cells #[.slice (some ⟨g, 0, none⟩) 2 c', .int .i64 xi, .int .i64 xd, .int .i64 1, .int .i64 xs, .bool true, .bool false] 53)).drewN (m + 1)).setCell ⟨g, 1, none⟩ (.int .i64 0)) (w.heap.size + 1) (some ⟨g, 0, none⟩) c' (set2 1 p q 0) := HO5.out
        show OwnI _ _ (some ⟨g, 0, none⟩) c' (set2 1 p q 0)
        refine ownsRow_le (base := w.heap.size + 1) ?_ (by omega)
        repeat (first | (with_reducible exact k0) | (with_reducible refine World.ownsRow.alloc ?_ _) | (with_reducible refine World.ownsRow.drew ?_) | ((with_reducible refine ownsRow_setCell_other ?_ ?_ _); rotate_left; (simp [Value.ownBlock]; omega)))
      · repeat (first | (with_reducible exact W1) | ((with_reducible refine Below.alloc ?_ ?_ _); rotate_left; (first | omega | (simp <;> omega))) | ((with_reducible refine Below.setCell ?_ ?_ _); rotate_left; (simp <;> omega)) | (with_reducible refine Below.drew ?_) | (with_reducible refine Below.trans ?_ (below_draws _ _ _)))
    · have hz' : (L == 0) = false := by simpa using hz
      have HZ := Lib.hid hz
      have HO5 := Lib.hid (t1 L)
      clear t0 t1 B3 hz
      go_wp2
      refine bodyPost_ret (v := (Ck.mk (set2 1 p q L) xi xd 1 xs true false).val (some ⟨g, 0, none⟩) c') (by simp [results, Try.results119, go_sem, hc1, hf1, zA, hcb1, ne1, ne2, ne3, ne4, ne5, ne6, Ck.val, Ck.cells, set2]) rfl ?_
      rw [HU.out, if_neg HZ.out]
      refine ⟨some ⟨g, 0, none⟩, c', rfl, ?_, ?_⟩
      · have k0 : OwnI (((w1.alloc (.cells #[.slice (some ⟨g, 0, none⟩) 2 c', .int .i64 xi, .int .i64 xd, .int .i64 1, .int .i64 xs, .bool true, .bool false] 53)).drewN (m + 1)).setCell ⟨g, 1, none⟩ (.int .i64 L)) (w.heap.size + 1) (some ⟨g, 0, none⟩) c' (set2 1 p q L) := HO5.out
        show OwnI _ _ (some ⟨g, 0, none⟩) c' (set2 1 p q L)
        refine ownsRow_le (base := w.heap.size + 1) ?_ (by omega)
        repeat (first | (with_reducible exact k0) | (with_reducible refine World.ownsRow.alloc ?_ _) | (with_reducible refine World.ownsRow.drew ?_) | ((with_reducible refine ownsRow_setCell_other ?_ ?_ _); rotate_left; (simp [Value.ownBlock]; omega)))
      · repeat (first | (with_reducible exact W1) | ((with_reducible refine Below.alloc ?_ ?_ _); rotate_left; (first | omega | (simp <;> omega))) | ((with_reducible refine Below.setCell ?_ ?_ _); rotate_left; (simp <;> omega)) | (with_reducible refine Below.drew ?_) | (with_reducible refine Below.trans ?_ (below_draws _ _ _)))

theorem code_parts {x : Ck} {now : Int} (h : x.code now true = 0) : x.ok = true ∧ inB now x.since 36000000 = true ∧ x.running = true ∧ x.fallen = false := by
  unfold Ck.code at h
  cases hok : x.ok
  · simp [hok] at h
  · cases hn : inB now x.since 36000000
    · simp [hok, hn] at h
    · cases hr : x.running <;> cases hf : x.fallen <;> simp [hok, hn, hr, hf] at h ⊢
set_option maxRecDepth 100000 in
set_option maxHeartbeats 8000000 in
theorem sStopClock_c (x : Ck) (a : Option Addr) (c : Nat) (now : Int) (w : World) (h : Ints w a x.left) (hm : x.left.length ≤ 16777216) :
    Calls Try.prog 42 #[x.val a c, .int .i64 now] w (CkRes w (stopP x now)) := by
  have hat := fun o => ckAt_lit x a c w 53 o
  go_enter Try.func42, Try.ntmps42
  go_wp2_with fail
  refine (l23Code_c w.heap.size 0 x a c now true _ (hat _) (h.below (below_alloc2 _ _ _) (Nat.le_refl _)) (by unfold maxLen; omega)).mono ?_
  rintro e w1 ⟨rfl, m, hw1⟩
  have hW1 : Below w.heap.size w w1 := by rw [hw1]; exact (below_alloc2 _ _ _).trans (below_draws _ _ _)
  have hb1 := bcell (show Below _ _ w1 from hw1 ▸ below_draws _ _ m)
  obtain ⟨hc1, hf1⟩ := hb1
  simp only [World.size_alloc] at hc1 hf1
  have hz1b : w.heap.size + 1 < w1.heap.size := by rw [hw1]; simp
  have hz1a : w.heap.size < w1.heap.size := by omega
  clear hw1
  by_cases hcode : x.code now true = 0
  · have hat1 : Ck.At w1 w.heap.size 0 x a c := by
      constructor <;> (rw [hc1 _ _ (by omega)]; simp [Ck.cells])
    obtain ⟨hok, hnow, hrun, hfal⟩ := code_parts hcode
    obtain ⟨p, q, hl, hp, hq, hi, hd, hs, hx⟩ := Ck.ok_parts hok
    have HCH : Hid (chargedP x now = (useP x now, 0)) := by unfold Hid chargedP; rw [if_pos hcode]
    obtain ⟨xl, xi, xd, xp, xs, xr, xf⟩ := x
    simp only at hl hrun hfal hd hs hx hnow
    subst hl
    subst hrun
    subst hfal
    have HU := Lib.hid (l23Use_c w.heap.size 0 p q xi xd xp xs a c now w1 hat1 (h.below hW1 (Nat.le_refl _)) hp hq hd hs (inB_iff.1 hnow) hx)
    obtain ⟨y, hy⟩ : ∃ y, y = useQ ⟨[p, q], xi, xd, xp, xs, true, false⟩ p q now := ⟨_, rfl⟩
    rw [← hy] at HU
    have HP : Hid (stopP ⟨[p, q], xi, xd, xp, xs, true, false⟩ now = (⟨y.left, y.inc, y.delay, y.player, 0, false, y.fallen⟩, 0)) := by
      unfold Hid stopP
      rw [HCH.out, hy]
      rfl
    rw [hcode]
    clear hcode hy HCH hat1 hat
    go_wp2_with fail
    refine HU.out.mono ?_
    rintro e w3 ⟨a', c', rfl, ho3, hb3⟩
    have hW3 : Below w.heap.size w w3 := below_next hW1 hb3
    obtain ⟨hc3, hf3⟩ := bcell hb3
    have hz3b : w.heap.size + 1 < w3.heap.size := by have := hb3.size; omega
    have hz3a : w.heap.size < w3.heap.size := by omega
    have HO := Lib.hid ho3
    clear ho3 HU
    go_wp2
    refine bodyPost_ret (v := .tuple #[(Ck.mk y.left y.inc y.delay y.player 0 false y.fallen).val a' c', .int .i64 0]) (by simp [results, Try.results42, go_sem, hc1, hc3, hf1, hf3, hz1a, hz1b, hz3a, hz3b, Ck.val, Ck.cells]) rfl ?_
    unfold CkRes
    rw [HP.out]
    refine ⟨a', c', rfl, ?_, ?_⟩
    · have k0 := HO.out
      refine ownsRow_le (base := w1.heap.size) ?_ (by omega)
      repeat (first | (with_reducible exact k0) | (with_reducible refine World.ownsRow.alloc ?_ _) | ((with_reducible refine ownsRow_setCell_below ?_ ?_ _); rotate_left; (simp <;> omega)))
    · repeat (first | (with_reducible exact hW3) | ((with_reducible refine Below.alloc ?_ ?_ _); rotate_left; (simp <;> omega)) | ((with_reducible refine Below.setCell ?_ ?_ _); rotate_left; (simp <;> omega)))
  · have HP : Hid (stopP x now = (Ck.zero, x.code now true)) := by
      unfold Hid stopP chargedP
      rw [if_neg hcode]
      simp only
      rw [if_neg hcode]
    have hne : (x.code now true != 0) = true := by simpa using hcode
    clear hcode
    go_wp2
    refine bodyPost_ret (v := .tuple #[Ck.zero.val none 0, .int .i64 (x.code now true)]) (by simp [results, Try.results42, go_sem, hc1, hz1a, hz1b, Ck.val, Ck.cells, Ck.zero]) rfl ?_
    unfold CkRes
    rw [HP.out]
    refine ⟨none, 0, rfl, ownI_nil _ _, ?_⟩
    repeat (first | (with_reducible exact hW1) | ((with_reducible refine Below.setCell ?_ ?_ _); rotate_left; (simp <;> omega)))

end Go.Proofs.Ytbjdfgfebepacaa
