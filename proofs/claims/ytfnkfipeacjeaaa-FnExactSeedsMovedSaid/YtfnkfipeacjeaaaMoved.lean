/- Moved: how many seeds are sown in a legal move: both functions. Each contract holds for every argument, under the premises that it states. -/
import Derived.Test.YtfnkfipeacjeaaaMf
namespace Go.Proofs.Ytfnkfipeacjeaaa
set_option linter.unusedSimpArgs false
set_option linter.unusedVariables false
set_option linter.unnecessarySimpa false
open Go.RowKit Go.ChangeShapes Go.WideShapes Go.ChangeAt Go.Joins

def movedP (r : R) (p : P) (move : Int) : Int × Int :=
  if (doneP r p move).code = 0 then (match sowP r p.player (p.player * r.pits + move) p.pits p.stores with | some (L, _) => ((L.path.length : Int), 0) | none => (0, 0)) else (0, (doneP r p move).code)
theorem movedP_bad {r : R} {p : P} {move c : Int} (h : (doneP r p move).code = c) (hc : ¬ c = 0) : movedP r p move = (0, c) := by
  unfold movedP; rw [h, if_neg hc]
theorem movedP_ok {r : R} {p : P} {move : Int} {L : Lap} {n : Int} (h : (doneP r p move).code = 0) (ho : sowP r p.player (p.player * r.pits + move) p.pits p.stores = some (L, n)) : movedP r p move = ((L.path.length : Int), 0) := by
  unfold movedP; rw [if_pos h, ho]
set_option maxRecDepth 100000 in
set_option maxHeartbeats 8000000 in
theorem iSeedsMoved_c (r : R) (p : P) (move : Int) (pa sa : Option Addr) (pc sc : Nat) (w : World) (h : PRow w p pa sa) (m1 : p.pits.length ≤ 16777216) (m2 : p.stores.length ≤ 16777216) (hc : p.pits.length ≤ pc) (hcm : pc ≤ maxLen) :
    Calls Try.prog 55 #[r.val, p.val pa pc sa sc, .int .i64 move] w fun e w' => e = .returned (.tuple #[.int .i64 (movedP r p move).1, .int .i64 (movedP r p move).2]) ∧ Below w.heap.size w w' := by
  have F0 := ((Fr.start w).alloc r.cells 26).alloc (p.cells pa pc sa sc) 42
  obtain ⟨y, hy⟩ : ∃ y, y = movedP r p move := ⟨_, rfl⟩
  rw [← hy]
  obtain ⟨c, hcd⟩ : ∃ c, (doneP r p move).code = c := ⟨_, rfl⟩
  have HC := Lib.hid (fun W (H : PRow W p pa sa) => iMoveFault_c r p move pa sa pc sc W H m1 m2 hc hcm)
  have HW := Lib.hid (fun W (H : PRow W p pa sa) => sowMove_c r p move pa sa pc sc W H m1 m2)
  rw [hcd] at HC
  have HY := Lib.hid hy
  have HD := Lib.hid hcd
  clear hy hcd
  go_enter Try.func55, Try.ntmps55
  go_wp2_with fail
  refine (HC.out _ (h.below F0.below (Nat.le_refl _))).mono ?_
  rintro e w1 ⟨rfl, hb1⟩
  have F1 := F0.step hb1
  obtain ⟨c0, c1, c2, c3, c4, c5, c6, c7, c8⟩ := R.boxc (F1.at 1 rfl)
  obtain ⟨d0, d1, d2⟩ := P.boxc (F1.at 0 rfl)
  simp only [World.size_alloc] at d0 d1 d2
  clear hb1 F0
  by_cases hz : c = 0
  · have hz' : (c != 0) = false := by simpa using hz
    have HZ := Lib.hid hz
    clear hz
    go_wp2_with fail
    refine (HW.out _ (h.below F1.below (Nat.le_refl _))).mono ?_
    rintro e w2 hsm
    have F2 := F1.step (SowM.below hsm)
    rcases hsm with ⟨k, hk, hor, rfl, _⟩ | ⟨L, n, sb, pg, qc, sg, tc, ta, tac, hc0, ho, rfl, hs, hf, hw, ho', ha, _⟩
    · exfalso
      obtain ⟨g1, L, n, g2⟩ := doneP_zero (HD.out.trans HZ.out)
      rcases hor with e1 | ⟨_, e1, _⟩
      · omega
      · rw [g2] at e1; cases e1
    · have HE := Lib.hid (HY.out.trans (movedP_ok (HD.out.trans HZ.out) ho))
      have x14 := hw.c14
      clear hs hf hw ho' ha hc0 ho c0 c1 c2 c3 c4 c5 c6 c7 c8 d0 d1 d2 F1
      go_wp2
      go_ret2
      rw [HE.out]
      exact ⟨rfl, F2.below⟩
  · have hz' : (c != 0) = true := by simpa using hz
    have HE := Lib.hid (HY.out.trans (movedP_bad HD.out hz))
    clear hz
    go_wp2
    go_ret2
    rw [HE.out]
    exact ⟨rfl, F1.below⟩

set_option maxRecDepth 100000 in
set_option maxHeartbeats 8000000 in
theorem sSeedsMoved_c (r : R) (p : P) (move : Int) (pa sa : Option Addr) (pc sc : Nat) (w : World) (h : PRow w p pa sa) (m1 : p.pits.length ≤ 16777216) (m2 : p.stores.length ≤ 16777216) :
    Calls Try.prog 54 #[r.val, p.val pa pc sa sc, .int .i64 move] w fun e w' => e = .returned (.tuple #[.int .i64 (movedP r p move).1, .int .i64 (movedP r p move).2]) ∧ Below w.heap.size w w' := by
  have F0 := ((Fr.start w).alloc r.cells 26).alloc (p.cells pa pc sa sc) 42
  obtain ⟨y, hy⟩ : ∃ y, y = movedP r p move := ⟨_, rfl⟩
  rw [← hy]
  obtain ⟨c, hcd⟩ : ∃ c, (doneP r p move).code = c := ⟨_, rfl⟩
  have HC := Lib.hid (fun W (H : PRow W p pa sa) => sMoveFault_c r p move pa sa pc sc W H m1 m2)
  rw [hcd] at HC
  have HY := Lib.hid hy
  have HD := Lib.hid hcd
  clear hy hcd
  go_enter Try.func54, Try.ntmps54
  go_wp2_with fail
  refine (HC.out _ (h.below F0.below (Nat.le_refl _))).mono ?_
  rintro e w1 ⟨rfl, hb1⟩
  have F1 := F0.step hb1
  have hr := R.boxc (F1.at 1 rfl)
  have hp : P.At w1 (w.alloc (.cells r.cells 26)).heap.size 0 p pa pc sa sc := ⟨F1.at 0 rfl 0 _ rfl, F1.at 0 rfl 1 _ rfl, F1.at 0 rfl 2 _ rfl⟩
  simp only [World.size_alloc] at hp
  have HM := Lib.hid (l05Move_c _ _ _ _ r p move pa sa pc sc _ hr hp (h.below F1.below (Nat.le_refl _)) m1 m2)
  clear hb1 F0 hr hp
  by_cases hz : c = 0
  · have hz' : (c != 0) = false := by simpa using hz
    have HZ := Lib.hid hz
    clear hz
    go_wp2_with fail
    refine HM.out.mono ?_
    rintro e w2 (⟨k, hk, hor, rfl, hb2⟩ | ⟨L, n, qa, qc, ta, tc, xa, xc, hc0, ho, rfl, hpo, hx, hb2⟩)
    · exfalso
      obtain ⟨g1, L, n, g2⟩ := doneP_zero (HD.out.trans HZ.out)
      rcases hor with e1 | ⟨_, e1, _⟩
      · omega
      · rw [g2] at e1; cases e1
    · have F2 := F1.step hb2
      have HE := Lib.hid (HY.out.trans (movedP_ok (HD.out.trans HZ.out) ho))
      have BW := F2.below
      have hzs := F2.below.size
      clear hpo hx hc0 ho F1 F2 hb2 HM
      go_wp2
      go_ret2
      rw [HE.out]
      refine ⟨rfl, ?_⟩
      repeat (first | (with_reducible exact BW) | ((with_reducible refine Below.setCell ?_ ?_ _); rotate_left; (simp <;> omega)) | ((with_reducible refine Below.alloc ?_ ?_ _); rotate_left; (first | omega | (simp <;> omega))))
  · have hz' : (c != 0) = true := by simpa using hz
    have HE := Lib.hid (HY.out.trans (movedP_bad HD.out hz))
    clear hz
    go_wp2
    go_ret2
    rw [HE.out]
    exact ⟨rfl, F1.below⟩

end Go.Proofs.Ytfnkfipeacjeaaa
