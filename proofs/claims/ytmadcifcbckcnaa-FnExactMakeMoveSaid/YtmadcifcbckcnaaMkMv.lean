/- MkMv: the position after a move: both functions. Each contract holds for every argument, under the premises that it states. -/
import Derived.Test.YtmadcifcbckcnaaRsOf
import Derived.Test.YtmadcifcbckcnaaPosR
import Derived.Deep.RegionHeld3
namespace Go.Proofs.Ytmadcifcbckcnaa
set_option linter.unusedSimpArgs false
set_option linter.unusedVariables false
set_option linter.unnecessarySimpa false
open Go.RowKit Go.ChangeShapes Go.WideShapes Go.ChangeAt Go.Joins

def mkmvP (r : R) (p : P) (move : Int) : P × Int × Int := (⟨(makeP r p move).pits, (makeP r p move).stores, (makeP r p move).player⟩, (makeP r p move).gain, (makeP r p move).code)
theorem mkmvP_len (r : R) (p : P) (move : Int) : (mkmvP r p move).1.pits.length ≤ 1048576 ∧ (mkmvP r p move).1.stores.length ≤ 1048576 := by
  unfold mkmvP
  by_cases h : (doneP r p move).code = 0
  · have hf := doneP_facts h
    rw [makeP_ok h]
    simp only
    omega
  · rw [makeP_bad rfl h]
    simp [Mk.bad]

set_option maxRecDepth 100000 in
set_option maxHeartbeats 8000000 in
theorem iMakeMove_c (r : R) (p : P) (move : Int) (pa sa : Option Addr) (pc sc : Nat) (w : World) (h : PRow w p pa sa) (m1 : p.pits.length ≤ 16777216) (m2 : p.stores.length ≤ 16777216) (hc : p.pits.length ≤ pc) (hcm : pc ≤ maxLen) :
    Calls Try.prog 28 #[r.val, p.val pa pc sa sc, .int .i64 move] w (PsRes w (mkmvP r p move)) := by
  have F0 := (((Fr.start w).alloc r.cells 30).alloc (p.cells pa pc sa sc) 32).allocF #[.slice none 0 0, .slice none 0 0, .int .i64 0] 32
  simp only [World.size_alloc] at F0
  have HM := Lib.hid (resultOf_c r p move pa sa pc sc _ (h.below F0.below (Nat.le_refl _)) m1 m2 hc hcm)
  have hbad : ∀ c, (doneP r p move).code = c → ¬ c = 0 → makeP r p move = .bad c := fun c h1 h2 => makeP_bad h1 h2
  have hcd := makeP_code r p move
  unfold mkmvP
  obtain ⟨y, hy⟩ : ∃ y, y = makeP r p move := ⟨_, rfl⟩
  rw [← hy] at HM ⊢ hbad hcd
  have HB : Hid (¬ y.code = 0 → y = .bad y.code) := fun h1 => hbad y.code hcd.symm h1
  clear hy hbad hcd h
  go_enter Try.func28, Try.ntmps28
  go_wp2_with fail
  refine HM.out.mono ?_
  rintro e w1 ⟨ua, uc, va, vc, rfl, ho, hb1⟩
  have F1 := F0.step hb1
  obtain ⟨bx, bf⟩ := F1.at 0 rfl
  obtain ⟨x0, x1, x2⟩ := (⟨bx 0 _ rfl, bx 1 _ rfl, bx 2 _ rfl⟩ : _ ∧ _ ∧ _)
  have zC : w.heap.size + 1 + 1 < w1.heap.size := F1.le 0 rfl
  have zD : w.heap.size + 1 < w1.heap.size := by omega
  have zE : w.heap.size < w1.heap.size := by omega
  have B1 := F1.below
  simp only [World.size_alloc] at ho
  have HO := Lib.hid ho
  have hzb : w.heap.size + 1 + 1 + 1 ≤ w1.heap.size := by omega
  clear bx F0 F1 HM hb1 ho
  by_cases hz : y.code = 0
  case neg =>
    have hz' : (y.code != 0) = true := by simpa using hz
    obtain ⟨c, hcy⟩ : ∃ c, y = Mk.bad c := ⟨_, HB.out hz⟩
    subst hcy
    have hz2 : ((Mk.bad c).code != 0) = (c != 0) := rfl
    clear hz HB
    go_wp2_with fail
    refine bodyPost_ret (v := .tuple #[P.val ⟨[], [], 0⟩ none 0 none 0, .int .i64 0, .int .i64 c]) (by simp [results, Try.results28, go_sem, x0, x1, x2, bf, zC, zD, zE, Mk.bad, P.val]) rfl ?_
    refine ⟨⟨none, 0, none, 0⟩, rfl, ⟨World.ownsRow_nil _ _ _ _, World.ownsRow_nil _ _ _ _, .inl rfl⟩, ?_⟩
    repeat (first | (with_reducible exact B1) | ((with_reducible refine Below.setCell ?_ ?_ _); rotate_left; (simp <;> omega)) | ((with_reducible refine Below.alloc ?_ ?_ _); rotate_left; (first | omega | (simp <;> omega))))
  have hz' : (y.code != 0) = false := by simpa using hz
  have HZ := Lib.hid hz
  clear hz HB
  go_wp2_with fail
  go_region
  all_goals (go_wp2_with fail)
  all_goals refine bodyPost_ret (v := .tuple #[P.val ⟨y.pits, y.stores, y.player⟩ ua uc va vc, .int .i64 y.gain, .int .i64 0]) (by simp [results, Try.results28, go_sem, x0, x1, x2, bf, zC, zD, zE, P.val]) rfl ?_
  all_goals (refine ⟨⟨ua, uc, va, vc⟩, by rw [HZ.out], ⟨?_, ?_, HO.out.apart⟩, ?_⟩)
  all_goals first
    | (have k0 := HO.out.pits
       dsimp only at k0 ⊢
       refine ownsRow_le (base := w.heap.size + 1 + 1 + 1) ?_ (by omega)
       repeat (first | (with_reducible exact k0) | (with_reducible refine World.ownsRow.alloc ?_ _) | ((with_reducible refine ownsRow_setCell_below ?_ ?_ _); rotate_left; (simp <;> omega)) | (with_reducible refine World.ownsRow.drew ?_))
       done)
    | (have k0 := HO.out.stores
       dsimp only at k0 ⊢
       refine ownsRow_le (base := w.heap.size + 1 + 1 + 1) ?_ (by omega)
       repeat (first | (with_reducible exact k0) | (with_reducible refine World.ownsRow.alloc ?_ _) | ((with_reducible refine ownsRow_setCell_below ?_ ?_ _); rotate_left; (simp <;> omega)) | (with_reducible refine World.ownsRow.drew ?_))
       done)
    | (repeat (first | (with_reducible exact B1) | ((with_reducible refine Below.setCell ?_ ?_ _); rotate_left; (simp <;> omega)) | ((with_reducible refine Below.alloc ?_ ?_ _); rotate_left; (first | omega | (simp <;> omega))) | (with_reducible refine Below.drew ?_)))


set_option maxRecDepth 100000 in
set_option maxHeartbeats 8000000 in
theorem sMakeMove_c (r : R) (p : P) (move : Int) (pa sa : Option Addr) (pc sc : Nat) (w : World) (h : PRow w p pa sa) (m1 : p.pits.length ≤ 16777216) (m2 : p.stores.length ≤ 16777216) :
    Calls Try.prog 27 #[r.val, p.val pa pc sa sc, .int .i64 move] w (PsRes w (mkmvP r p move)) := by
  have F0 := (((Fr.start w).alloc r.cells 30).alloc (p.cells pa pc sa sc) 32).allocF #[.slice none 0 0, .slice none 0 0, .int .i64 0] 32
  simp only [World.size_alloc] at F0
  have hr := R.boxc (F0.at 2 rfl)
  have hp : P.At _ (w.heap.size + 1) 0 p pa pc sa sc := ⟨F0.at 1 rfl 0 _ rfl, F0.at 1 rfl 1 _ rfl, F0.at 1 rfl 2 _ rfl⟩
  have HM := Lib.hid (l07Make_c _ _ _ _ r p move pa sa pc sc _ hr hp (h.below F0.below (Nat.le_refl _)) m1 m2)
  unfold mkmvP
  obtain ⟨y, hy⟩ : ∃ y, y = makeP r p move := ⟨_, rfl⟩
  rw [← hy] at HM ⊢
  clear hy h hr hp
  go_enter Try.func27, Try.ntmps27
  go_wp2_with fail
  refine HM.out.mono ?_
  rintro e w1 ⟨ua, uc, va, vc, rfl, ho, hb1⟩
  have F1 := F0.step hb1
  obtain ⟨bx, bf⟩ := F1.at 0 rfl
  obtain ⟨x0, x1, x2⟩ := (⟨bx 0 _ rfl, bx 1 _ rfl, bx 2 _ rfl⟩ : _ ∧ _ ∧ _)
  have zC : w.heap.size + 1 + 1 < w1.heap.size := F1.le 0 rfl
  have zD : w.heap.size + 1 < w1.heap.size := by omega
  have zE : w.heap.size < w1.heap.size := by omega
  have B1 := F1.below
  simp only [World.size_alloc] at ho
  have HO := Lib.hid ho
  have hzb : w.heap.size + 1 + 1 + 1 ≤ w1.heap.size := by omega
  clear bx F0 F1 HM hb1 ho
  go_wp2_with fail
  go_region
  all_goals (go_wp2_with fail)
  all_goals refine bodyPost_ret (v := .tuple #[P.val ⟨y.pits, y.stores, y.player⟩ ua uc va vc, .int .i64 y.gain, .int .i64 y.code]) (by simp [results, Try.results27, go_sem, x0, x1, x2, bf, zC, zD, zE, P.val]) rfl ?_
  all_goals (refine ⟨⟨ua, uc, va, vc⟩, rfl, ⟨?_, ?_, HO.out.apart⟩, ?_⟩)
  all_goals first
    | (have k0 := HO.out.pits
       dsimp only at k0 ⊢
       refine ownsRow_le (base := w.heap.size + 1 + 1 + 1) ?_ (by omega)
       repeat (first | (with_reducible exact k0) | (with_reducible refine World.ownsRow.alloc ?_ _) | ((with_reducible refine ownsRow_setCell_below ?_ ?_ _); rotate_left; (simp <;> omega)) | (with_reducible refine World.ownsRow.drew ?_))
       done)
    | (have k0 := HO.out.stores
       dsimp only at k0 ⊢
       refine ownsRow_le (base := w.heap.size + 1 + 1 + 1) ?_ (by omega)
       repeat (first | (with_reducible exact k0) | (with_reducible refine World.ownsRow.alloc ?_ _) | ((with_reducible refine ownsRow_setCell_below ?_ ?_ _); rotate_left; (simp <;> omega)) | (with_reducible refine World.ownsRow.drew ?_))
       done)
    | (repeat (first | (with_reducible exact B1) | ((with_reducible refine Below.setCell ?_ ?_ _); rotate_left; (simp <;> omega)) | ((with_reducible refine Below.alloc ?_ ?_ _); rotate_left; (first | omega | (simp <;> omega))) | (with_reducible refine Below.drew ?_)))

end Go.Proofs.Ytmadcifcbckcnaa
