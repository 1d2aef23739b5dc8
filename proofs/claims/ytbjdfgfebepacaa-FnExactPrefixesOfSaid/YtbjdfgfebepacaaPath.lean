/- Path: the path of a move: the contracts of both sides. Each holds for every argument, under the premises that it states. -/
import Derived.Test.YtbjdfgfebepacaaSMove
import Derived.Test.YtbjdfgfebepacaaMov2
namespace Go.Proofs.Ytbjdfgfebepacaa
set_option linter.unusedSimpArgs false
set_option linter.unusedVariables false
set_option linter.unnecessarySimpa false
open Go.RowKit Go.ChangeShapes Go.WideShapes Go.ChangeAt Go.Joins

/-- a new row of numbers, with a code -/
def IntsRes2 (w : World) (y : List Int × Int) (e : Ending) (w' : World) : Prop := ∃ a c, e = .returned (.tuple #[.slice a y.1.length c, .int .i64 y.2]) ∧ OwnI w' w.heap.size a c y.1 ∧ Below w.heap.size w w'
def pathP (r : R) (p : P) (move : Int) : List Int × Int :=
  if codeP r p move = 0 then (match sowP r p.player (p.player * r.pits + move) p.pits p.stores with | none => ([], 10) | some (L, _) => (L.path, 0)) else ([], codeP r p move)
theorem pathP_bad {r : R} {p : P} {move c : Int} (hc : ¬ c = 0) (h : c = codeP r p move ∨ codeP r p move = 0 ∧ sowP r p.player (p.player * r.pits + move) p.pits p.stores = none ∧ c = 10) : pathP r p move = ([], c) := by
  unfold pathP
  rcases h with rfl | ⟨h1, h2, rfl⟩
  · rw [if_neg hc]
  · rw [if_pos h1, h2]
theorem pathP_ok {r : R} {p : P} {move n : Int} {L : Lap} (h1 : codeP r p move = 0) (h2 : sowP r p.player (p.player * r.pits + move) p.pits p.stores = some (L, n)) : pathP r p move = (L.path, 0) := by
  unfold pathP
  rw [if_pos h1, h2]
theorem pathP_len (r : R) (p : P) (move : Int) : (pathP r p move).1.length ≤ 1048576 := by
  unfold pathP
  split
  · rename_i hc
    cases hs : sowP r p.player (p.player * r.pits + move) p.pits p.stores with
    | none => simp
    | some x =>
      obtain ⟨L, n⟩ := x
      obtain ⟨hok, mv, hnz⟩ := codeP_zero hc
      obtain ⟨hbd, ⟨pn, hpn, hpn1⟩, t, hB, ht0, ht1⟩ := P.ok_parts hok
      obtain ⟨fn, hfn, hfl⟩ := from_ok hok mv
      rw [hfn] at hs
      obtain ⟨k1, k2, k3⟩ := lapP_brd hbd p.player fn (by omega) p.pits p.stores [] t hB hfl
      obtain ⟨j1, j2, j3, j4, j5⟩ := sowGo_brd hbd p.player (by omega) 99 _ L n k1 k3 hs
      have := hB.bp (Int.le_refl t) _ (List.getElem_mem hfl)
      simp only [List.length_nil] at k2
      simp
      omega
  · simp

set_option maxHeartbeats 4000000 in
theorem iSowPath_c (r : R) (p : P) (move : Int) (pa sa : Option Addr) (pc sc : Nat) (w : World) (h : PRow w p pa sa) (m1 : p.pits.length ≤ 16777216) (m2 : p.stores.length ≤ 16777216) :
    Calls Try.prog 55 #[r.val, p.val pa pc sa sc, .int .i64 move] w (IntsRes2 w (pathP r p move)) := by
  have F0 := ((Fr.start w).alloc r.cells 25).alloc (p.cells pa pc sa sc) 67
  go_enter Try.func55, Try.ntmps55
  go_wp2_with fail
  refine (sowMove_c r p move pa sa pc sc _ (h.below F0.below (Nat.le_refl _)) m1 m2).mono ?_
  rintro e w1 (⟨c, hc, hor, rfl, hb1⟩ | ⟨L, n, sb, pg, qc, sg, tc, ta, tac, hc, ho, rfl, hs, hf, hw, ho', ha, hb1⟩)
  · have F1 := F0.step hb1
    have HE := Lib.hid (pathP_bad hc hor)
    have hc1 : (c != 0) = true := by simpa using hc
    clear hor hc
    go_wp2
    go_ret2
    rw [HE.out]
    exact ⟨none, 0, rfl, World.ownsRow_nil _ _ _ _, F1.below⟩
  · have F1 := F0.step hb1
    have HE := Lib.hid (pathP_ok hc ho)
    have HO := Lib.hid ho'
    have x14 := hw.c14
    clear hs hf hw ho' ha hc ho
    go_wp2
    go_ret2
    rw [HE.out]
    exact ⟨ta, tac, rfl, ownsRow_le HO.out (by simp; omega), F1.below⟩

end Go.Proofs.Ytbjdfgfebepacaa
