/- Sown: what is sown, as a value: the laws' own functions on it, and the contracts of both sides of SowMove. Each holds for every argument, under the premises that it states. -/
import Derived.Test.YtbjdfgfebepacaaPath
import Derived.Test.YtbjdfgfebepacaaPos2
namespace Go.Proofs.Ytbjdfgfebepacaa
set_option linter.unusedSimpArgs false
set_option linter.unusedVariables false
set_option linter.unnecessarySimpa false
open Go.RowKit Go.ChangeShapes Go.WideShapes Go.ChangeAt Go.Joins

structure Sn where
  pits : List Int
  stores : List Int
  last : Int
  laps : Int
  deriving DecidableEq
structure A2 where
  pa : Option Addr
  pc : Nat
  sa : Option Addr
  sc : Nat
@[go_sem] def Sn.cells (y : Sn) (A : A2) : Array Value := #[.slice A.pa y.pits.length A.pc, .slice A.sa y.stores.length A.sc, .int .i64 y.last, .int .i64 y.laps]
@[go_sem] def Sn.val (y : Sn) (A : A2) : Value := .agg (y.cells A)
def Sn.zero : Sn := ⟨[], [], 0, 0⟩
@[reducible] def Sn.pos (y : Sn) : P := ⟨y.pits, y.stores, 0⟩
def A2.none : A2 := ⟨Option.none, 0, Option.none, 0⟩
/-- what is sown, and a code -/
def SnRes (w : World) (y : Sn × Int) (e : Ending) (w' : World) : Prop := ∃ A, e = .returned (.tuple #[y.1.val A, .int .i64 y.2]) ∧ POwn w' w.heap.size y.1.pos A.pa A.pc A.sa A.sc ∧ Below w.heap.size w w'
theorem POwn.nil (w : World) (base : Nat) : POwn w base Sn.zero.pos A2.none.pa A2.none.pc A2.none.sa A2.none.sc := ⟨World.ownsRow_nil _ _ _ _, World.ownsRow_nil _ _ _ _, .inl rfl⟩

theorem SowM.below {w w' : World} {r : R} {pn : Nat} {c : Int} {o : Option (Lap × Int)} {e : Ending} (h : SowM w r pn c o e w') : Below w.heap.size w w' := by
  rcases h with ⟨_, _, _, _, hb⟩ | ⟨_, _, _, _, _, _, _, _, _, _, _, _, _, _, _, _, _, hb⟩ <;> exact hb
theorem SowK.below {w w' : World} {c : Int} {o : Option (Lap × Int)} {e : Ending} (h : SowK w c o e w') : Below w.heap.size w w' := by
  rcases h with ⟨_, _, _, _, hb⟩ | ⟨_, _, _, _, _, _, _, _, _, _, _, _, _, hb⟩ <;> exact hb
def moveP (r : R) (p : P) (move : Int) : Sn × Int :=
  if codeP r p move = 0 then (match sowP r p.player (p.player * r.pits + move) p.pits p.stores with | none => (Sn.zero, 10) | some (L, n) => (⟨L.pits, L.stores, L.last, n⟩, 0)) else (Sn.zero, codeP r p move)
theorem moveP_bad {r : R} {p : P} {move c : Int} (hc : ¬ c = 0) (h : c = codeP r p move ∨ codeP r p move = 0 ∧ sowP r p.player (p.player * r.pits + move) p.pits p.stores = none ∧ c = 10) : moveP r p move = (Sn.zero, c) := by
  unfold moveP
  rcases h with rfl | ⟨h1, h2, rfl⟩
  · rw [if_neg hc]
  · rw [if_pos h1, h2]
theorem moveP_ok {r : R} {p : P} {move n : Int} {L : Lap} (h1 : codeP r p move = 0) (h2 : sowP r p.player (p.player * r.pits + move) p.pits p.stores = some (L, n)) : moveP r p move = (⟨L.pits, L.stores, L.last, n⟩, 0) := by
  unfold moveP
  rw [if_pos h1, h2]
theorem moveP_len (r : R) (p : P) (move : Int) : (moveP r p move).1.pits.length ≤ 16 ∧ (moveP r p move).1.stores.length ≤ 2 := by
  unfold moveP
  split
  · rename_i hc
    cases hs : sowP r p.player (p.player * r.pits + move) p.pits p.stores with
    | none => simp [Sn.zero]
    | some x =>
      obtain ⟨L, n⟩ := x
      obtain ⟨hok, mv, hnz⟩ := codeP_zero hc
      obtain ⟨hbd, ⟨pn, hpn, hpn1⟩, t, hB, ht0, ht1⟩ := P.ok_parts hok
      obtain ⟨fn, hfn, hfl⟩ := from_ok hok mv
      rw [hfn] at hs
      obtain ⟨k1, k2, k3⟩ := lapP_brd hbd p.player fn (by omega) p.pits p.stores [] t hB hfl
      obtain ⟨j1, j2, j3, j4, j5⟩ := sowGo_brd hbd p.player (by omega) 99 _ L n k1 k3 hs
      have := j1.lp
      have := j1.ls
      have := hbd.hi
      simp
      omega
  · simp [Sn.zero]

set_option maxRecDepth 100000 in
set_option maxHeartbeats 4000000 in
theorem iSowMove_c (r : R) (p : P) (move : Int) (pa sa : Option Addr) (pc sc : Nat) (w : World) (h : PRow w p pa sa) (m1 : p.pits.length ≤ 16777216) (m2 : p.stores.length ≤ 16777216) :
    Calls Try.prog 54 #[r.val, p.val pa pc sa sc, .int .i64 move] w (SnRes w (moveP r p move)) := by
  have F0 := (((Fr.start w).alloc r.cells 25).alloc (p.cells pa pc sa sc) 67).alloc #[.slice none 0 0, .slice none 0 0, .int .i64 0, .int .i64 0] 72
  have g0 : ∀ o, (((w.alloc (.cells r.cells 25)).alloc (.cells (p.cells pa pc sa sc) 67)).alloc (.cells #[.slice none 0 0, .slice none 0 0, .int .i64 0, .int .i64 0] 72)).frozen? ⟨w.heap.size + 1 + 1, o, none⟩ = false := by intro o; simp [go_sem]
  go_enter Try.func54, Try.ntmps54
  go_wp2_with fail
  refine (sowMove_c r p move pa sa pc sc _ (h.below F0.below (Nat.le_refl _)) m1 m2).mono ?_
  rintro e w1 hsm
  have hb1 := SowM.below hsm
  have F1 := F0.step hb1
  have hfz : ∀ o, w1.frozen? ⟨w.heap.size + 1 + 1, o, none⟩ = false := fun o => ((bcell hb1).2 _ o (by simp)).trans (g0 o)
  obtain ⟨x0, x1, x2, x3⟩ := (⟨F1.at 0 rfl 0 _ rfl, F1.at 0 rfl 1 _ rfl, F1.at 0 rfl 2 _ rfl, F1.at 0 rfl 3 _ rfl⟩ : _ ∧ _ ∧ _ ∧ _)
  simp only [World.size_alloc] at x0 x1 x2 x3
  have zC : w.heap.size + 1 + 1 < w1.heap.size := by have := F1.le 0 rfl; simp at this; omega
  have B1 := F1.below
  clear F0 F1 g0 hb1
  rcases hsm with ⟨c, hc, hor, rfl, _⟩ | ⟨L, n, sb, pg, qc, sg, tc, ta, tac, hc, ho, rfl, hs, hf, hw, ho', ha, _⟩
  · have HE := Lib.hid (moveP_bad hc hor)
    have hc1 : (c != 0) = true := by simpa using hc
    clear hor hc
    go_wp2_with fail
    refine bodyPost_ret (v := .tuple #[Sn.zero.val A2.none, .int .i64 c]) (by simp [results, Try.results54, go_sem, x0, x1, x2, x3, hfz, Sn.zero, A2.none]) rfl ?_
    rw [HE.out]
    refine ⟨A2.none, rfl, POwn.nil _ _, ?_⟩
    repeat (first | (with_reducible exact B1) | ((with_reducible refine Below.setCell ?_ ?_ _); rotate_left; (simp <;> omega)))
  · have HE := Lib.hid (moveP_ok hc ho)
    obtain ⟨k0, k1, k2, k3⟩ := (⟨hs.c0, hs.c1, hf.c2, hf.c3⟩ : _ ∧ _ ∧ _ ∧ _)
    simp only [Nat.reduceAdd] at k0 k1 k2 k3
    have n1 : ¬ sb = w.heap.size + 1 + 1 := by have := hs.nb0; simp at this; omega
    have n2 : ¬ w.heap.size + 1 + 1 = sb := fun e => n1 e.symm
    have HS := Lib.hid hs
    clear hs hf hw ho' ha hc ho
    go_wp2_with fail
    refine bodyPost_ret (v := .tuple #[(⟨L.pits, L.stores, L.last, n⟩ : Sn).val ⟨some ⟨pg, 0, none⟩, qc, some ⟨sg, 0, none⟩, tc⟩, .int .i64 0]) (by simp [results, Try.results54, go_sem, x0, x1, x2, x3, hfz]) rfl ?_
    rw [HE.out]
    refine ⟨⟨some ⟨pg, 0, none⟩, qc, some ⟨sg, 0, none⟩, tc⟩, rfl, ⟨?_, ?_, .inr (by simp [Value.ownBlock]; exact HS.out.n1)⟩, ?_⟩
    · have k0 := HS.out.op
      simp only [World.size_alloc] at k0
      refine ownsRow_le (base := w.heap.size + 1 + 1 + 1) ?_ (by omega)
      repeat (first | (with_reducible exact k0) | ((with_reducible refine ownsRow_setCell_below ?_ ?_ _); rotate_left; (simp <;> omega)))
    · have k0 := HS.out.os
      simp only [World.size_alloc] at k0
      refine ownsRow_le (base := w.heap.size + 1 + 1 + 1) ?_ (by omega)
      repeat (first | (with_reducible exact k0) | ((with_reducible refine ownsRow_setCell_below ?_ ?_ _); rotate_left; (simp <;> omega)))
    · repeat (first | (with_reducible exact B1) | ((with_reducible refine Below.setCell ?_ ?_ _); rotate_left; (simp <;> omega)))

end Go.Proofs.Ytbjdfgfebepacaa
