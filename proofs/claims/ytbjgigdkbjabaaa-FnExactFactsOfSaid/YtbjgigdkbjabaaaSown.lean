/- Sown: what is sown, as a value: the laws' own functions on it, and the contracts of both sides of SowMove. Each holds for every argument, under the premises that it states. -/
import Derived.Test.YtbjgigdkbjabaaaPath
import Derived.Test.YtbjgigdkbjabaaaPos2
namespace Go.Proofs.Ytbjgigdkbjabaaa
set_option linter.unusedSimpArgs false
set_option linter.unusedVariables false
set_option linter.unnecessarySimpa false
open Go.RowKit Go.ChangeShapes Go.WideShapes Go.ChangeAt Go.Joins

structure Sn where
  pits : List Int
  stores : List Int
  last : Int
  laps : Int
  deriving DecidableEq
structure A2 where
  pa : Option Addr
  pc : Nat
  sa : Option Addr
  sc : Nat
@[go_sem] def Sn.cells (y : Sn) (A : A2) : Array Value := #[.slice A.pa y.pits.length A.pc, .slice A.sa y.stores.length A.sc, .int .i64 y.last, .int .i64 y.laps]
@[go_sem] def Sn.val (y : Sn) (A : A2) : Value := .agg (y.cells A)
def Sn.zero : Sn := ⟨[], [], 0, 0⟩
@[reducible] def Sn.pos (y : Sn) : P := ⟨y.pits, y.stores, 0⟩
def A2.none : A2 := ⟨Option.none, 0, Option.none, 0⟩
/-- what is sown, and a code -/
def SnRes (w : World) (y : Sn × Int) (e : Ending) (w' : World) : Prop := ∃ A, e = .returned (.tuple #[y.1.val A, .int .i64 y.2]) ∧ POwn w' w.heap.size y.1.pos A.pa A.pc A.sa A.sc ∧ Below w.heap.size w w'
theorem POwn.nil (w : World) (base : Nat) : POwn w base Sn.zero.pos A2.none.pa A2.none.pc A2.none.sa A2.none.sc := ⟨World.ownsRow_nil _ _ _ _, World.ownsRow_nil _ _ _ _, .inl rfl⟩

theorem SowM.below {w w' : World} {r : R} {pn : Nat} {c : Int} {o : Option (Lap × Int)} {e : Ending} (h : SowM w r pn c o e w') : Below w.heap.size w w' := by
  rcases h with ⟨_, _, _, _, hb⟩ | ⟨_, _, _, _, _, _, _, _, _, _, _, _, _, _, _, _, _, hb⟩ <;> exact hb
theorem SowK.below {w w' : World} {c : Int} {o : Option (Lap × Int)} {e : Ending} (h : SowK w c o e w') : Below w.heap.size w w' := by
  rcases h with ⟨_, _, _, _, hb⟩ | ⟨_, _, _, _, _, _, _, _, _, _, _, _, _, hb⟩ <;> exact hb
def moveP (r : R) (p : P) (move : Int) : Sn × Int :=
  if codeP r p move = 0 then (match sowP r p.player (p.player * r.pits + move) p.pits p.stores with | none => (Sn.zero, 10) | some (L, n) => (⟨L.pits, L.stores, L.last, n⟩, 0)) else (Sn.zero, codeP r p move)
theorem moveP_bad {r : R} {p : P} {move c : Int} (hc : ¬ c = 0) (h : c = codeP r p move ∨ codeP r p move = 0 ∧ sowP r p.player (p.player * r.pits + move) p.pits p.stores = none ∧ c = 10) : moveP r p move = (Sn.zero, c) := by
  unfold moveP
  rcases h with rfl | ⟨h1, h2, rfl⟩
  · rw [if_neg hc]
  · rw [if_pos h1, h2]
theorem moveP_ok {r : R} {p : P} {move n : Int} {L : Lap} (h1 : codeP r p move = 0) (h2 : sowP r p.player (p.player * r.pits + move) p.pits p.stores = some (L, n)) : moveP r p move = (⟨L.pits, L.stores, L.last, n⟩, 0) := by
  unfold moveP
  rw [if_pos h1, h2]
theorem moveP_len (r : R) (p : P) (move : Int) : (moveP r p move).1.pits.length ≤ 16 ∧ (moveP r p move).1.stores.length ≤ 2 := by
  unfold moveP
  split
  · rename_i hc
    cases hs : sowP r p.player (p.player * r.pits + move) p.pits p.stores with
    | none => simp [Sn.zero]
    | some x =>
      obtain ⟨L, n⟩ := x
      obtain ⟨hok, mv, hnz⟩ := codeP_zero hc
      obtain ⟨hbd, ⟨pn, hpn, hpn1⟩, t, hB, ht0, ht1⟩ := P.ok_parts hok
      obtain ⟨fn, hfn, hfl⟩ := from_ok hok mv
      rw [hfn] at hs
      obtain ⟨k1, k2, k3⟩ := lapP_brd hbd p.player fn (by omega) p.pits p.stores [] t hB hfl
      obtain ⟨j1, j2, j3, j4, j5⟩ := sowGo_brd hbd p.player (by omega) 99 _ L n k1 k3 hs
      have := j1.lp
      have := j1.ls
      have := hbd.hi
      simp
      omega
  · simp [Sn.zero]

end Go.Proofs.Ytbjgigdkbjabaaa
