/- Tab7: rows of a table, sorted by the library's insertion sort. Each contract holds for every argument, under the premises that it states. -/
import Derived.Test.YtbjgigdkbjabaaaTab6
import Derived.Lib.ReflectliteSwap
namespace Go.Proofs.Ytbjgigdkbjabaaa
set_option linter.unusedSimpArgs false
set_option linter.unusedVariables false
set_option linter.unnecessarySimpa false
open Go.RowKit Go.ChangeShapes Go.WideShapes Go.ChangeAt Go.Joins

/-- the handle of the rows' type -/
noncomputable def rowH : Value := typeHandle Try.prog 84
@[reducible] noncomputable def swB (g n c : Nat) : Array Value := #[.slice (some ⟨g, 0, none⟩) n c, rowH]

theorem swapLit (args : Array Value) (w : World) : (callFunc 172 args).run Try.prog w = ((Extern.ReflectliteSwapper.swap false args).run Try.prog w).andThen fun v w' => .ok (.value v) w' :=
  run_callFunc_extern Try.func172 (by kernel_rfl) (by kernel_rfl) (by kernel_rfl) (by kernel_rfl) args w
theorem rowInfo : ∃ ie, Try.prog.info? 84 = some ie ∧ ie.size = 6 := by
  have h : (Try.prog.info? 84).map (·.size) = some 6 := by kernel_rfl
  obtain ⟨ie, h1, h2⟩ := Option.map_eq_some_iff.1 h
  exact ⟨ie, h1, h2⟩
theorem rowAgg (w : World) : (isAgg 84).run Try.prog w = .ok true w := by kernel_rfl
theorem rw_list {w : World} {lo hi g c : Nat} {l : List Rw} (h : PcsP lo hi (rwRL.pcs (some ⟨g, 0, none⟩) c l) w) {j : Nat} {x : Rw} (hx : l[j]? = some x) : ∀ k v, x.cells.toList[k]? = some v → w.cell? ⟨g, 0 + j * 6 + k, none⟩ = some v := by
  obtain ⟨q0, q1, q2, q3, q4, q5⟩ := rw_cells h hx
  intro k v hk
  rw [Nat.zero_add]
  match k, hk with
  | 0, hk => cases hk; exact q0
  | 1, hk => cases hk; exact q1
  | 2, hk => cases hk; exact q2
  | 3, hk => cases hk; exact q3
  | 4, hk => cases hk; exact q4
  | 5, hk => cases hk; exact q5
  | k + 6, hk => simp [Rw.cells] at hk
theorem swapR {w : World} {lo hi g c j k : Nat} {l : List Rw} {x y : Rw} (h : PcsP lo hi (rwRL.pcs (some ⟨g, 0, none⟩) c l) w) (hx : l[j]? = some x) (hy : l[k]? = some y) :
    (callFunc 172 (#[.int .i64 j, .int .i64 k] ++ swB g l.length c)).run Try.prog w = .ok (.value (.tuple #[])) ((w.setCells g (j * 6) y.cells.toList).setCells g (k * 6) x.cells.toList) := by
  obtain ⟨ie, h1, h2⟩ := rowInfo
  have gf := fun o => (RL.main h).frozenAt o
  have := Lib.run_swap_cells (P := Try.prog) false 84 ie h1 rowAgg g 0 l.length c j k (List.getElem?_eq_some_iff.1 hx).1 (List.getElem?_eq_some_iff.1 hy).1 x.cells.toList y.cells.toList (by rw [h2]; rfl) (by rw [h2]; rfl) (by intro v hv; simp [Rw.cells] at hv; rcases hv with rfl | rfl | rfl | rfl | rfl | rfl <;> rfl) (by intro v hv; simp [Rw.cells] at hv; rcases hv with rfl | rfl | rfl | rfl | rfl | rfl <;> rfl) w (by rw [h2]; exact rw_list h hx) (by rw [h2]; exact rw_list h hy) (fun k _ => gf _) (fun k _ => gf _)
  rw [h2, Nat.zero_add, Nat.zero_add] at this
  rw [swapLit, show (#[Value.int .i64 (j : Int), Value.int .i64 (k : Int)] ++ swB g l.length c) = #[.int .i64 j, .int .i64 k, .slice (some ⟨g, 0, none⟩) l.length c, typeHandle Try.prog 84] from rfl, this]
  rfl

theorem setCells_other {g b o' : Nat} (h : ¬ b = g) : ∀ (vs : List Value) (o : Nat) (w : World), (w.setCells g o vs).cell? ⟨b, o', none⟩ = w.cell? ⟨b, o', none⟩
  | [], _, _ => rfl
  | v :: r, o, w => by
    rw [World.setCells, setCells_other h r (o + 1), cell_other h]
theorem RsSt.swap {w : World} {lo hi ob g c j k : Nat} {l : List Rw} (h : RsSt w lo hi ob g c l) (hj : j < l.length) (hk : k < l.length) (x y : Rw) :
    RsSt ((w.setCells g (j * 6) y.cells.toList).setCells g (k * 6) x.cells.toList) lo hi ob g c ((l.set j y).set k x) ∧ Chg lo hi w ((w.setCells g (j * 6) y.cells.toList).setCells g (k * 6) x.cells.toList) := by
  obtain ⟨h1, g1⟩ := rw_store h.pc hj y
  obtain ⟨h2, g2⟩ := rw_store h1 (k := k) (by rw [List.length_set]; exact hk) x
  refine ⟨⟨?_, h2, h.ne⟩, g1.trans g2⟩
  rw [setCells_other h.ne, setCells_other h.ne, List.length_set, List.length_set]
  exact h.c0
theorem srt_one {l : List Rw} (h : 1 ≤ l.length) : srtR (l.take 1) ++ l.drop 1 = l := by
  cases l with
  | nil => simp at h
  | cons x r => simp [srtR, insR, posGo]
theorem posGo_yes {x : Rw} {S : List Rw} {j : Nat} (hj : j < S.length) (h : betterR x S[j] = true) : posGo x S (j + 1) = posGo x S j := by
  conv => lhs; unfold posGo
  rw [List.getD_eq_getElem?_getD, List.getElem?_eq_getElem hj, Option.getD_some, if_pos h]
theorem posGo_no {x : Rw} {S : List Rw} {j : Nat} (hj : j < S.length) (h : betterR x S[j] = false) : posGo x S (j + 1) = j + 1 := by
  conv => lhs; unfold posGo
  rw [List.getD_eq_getElem?_getD, List.getElem?_eq_getElem hj, Option.getD_some, if_neg (by rw [h]; simp)]

end Go.Proofs.Ytbjgigdkbjabaaa
