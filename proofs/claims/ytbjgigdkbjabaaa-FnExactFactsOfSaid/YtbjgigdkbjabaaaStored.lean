/- Stored: a box that is made among calls that make memory, and filled behind them. Holds under the premises that each statement names. -/
import Derived.Test.YtbjgigdkbjabaaaPos2
import Derived.Test.YtbjgigdkbjabaaaLap
import Derived.Test.YtbjgigdkbjabaaaSown
namespace Go.Proofs.Ytbjgigdkbjabaaa
set_option linter.unusedSimpArgs false
set_option linter.unusedVariables false
set_option linter.unnecessarySimpa false
open Go.RowKit Go.ChangeShapes Go.WideShapes Go.ChangeAt Go.Joins

/-- the first cells of block b, none of them frozen -/
def BoxF (b : Nat) (cs : List Value) : World → Prop := fun w => BoxP b cs w ∧ ∀ o, w.frozen? ⟨b, o, none⟩ = false
theorem BoxF.stab (b : Nat) (cs : List Value) : Stab b (b + 1) (BoxF b cs) := fun w w' h hk => ⟨BoxP.stab b cs w w' h.1 hk, fun o => (World.frozen?_of_block (w := w) (hk b (Nat.le_refl _) (by omega))).trans (h.2 o)⟩
theorem Fr.allocF {w0 w : World} {ls : List Res} (h : Fr w0 w ls) (cs : Array Value) (t : TypeId) : Fr w0 (w.alloc (.cells cs t)) (⟨w.heap.size, w.heap.size + 1, BoxF w.heap.size cs.toList⟩ :: ls) :=
  (h.step (below_alloc1 _ _)).add _ _ _ (BoxF.stab _ _) ⟨fun j v hv => by simpa using hv, fun o => by simp⟩ (by simp)
theorem Fr.chg0 {w0 w w' : World} {ls : List Res} (h : Fr w0 w ls) {lo hi : Nat} (hc : Chg lo hi w w') (hw : w0.heap.size ≤ lo) (hd : ∀ r ∈ ls, r.hi ≤ lo ∨ hi ≤ r.lo) : Fr w0 w' ls :=
  ⟨hc.below h.below hw, fun r hr => by
    obtain ⟨h1, h2, h3⟩ := h.res r hr
    have := hd r hr
    exact ⟨Nat.le_trans h1 hc.size, h2, h2 w w' h3 (fun k k1 k2 => hc.block k (by omega) (by omega))⟩⟩
theorem chg_set (w : World) (b o : Nat) (v : Value) : Chg b (b + 1) w (w.setCell ⟨b, o, none⟩ v) :=
  ⟨rfl, rfl, rfl, by simp, fun k hk hn => Below.heap_setCell _ _ _ k (by simp; omega)⟩
theorem Fr.stored4 {w0 w : World} {ls : List Res} (h : Fr w0 w ls) {nb : Nat} {v0 v1 v2 v3 u0 u1 u2 u3 : Value} (hw : w0.heap.size ≤ nb) (hd : ∀ r ∈ ls, r.hi ≤ nb ∨ nb + 1 ≤ r.lo)
    (x0 : w.cell? ⟨nb, 0, none⟩ = some u0) (x1 : w.cell? ⟨nb, 1, none⟩ = some u1) (x2 : w.cell? ⟨nb, 2, none⟩ = some u2) (x3 : w.cell? ⟨nb, 3, none⟩ = some u3) :
    Fr w0 ((((w.setCell ⟨nb, 0, none⟩ v0).setCell ⟨nb, 1, none⟩ v1).setCell ⟨nb, 2, none⟩ v2).setCell ⟨nb, 3, none⟩ v3) (⟨nb, nb + 1, BoxP nb [v0, v1, v2, v3]⟩ :: ls) := by
  have h1 := h.chg0 ((((chg_set w nb 0 v0).trans (chg_set _ nb 1 v1)).trans (chg_set _ nb 2 v2)).trans (chg_set _ nb 3 v3)) hw hd
  have hs : nb < w.heap.size := World.block_lt_of_cell? w _ x0
  refine h1.add _ _ _ (BoxP.stab _ _) (fun j v hv => ?_) (by simp; omega)
  match j, hv with
  | 0, hv => (simp at hv; subst hv; rw [cell_off (by omega), cell_off (by omega), cell_off (by omega)]; exact World.cell?_setCell_same _ _ _ x0)
  | 1, hv => (simp at hv; subst hv; rw [cell_off (by omega), cell_off (by omega)]; refine World.cell?_setCell_same _ _ (u := u1) _ ?_; rw [cell_off (by omega)]; exact x1)
  | 2, hv => (simp at hv; subst hv; rw [cell_off (by omega)]; refine World.cell?_setCell_same _ _ (u := u2) _ ?_; rw [cell_off (by omega), cell_off (by omega)]; exact x2)
  | 3, hv => (simp at hv; subst hv; refine World.cell?_setCell_same _ _ (u := u3) _ ?_; rw [cell_off (by omega), cell_off (by omega), cell_off (by omega)]; exact x3)

/-! ### PosR: positions that are made by a call: their marks; boxes that are filled later. Each fact holds under the premises that it states. -/
/-- a position and two numbers, out of a call -/
def PsRes (w : World) (y : P × Int × Int) (e : Ending) (w' : World) : Prop := ∃ A : A2, e = .returned (.tuple #[y.1.val A.pa A.pc A.sa A.sc, .int .i64 y.2.1, .int .i64 y.2.2]) ∧ POwn w' w.heap.size y.1 A.pa A.pc A.sa A.sc ∧ Below w.heap.size w w'
theorem Fr.stored3 {w0 w : World} {ls : List Res} (h : Fr w0 w ls) {nb : Nat} {v0 v1 v2 u0 u1 u2 : Value} (hw : w0.heap.size ≤ nb) (hd : ∀ r ∈ ls, r.hi ≤ nb ∨ nb + 1 ≤ r.lo)
    (x0 : w.cell? ⟨nb, 0, none⟩ = some u0) (x1 : w.cell? ⟨nb, 1, none⟩ = some u1) (x2 : w.cell? ⟨nb, 2, none⟩ = some u2) :
    Fr w0 (((w.setCell ⟨nb, 0, none⟩ v0).setCell ⟨nb, 1, none⟩ v1).setCell ⟨nb, 2, none⟩ v2) (⟨nb, nb + 1, BoxP nb [v0, v1, v2]⟩ :: ls) := by
  have h1 := h.chg0 (((chg_set w nb 0 v0).trans (chg_set _ nb 1 v1)).trans (chg_set _ nb 2 v2)) hw hd
  have hs : nb < w.heap.size := World.block_lt_of_cell? w _ x0
  refine h1.add _ _ _ (BoxP.stab _ _) (fun j v hv => ?_) (by simp; omega)
  match j, hv with
  | 0, hv => (simp at hv; subst hv; rw [cell_off (by omega), cell_off (by omega)]; exact World.cell?_setCell_same _ _ _ x0)
  | 1, hv => (simp at hv; subst hv; rw [cell_off (by omega)]; refine World.cell?_setCell_same _ _ (u := u1) _ ?_; rw [cell_off (by omega)]; exact x1)
  | 2, hv => (simp at hv; subst hv; refine World.cell?_setCell_same _ _ (u := u2) _ ?_; rw [cell_off (by omega), cell_off (by omega)]; exact x2)
/-- two rows that are marked -/
structure Mark2q (w : World) (base : Nat) (n m : Nat) (A : A2) (k : Int) : Prop where
  pits : w.ownsRow base 2 1 (.slice A.pa n A.pc) n ((marks k n).map (Value.int .i64))
  stores : w.ownsRow base 2 1 (.slice A.sa m A.sc) m ((marks (k + n) m).map (Value.int .i64))
def MarkQ (lo hi n m : Nat) (A : A2) (k : Int) : World → Prop := fun w => Mark2q w lo n m A k ∧ (∀ b, (Value.slice A.pa n A.pc).ownBlock = some b → b < hi) ∧ (∀ b, (Value.slice A.sa m A.sc).ownBlock = some b → b < hi)
theorem MarkQ.stab (lo hi n m : Nat) (A : A2) (k : Int) : Stab lo hi (MarkQ lo hi n m A k) :=
  fun w w' h hk => ⟨⟨own_stab (Nat.le_refl _) h.1.pits h.2.1 hk, own_stab (Nat.le_refl _) h.1.stores h.2.2 hk⟩, h.2⟩
theorem Fr.markQ {w0 w : World} {ls : List Res} (h : Fr w0 w ls) {lo n m : Nat} {A : A2} {k : Int} (hm : Mark2q w lo n m A k) : Fr w0 w (⟨lo, w.heap.size, MarkQ lo w.heap.size n m A k⟩ :: ls) :=
  h.add _ _ _ (MarkQ.stab _ _ _ _ _ _) ⟨hm, fun b hb => (hm.pits.lt b hb).2, fun b hb => (hm.stores.lt b hb).2⟩ (Nat.le_refl _)

set_option maxHeartbeats 2000000 in
theorem markPosition2_c (base hi : Nat) (y : P) (A : A2) (k : Int) (w : World) (h : POwn w base y A.pa A.pc A.sa A.sc) (h1 : ∀ b, (Value.slice A.pa y.pits.length A.pc).ownBlock = some b → b < hi) (h2 : ∀ b, (Value.slice A.sa y.stores.length A.sc).ownBlock = some b → b < hi)
    (hk : 0 ≤ k) (hk' : k + y.pits.length + y.stores.length ≤ 1099511627776) :
    Calls Try.prog 19 #[y.val A.pa A.pc A.sa A.sc, .int .i64 k] w fun e w' => e = .returned (.int .i64 (k + y.pits.length + y.stores.length)) ∧ Mark2q w' base y.pits.length y.stores.length A k ∧ Chg base hi w w' := by
  have F0 := (Fr.start w).alloc (y.cells A.pa A.pc A.sa A.sc) 30
  have hB := F0.at 0 rfl
  go_enter Try.func19, Try.ntmps19
  go_wp2_with fail
  refine (markInt64S_c base A.pa y.pits.length A.pc y.pits k _ (h.pits.alloc _) hk (by omega)).mono ?_
  rintro e w1 ⟨rfl, ho1, hg1⟩
  have hne : (Value.slice A.pa y.pits.length A.pc).ownBlock ≠ some w.heap.size := fun e => by have := (h.pits.lt _ e).2; omega
  have hB1 := BoxP.grown hB hg1 hne (by simp)
  have d1 : w1.cell? ⟨w.heap.size, 1, none⟩ = some (.slice A.sa y.stores.length A.sc) := hB1 1 _ rfl
  have hst := (h.stores.alloc (.cells (y.cells A.pa A.pc A.sa A.sc) 30)).kept hg1 (apart_symm h.apart)
  have C1 : Chg base hi w w1 := (Chg.ofBelow (below_alloc1 w _)).trans (Chg.ofGrown hg1 (fun b hb => ⟨(h.pits.lt b hb).1, h1 b hb⟩))
  have HC1 := Lib.hid C1
  have HO1 := Lib.hid ho1
  have zA : w.heap.size < w1.heap.size := by have := hg1.size; simp at this; omega
  clear ho1 hg1 hB hB1 F0 C1
  go_wp2_with fail
  refine (markInt64S_c base A.sa y.stores.length A.sc y.stores (k + y.pits.length) _ hst (by omega) (by omega)).mono ?_
  rintro e w2 ⟨rfl, ho2, hg2⟩
  have C2 := Lib.hid (HC1.out.trans (Chg.ofGrown hg2 (fun b hb => ⟨(h.stores.lt b hb).1, h2 b hb⟩)))
  have HO2 := Lib.hid ho2
  have HO3 := Lib.hid (HO1.out.kept hg2 h.apart)
  clear ho2 hg2 hst d1
  go_wp2
  go_ret
  exact ⟨rfl, ⟨HO3.out, HO2.out⟩, C2.out⟩

set_option maxHeartbeats 2000000 in
theorem heldPosition_c (y : P) (A : A2) (k : Int) (w : World) (hp : Ints w A.pa (marks k y.pits.length)) (hs : Ints w A.sa (marks (k + y.pits.length) y.stores.length)) (hk : 0 ≤ k) (hk' : k + y.pits.length + y.stores.length ≤ 1099511627776) :
    Calls Try.prog 21 #[y.val A.pa A.pc A.sa A.sc, .int .i64 k] w fun e w' => e = .returned (.int .i64 (k + y.pits.length + y.stores.length)) ∧ Below w.heap.size w w' := by
  go_enter Try.func21, Try.ntmps21
  go_wp2_with fail
  refine (heldInt64S_c A.pa y.pits.length A.pc k _ (hp.below (below_alloc1 _ _) (Nat.le_refl _)) hk (by omega)).mono ?_
  rintro e w1 ⟨rfl, rfl⟩
  go_wp2_with fail
  refine (heldInt64S_c A.sa y.stores.length A.sc (k + y.pits.length) _ (hs.below (below_alloc1 _ _) (Nat.le_refl _)) (by omega) (by omega)).mono ?_
  rintro e w1 ⟨rfl, rfl⟩
  go_wp2
  go_ret
  exact ⟨rfl, below_alloc1 _ _⟩


end Go.Proofs.Ytbjgigdkbjabaaa
