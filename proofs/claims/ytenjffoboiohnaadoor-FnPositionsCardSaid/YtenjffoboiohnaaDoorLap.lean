/- Lap: a lap is sown: the reference's function. The contract holds for every argument, under the premises that it states. -/
import Derived.Test.YtenjffoboiohnaaDoorSow
import Derived.Test.YtenjffoboiohnaaDoorFrame
import Derived.Test.YtenjffoboiohnaaDoorCopy
import Derived.Outline
namespace Go.Proofs.YtenjffoboiohnaaDoor
set_option linter.unusedSimpArgs false
set_option linter.unusedVariables false
set_option linter.unnecessarySimpa false
open Go.RowKit Go.ChangeShapes Go.WideShapes Go.ChangeAt Go.Joins

/-- what is sown, in memory: the block of its fields and the rows of its pits and stores -/
structure SnI (base : Nat) (w : World) (nb no pg pc sg sc : Nat) (pits stores : List Int) : Prop where
  c0 : w.cell? ⟨nb, no, none⟩ = some (.slice (some ⟨pg, 0, none⟩) pits.length pc)
  c1 : w.cell? ⟨nb, no + 1, none⟩ = some (.slice (some ⟨sg, 0, none⟩) stores.length sc)
  op : OwnI w base (some ⟨pg, 0, none⟩) pc pits
  os : OwnI w base (some ⟨sg, 0, none⟩) sc stores
  nb0 : base ≤ nb
  n1 : ¬ pg = sg
  n2 : ¬ pg = nb
  n3 : ¬ sg = nb
theorem own_head {w : World} {base c : Nat} {g : Nat} {xs : List Int} (h : OwnI w base (some ⟨g, 0, none⟩) c xs) : base ≤ g ∧ g < w.heap.size := h.lt g rfl
theorem SnI.lt {base : Nat} {w : World} {nb no pg pc sg sc : Nat} {pits stores : List Int} (h : SnI base w nb no pg pc sg sc pits stores) : nb < w.heap.size := World.block_lt_of_cell? w _ h.c0
theorem SnI.grown {base : Nat} {w w' : World} {nb no pg pc sg sc : Nat} {pits stores : List Int} {row : Option Nat} (h : SnI base w nb no pg pc sg sc pits stores) (hg : w.grownBy w' row) (h1 : row ≠ some nb) (h2 : row ≠ some pg) (h3 : row ≠ some sg) :
    SnI base w' nb no pg pc sg sc pits stores :=
  ⟨cell_stab h.c0 (hg.block nb h.lt (fun e => h1 e.symm)), cell_stab h.c1 (hg.block nb h.lt (fun e => h1 e.symm)), h.op.kept hg (.inr (fun e => h2 e.symm)), h.os.kept hg (.inr (fun e => h3 e.symm)), h.nb0, h.n1, h.n2, h.n3⟩
theorem SnI.below {base : Nat} {w w' : World} {nb no pg pc sg sc : Nat} {pits stores : List Int} (h : SnI base w nb no pg pc sg sc pits stores) (hb : Below w.heap.size w w') : SnI base w' nb no pg pc sg sc pits stores :=
  h.grown (grown_below hb none) (by simp) (by simp) (by simp)
theorem SnI.pit {base : Nat} {w : World} {nb no pg pc sg sc : Nat} {pits stores : List Int} (h : SnI base w nb no pg pc sg sc pits stores) (i : Nat) (v : Int) : SnI base (w.setCell ⟨pg, i, none⟩ (.int .i64 v)) nb no pg pc sg sc (pits.set i v) stores := by
  have hst := h.op.stored i (.int .i64 v)
  refine ⟨?_, ?_, ?_, ?_, h.nb0, h.n1, h.n2, h.n3⟩
  · rw [cell_other (fun e => h.n2 e.symm), List.length_set]; exact h.c0
  · rw [cell_other (fun e => h.n2 e.symm)]; exact h.c1
  · have := hst.1
    rw [← List.map_set] at this
    simpa [OwnI] using this
  · exact h.os.kept hst.2 (.inr (fun e => by simp [Value.ownBlock] at e; exact h.n1 e.symm))
theorem SnI.sto {base : Nat} {w : World} {nb no pg pc sg sc : Nat} {pits stores : List Int} (h : SnI base w nb no pg pc sg sc pits stores) (i : Nat) (v : Int) : SnI base (w.setCell ⟨sg, i, none⟩ (.int .i64 v)) nb no pg pc sg sc pits (stores.set i v) := by
  have hst := h.os.stored i (.int .i64 v)
  refine ⟨?_, ?_, ?_, ?_, h.nb0, h.n1, h.n2, h.n3⟩
  · rw [cell_other (fun e => h.n3 e.symm)]; exact h.c0
  · rw [cell_other (fun e => h.n3 e.symm), List.length_set]; exact h.c1
  · exact h.op.kept hst.2 (.inr (fun e => by simp [Value.ownBlock] at e; exact h.n1 e))
  · have := hst.1
    rw [← List.map_set] at this
    simpa [OwnI] using this

/-- the path's row lies apart -/
def TAp (ta : Option Addr) (n tc : Nat) (nb pg sg : Nat) : Prop := ∀ k, (Value.slice ta n tc).ownBlock = some k → ¬ k = nb ∧ ¬ k = pg ∧ ¬ k = sg
def bdL (l : List Int) (m : Int) : Prop := ∀ n ∈ l, 0 ≤ n ∧ n ≤ m
theorem bdL_get {l : List Int} {m : Int} (h : bdL l m) {i : Nat} (hi : i < l.length) : 0 ≤ l[i] ∧ l[i] ≤ m := h _ (List.getElem_mem hi)
theorem bdL_mono {l : List Int} {m m' : Int} (h : bdL l m) (hm : m ≤ m') : bdL l m' := fun n hn => ⟨(h n hn).1, Int.le_trans (h n hn).2 hm⟩
theorem bdL_set {l : List Int} {m : Int} (h : bdL l m) (i : Nat) {v : Int} (h0 : 0 ≤ v) (h1 : v ≤ m) : bdL (l.set i v) m := fun n hn => by
  rcases List.mem_or_eq_of_mem_set hn with hn | rfl
  · exact h n hn
  · exact ⟨h0, h1⟩
theorem bump_eq {l : List Int} {i : Nat} (hi : i < l.length) : bump l (i : Int) = l.set i (l[i] + 1) := by simp [bump, hi]
theorem infoI' : (Tryd.prog.info? 2).map (fun i => (i.zero, i.size, i.bytes)) = some (some (.int .i64 0), 1, 8) := by kernel_rfl

theorem cell_off {w : World} {g o o' : Nat} {v : Value} (h : ¬ o' = o) : (w.setCell ⟨g, o, none⟩ v).cell? ⟨g, o', none⟩ = w.cell? ⟨g, o', none⟩ := by
  apply World.cell?_setCell_other
  intro e
  cases e
  exact h rfl
/-- the last place and the laps, in memory -/
structure Fld (w : World) (nb no : Nat) (last laps : Int) : Prop where
  c2 : w.cell? ⟨nb, no + 2, none⟩ = some (.int .i64 last)
  c3 : w.cell? ⟨nb, no + 3, none⟩ = some (.int .i64 laps)
  fz : ∀ o, w.frozen? ⟨nb, o, none⟩ = false
theorem Fld.grown {w w' : World} {nb no : Nat} {last laps : Int} {row : Option Nat} (h : Fld w nb no last laps) (hg : w.grownBy w' row) (h1 : row ≠ some nb) (hl : nb < w.heap.size) : Fld w' nb no last laps := by
  have e := hg.block nb hl (fun e => h1 e.symm)
  exact ⟨cell_stab h.c2 e, cell_stab h.c3 e, fun o => (World.frozen?_of_block (w := w) e).trans (h.fz o)⟩
theorem Fld.other {w : World} {nb no : Nat} {last laps : Int} (h : Fld w nb no last laps) {g i : Nat} (hg : ¬ nb = g) (v : Value) : Fld (w.setCell ⟨g, i, none⟩ v) nb no last laps :=
  ⟨(cell_other hg).trans h.c2, (cell_other hg).trans h.c3, fun o => by simpa using h.fz o⟩
theorem Fld.alloc {w : World} {nb no : Nat} {last laps : Int} (h : Fld w nb no last laps) (hl : nb < w.heap.size) (o : Obj) : Fld (w.alloc o) nb no last laps := h.grown (grown_below ((Below.refl _ _).alloc (Nat.le_refl _) o) none) (by simp) hl
theorem SnI.fld {base : Nat} {w : World} {nb no pg pc sg sc : Nat} {pits stores : List Int} (h : SnI base w nb no pg pc sg sc pits stores) (j : Nat) (v : Value) (hj : no + 2 ≤ j) : SnI base (w.setCell ⟨nb, j, none⟩ v) nb no pg pc sg sc pits stores := by
  have e : ∀ o, ¬ o = j → (w.setCell ⟨nb, j, none⟩ v).cell? ⟨nb, o, none⟩ = w.cell? ⟨nb, o, none⟩ := fun o ho => by
    apply World.cell?_setCell_other
    intro e
    cases e
    exact ho rfl
  refine ⟨?_, ?_, ?_, ?_, h.nb0, h.n1, h.n2, h.n3⟩
  · rw [e _ (by omega)]; exact h.c0
  · rw [e _ (by omega)]; exact h.c1
  · exact ownsRow_setCell_other h.op (fun e => by simp [Value.ownBlock] at e; exact h.n2 e) v
  · exact ownsRow_setCell_other h.os (fun e => by simp [Value.ownBlock] at e; exact h.n3 e) v
/-- a round of a lap -/
structure LapSt (base : Nat) (w wr : World) (nb no pg pc sg sc : Nat) (r : R) (pn fn : Nat) (L : Lap) (len : Nat) (n : Nat) (pl : Int) (P S T : List Int) (ta : Option Addr) (tc : Nat) : Prop where
  ok : PlaceOk r pl
  go : lapGo r pn fn n pl P S T = L
  n1 : n ≤ 1000000
  bp : bdL P (2000000 - n)
  bs : bdL S (2000000 - n)
  pt : T.length + n ≤ 1001000000
  lp : P.length = len
  ls : S.length = 2
  sn : SnI base wr nb no pg pc sg sc P S
  ow : OwnI wr base ta tc T
  ap : TAp ta T.length tc nb pg sg
  bl : Below base w wr

theorem LapSt.next {base : Nat} {w wr w1 w4 : World} {nb no pg pc sg sc : Nat} {r : R} {pn fn : Nat} {L : Lap} {len m : Nat} {pl q : Int} {P S T P' S' : List Int} {ta ad' : Option Addr} {tc c' : Nat} {cs : Array Value} {e : TypeId}
    (h : LapSt base w wr nb no pg pc sg sc r pn fn L len (m + 1) pl P S T ta tc) (hsn : SnI base w1 nb no pg pc sg sc P' S') (hsz : w1.heap.size = wr.heap.size) (hw1 : Below base w w1)
    (hgo : lapGo r pn fn m q P' S' (T ++ [q]) = L) (hq : PlaceOk r q) (bp' : bdL P' (2000000 - m)) (bs' : bdL S' (2000000 - m)) (lp' : P'.length = len) (ls' : S'.length = 2)
    (hg4 : (w1.alloc (.cells cs e)).grownBy w4 (Value.slice ta T.length tc).ownBlock) (hn4 : ∀ k, (Value.slice ad' (T.length + 1) c').ownBlock = some k → (Value.slice ta T.length tc).ownBlock = some k ∨ wr.heap.size + 1 ≤ k)
    (how : OwnI w1 base ta tc T) (hown4 : w4.ownsRow base 2 1 (.slice ad' (T.length + 1) c') (T.length + 1) (T.map (Value.int .i64) ++ [.int .i64 q])) :
    LapSt base w w4 nb no pg pc sg sc r pn fn L len m q P' S' (T ++ [q]) ad' c' := by
  have hnb := hsn.lt
  have hp := own_head hsn.op
  have hs := own_head hsn.os
  refine ⟨hq, hgo, by have := h.n1; omega, bp', bs', by have := h.pt; simp; omega, lp', ls', ?_, by simpa [OwnI] using hown4, ?_, ?_⟩
  · exact (hsn.below (below_alloc1 _ _)).grown hg4 (fun e => (h.ap _ e).1 rfl) (fun e => (h.ap _ e).2.1 rfl) (fun e => (h.ap _ e).2.2 rfl)
  · intro k hk
    simp only [List.length_append, List.length_cons, List.length_nil] at hk
    rcases hn4 k hk with h1 | h1
    · exact h.ap k h1
    · omega
  · exact (hw1.alloc (by have := hsn.nb0; omega) _).grown hg4 (by have := hsn.nb0; simp; omega) (fun k hk => (how.lt k hk).1)
theorem Fld.next {wr w1 w4 : World} {nb no : Nat} {last laps : Int} {row : Option Nat} {cs : Array Value} {e : TypeId} (h : Fld w1 nb no last laps) (hl : nb < w1.heap.size) (hg4 : (w1.alloc (.cells cs e)).grownBy w4 row) (hr : row ≠ some nb) : Fld w4 nb no last laps :=
  (h.alloc hl _).grown hg4 hr (by simp; omega)

theorem meas {c d : Prop} [Decidable c] [Decidable d] {n : Nat} (h : 0 < n) : (2 * (n - 1) + if c then 0 else 1) < 2 * n + if d then 0 else 1 := by
  split <;> split <;> omega

end Go.Proofs.YtenjffoboiohnaaDoor
