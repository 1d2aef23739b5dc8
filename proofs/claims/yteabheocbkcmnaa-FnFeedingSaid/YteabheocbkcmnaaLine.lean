/- Line: the value of a line of moves: both functions. Each contract holds for every argument, under the premises that it states. -/
import Derived.Test.YteabheocbkcmnaaGreed
import Derived.Test.YteabheocbkcmnaaStored
namespace Go.Proofs.Yteabheocbkcmnaa
set_option linter.unusedSimpArgs false
set_option linter.unusedVariables false
set_option linter.unnecessarySimpa false
open Go.RowKit Go.ChangeShapes Go.WideShapes Go.ChangeAt Go.Joins

def lineGo (r : R) (pl : Int) : P → Int → List Int → Int × Int
  | _, s, [] => (s, 0)
  | q, s, m :: ms => if (makeP r q m).code = 0 then lineGo r pl ⟨(makeP r q m).pits, (makeP r q m).stores, (makeP r q m).player⟩ (if q.player = pl then s + (makeP r q m).gain else s - (makeP r q m).gain) ms else (0, (makeP r q m).code)
def lineP (r : R) (p : P) (ms : List Int) : Int × Int := if p.ok r = true then (if ms.length > 8 then (0, 2) else lineGo r p.player p 0 ms) else (0, 1)
theorem makeP_gain {r : R} {q : P} {m : Int} (h : (makeP r q m).code = 0) : 0 ≤ (makeP r q m).gain ∧ (makeP r q m).gain ≤ 2000 ∧ (makeP r q m).pits.length ≤ 16777216 ∧ (makeP r q m).stores.length ≤ 16777216 := by
  have hd : (doneP r q m).code = 0 := by rw [← makeP_code]; exact h
  have h1 := doneP_gain hd q.player.toNat
  obtain ⟨f1, f2, f3, f4, f5⟩ := doneP_facts hd
  have h3 := f3 q.player.toNat
  have h4 := f4 q.player.toNat
  rw [makeP_ok hd]
  simp only
  omega
/-- a row that doesn't lie in block B -/
def RowN (B : Nat) (w : World) (a : Option Addr) (xs : List Int) : Prop := Ints w a xs ∧ ∀ b o t, a = some ⟨b, o, t⟩ → ¬ b = B
theorem RowN.below {B C : Nat} {w w' : World} {a : Option Addr} {xs : List Int} (h : RowN B w a xs) (hb : Below C w w') (hC : w.heap.size ≤ C) : RowN B w' a xs := ⟨h.1.below hb hC, h.2⟩
theorem RowN.set {B : Nat} {w : World} {a : Option Addr} {xs : List Int} (h : RowN B w a xs) (i : Nat) (v : Value) : RowN B (w.setCell ⟨B, i, none⟩ v) a xs := by
  refine ⟨fun j u hu => ?_, h.2⟩
  obtain ⟨b, o, ha, hc⟩ := h.1 j u hu
  refine ⟨b, o, ha, ?_⟩
  rw [World.cell?_setCell_other]
  · exact hc
  · intro e; cases e; exact h.2 _ _ _ ha rfl
theorem own_rowN {B base : Nat} {w : World} {c : Nat} {a : Option Addr} {xs : List Int} (h : OwnI w base a c xs) (hb : B < base) : RowN B w a xs := by
  refine ⟨own_row h, fun b o t ha e => ?_⟩
  subst ha
  have := (h.lt b rfl).1
  omega
theorem arg_rowN {B : Nat} {w : World} {a : Option Addr} {xs : List Int} (h : Ints w a xs) (hx : 0 < xs.length) (hB : w.heap.size ≤ B) : RowN B w a xs := by
  obtain ⟨b, o, rfl, hb, _⟩ := Ints.open h hx
  refine ⟨h, fun b' o' t ha e => ?_⟩
  cases ha
  omega
/-- the position at hand: its box, block B, and its rows elsewhere -/
structure LvP (w : World) (B : Nat) (q : P) (qa : Option Addr) (qc : Nat) (ta : Option Addr) (tc : Nat) : Prop where
  c0 : w.cell? ⟨B, 0, none⟩ = some (.slice qa q.pits.length qc)
  c1 : w.cell? ⟨B, 1, none⟩ = some (.slice ta q.stores.length tc)
  c2 : w.cell? ⟨B, 2, none⟩ = some (.int .i64 q.player)
  fz : ∀ o, w.frozen? ⟨B, o, none⟩ = false
  p : RowN B w qa q.pits
  s : RowN B w ta q.stores
  m1 : q.pits.length ≤ 16777216
  m2 : q.stores.length ≤ 16777216
  hc : q.pits.length ≤ qc
  hcm : qc ≤ maxLen
theorem LvP.below {w w' : World} {B : Nat} {q : P} {qa ta : Option Addr} {qc tc : Nat} (h : LvP w B q qa qc ta tc) (hb : Below w.heap.size w w') : LvP w' B q qa qc ta tc := by
  have hB : B < w.heap.size := World.block_lt_of_cell? w _ h.c0
  exact ⟨(hb.cell (show (Addr.mk B 0 none).block < _ from hB)).trans h.c0, (hb.cell (show (Addr.mk B 1 none).block < _ from hB)).trans h.c1, (hb.cell (show (Addr.mk B 2 none).block < _ from hB)).trans h.c2, fun o => (hb.frozen (show (Addr.mk B o none).block < _ from hB)).trans (h.fz o), h.p.below hb (Nat.le_refl _), h.s.below hb (Nat.le_refl _), h.m1, h.m2, h.hc, h.hcm⟩
theorem LvP.store {w : World} {B base : Nat} {q : P} {qa ta : Option Addr} {qc tc : Nat} (h : LvP w B q qa qc ta tc) {y : P} {ua va : Option Addr} {uc vc : Nat} (ho : POwn w base y ua uc va vc) (hb : B < base) (m1 : y.pits.length ≤ 16777216) (m2 : y.stores.length ≤ 16777216) :
    LvP (((w.setCell ⟨B, 0, none⟩ (.slice ua y.pits.length uc)).setCell ⟨B, 1, none⟩ (.slice va y.stores.length vc)).setCell ⟨B, 2, none⟩ (.int .i64 y.player)) B y ua uc va vc := by
  have hcp := own_caps ho.pits
  refine ⟨?_, ?_, ?_, fun o => ?_, (((own_rowN ho.pits hb).set _ _).set _ _).set _ _, (((own_rowN ho.stores hb).set _ _).set _ _).set _ _, m1, m2, hcp.1, hcp.2⟩
  · rw [cell_off (by omega), cell_off (by omega)]; exact World.cell?_setCell_same _ _ _ h.c0
  · rw [cell_off (by omega)]; refine World.cell?_setCell_same _ _ (u := .slice ta q.stores.length tc) _ ?_; rw [cell_off (by omega)]; exact h.c1
  · refine World.cell?_setCell_same _ _ (u := .int .i64 q.player) _ ?_; rw [cell_off (by omega), cell_off (by omega)]; exact h.c2
  · simp [h.fz]
theorem BoxP.set {w : World} {g B : Nat} {cs : List Value} (h : BoxP g cs w) (hn : ¬ g = B) (i : Nat) (v : Value) : BoxP g cs (w.setCell ⟨B, i, none⟩ v) := fun j u hu => (cell_other hn).trans (h j u hu)
/-- a round over the moves -/
structure LvSt (w wr : World) (r : R) (pl : Int) (ms : List Int) (tgt : Int × Int) (k : Nat) (s : Int) (q : P) (qa : Option Addr) (qc : Nat) (ta : Option Addr) (tc : Nat) : Prop where
  kl : k ≤ ms.length
  go : lineGo r pl q s (ms.drop k) = tgt
  s0 : -2000 * (k : Int) ≤ s
  s1 : s ≤ 2000 * (k : Int)
  lv : LvP wr (w.heap.size + 1) q qa qc ta tc
  rx : BoxP w.heap.size r.cells.toList wr
  below : Below w.heap.size w wr

end Go.Proofs.Yteabheocbkcmnaa
