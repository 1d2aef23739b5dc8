/- SCnt: lines of moves, counted by their lengths: the reference's functions. Each contract holds for every argument, under the premises that it states. -/
import Derived.Test.YtbjdfgfebepacaaCntP
import Derived.Test.YtbjdfgfebepacaaHeld
namespace Go.Proofs.Ytbjdfgfebepacaa
set_option linter.unusedSimpArgs false
set_option linter.unusedVariables false
set_option linter.unnecessarySimpa false
open Go.RowKit Go.ChangeShapes Go.WideShapes Go.ChangeAt Go.Joins

/-- a row outside of two blocks -/
def RowO (lo : Nat) (w : World) (a : Option Addr) (xs : List Int) : Prop := Ints w a xs ∧ ∀ b o t, a = some ⟨b, o, t⟩ → b < lo ∨ lo + 2 ≤ b
theorem RowO.below {lo C : Nat} {w w' : World} {a : Option Addr} {xs : List Int} (h : RowO lo w a xs) (hb : Below C w w') (hC : w.heap.size ≤ C) : RowO lo w' a xs := ⟨h.1.below hb hC, h.2⟩
theorem Chg.cell2 {lo b o : Nat} {w w' : World} (h : Chg lo (lo + 2) w w') {v : Value} (hv : w.cell? ⟨b, o, none⟩ = some v) (hn : b < lo ∨ lo + 2 ≤ b) : w'.cell? ⟨b, o, none⟩ = some v := h.cell hv hn
theorem Chg.rowO {lo : Nat} {w w' : World} {a : Option Addr} {xs : List Int} (h : Chg lo (lo + 2) w w') (hx : RowO lo w a xs) : RowO lo w' a xs := by
  refine ⟨fun j u hu => ?_, hx.2⟩
  obtain ⟨b, o, ha, hc⟩ := hx.1 j u hu
  exact ⟨b, o, ha, h.cell hc (hx.2 _ _ _ ha)⟩
theorem Chg.patAt2 {lo : Nat} {w w' : World} {b o pc sc : Nat} {p : P} {pa sa : Option Addr} (h : Chg lo (lo + 2) w w') (hp : P.At w b o p pa pc sa sc) (hb : b < lo ∨ lo + 2 ≤ b) : P.At w' b o p pa pc sa sc := ⟨h.cell hp.c0 hb, h.cell hp.c1 hb, h.cell hp.c2 hb⟩
theorem Chg.ratAt2 {lo : Nat} {w w' : World} {b o : Nat} {r : R} (h : Chg lo (lo + 2) w w') (hp : R.At w b o r) (hb : b < lo ∨ lo + 2 ≤ b) : R.At w' b o r :=
  ⟨h.cell hp.c0 hb, h.cell hp.c1 hb, h.cell hp.c2 hb, h.cell hp.c3 hb, h.cell hp.c4 hb, h.cell hp.c5 hb, h.cell hp.c6 hb, h.cell hp.c7 hb, h.cell hp.c8 hb⟩
theorem Chg.boxP2 {lo g : Nat} {w w' : World} {cs : List Value} (h : Chg lo (lo + 2) w w') (hp : BoxP g cs w) (hb : g < lo ∨ lo + 2 ≤ g) : BoxP g cs w' := fun j v hv => h.cell (hp j v hv) hb
theorem Chg.own2 {lo base : Nat} {w w' : World} {e : TypeId} {size n : Nat} {v : Value} {vs : List Value} (h : Chg lo (lo + 2) w w') (ho : w.ownsRow base e size v n vs) (hb : lo + 2 ≤ base) : w'.ownsRow base e size v n vs :=
  own_stab (hi := w.heap.size) (Nat.le_refl _) ho (fun k hk => (ho.lt k hk).2) (fun k k1 k2 => h.block k k2 (by omega))
theorem Chg.mksOwn2 {lo base c : Nat} {w w' : World} {ad : Option Addr} {l : List (Mk × MA)} (h : Chg lo (lo + 2) w w') (ho : MksOwn w base ad c l) (hb : lo + 2 ≤ base) : MksOwn w' base ad c l :=
  ⟨h.own2 ho.row hb, fun x hx => ⟨⟨h.own2 (ho.items x hx).1.pits hb, h.own2 (ho.items x hx).1.stores hb, (ho.items x hx).1.apart⟩, (ho.items x hx).2⟩, ho.sep⟩
theorem own_rowO {lo base : Nat} {w : World} {c : Nat} {a : Option Addr} {xs : List Int} (h : OwnI w base a c xs) (hb : lo + 2 ≤ base) : RowO lo w a xs := by
  refine ⟨own_row h, fun b o t ha => ?_⟩
  subst ha
  have := (h.lt b rfl).1
  omega
/-- the counters of a walk -/
structure WkI (w : World) (lo C cb eb rb ro L : Nat) (cs es : List Int) : Prop where
  k0 : w.cell? ⟨C, 0, none⟩ = some (.pointer (some ⟨rb, ro, none⟩))
  k1 : w.cell? ⟨C, 1, none⟩ = some (.slice (some ⟨cb, 0, none⟩) L L)
  k2 : w.cell? ⟨C, 2, none⟩ = some (.slice (some ⟨eb, 0, none⟩) L L)
  rc : w.ownsRow lo 2 1 (.slice (some ⟨cb, 0, none⟩) L L) L (cs.map (Value.int .i64))
  re : w.ownsRow lo 2 1 (.slice (some ⟨eb, 0, none⟩) L L) L (es.map (Value.int .i64))
  cl : cs.length = L
  el : es.length = L
  ne : ¬ cb = eb
  hc : cb < lo + 2
  he : eb < lo + 2
  hC : C = lo + 2
theorem WkI.below {w w' : World} {lo C cb eb rb ro L : Nat} {cs es : List Int} (h : WkI w lo C cb eb rb ro L cs es) (hb : Below w.heap.size w w') : WkI w' lo C cb eb rb ro L cs es := by
  have hB : C < w.heap.size := World.block_lt_of_cell? w _ h.k0
  exact ⟨(hb.cell (show (Addr.mk C 0 none).block < _ from hB)).trans h.k0, (hb.cell (show (Addr.mk C 1 none).block < _ from hB)).trans h.k1, (hb.cell (show (Addr.mk C 2 none).block < _ from hB)).trans h.k2, own_below h.rc hb (Nat.le_refl _), own_below h.re hb (Nat.le_refl _), h.cl, h.el, h.ne, h.hc, h.he, h.hC⟩
theorem WkI.lo {w : World} {lo C cb eb rb ro L : Nat} {cs es : List Int} (h : WkI w lo C cb eb rb ro L cs es) : lo ≤ cb ∧ lo ≤ eb := ⟨(h.rc.lt cb rfl).1, (h.re.lt eb rfl).1⟩
theorem WkI.setC {w : World} {lo C cb eb rb ro L : Nat} {cs es : List Int} (h : WkI w lo C cb eb rb ro L cs es) (i : Nat) (n : Int) : WkI (w.setCell ⟨cb, i, none⟩ (.int .i64 n)) lo C cb eb rb ro L (cs.set i n) es := by
  have hl := h.lo
  have h1 := h.hc
  have h2 := h.hC
  have hs := (h.rc.stored i (.int .i64 n)).1
  rw [← List.map_set] at hs
  refine ⟨?_, ?_, ?_, hs, ownsRow_setCell_other h.re (by simp [Value.ownBlock]; exact fun e => h.ne e.symm) _, by simp [h.cl], h.el, h.ne, h.hc, h.he, h.hC⟩
  · rw [cell_other (by omega)]; exact h.k0
  · rw [cell_other (by omega)]; exact h.k1
  · rw [cell_other (by omega)]; exact h.k2
theorem WkI.setE {w : World} {lo C cb eb rb ro L : Nat} {cs es : List Int} (h : WkI w lo C cb eb rb ro L cs es) (i : Nat) (n : Int) : WkI (w.setCell ⟨eb, i, none⟩ (.int .i64 n)) lo C cb eb rb ro L cs (es.set i n) := by
  have hl := h.lo
  have h1 := h.he
  have h2 := h.hC
  have hs := (h.re.stored i (.int .i64 n)).1
  rw [← List.map_set] at hs
  refine ⟨?_, ?_, ?_, ownsRow_setCell_other h.rc (by simp [Value.ownBlock]; exact fun e => h.ne e) _, hs, h.cl, by simp [h.el], h.ne, h.hc, h.he, h.hC⟩
  · rw [cell_other (by omega)]; exact h.k0
  · rw [cell_other (by omega)]; exact h.k1
  · rw [cell_other (by omega)]; exact h.k2
def WkPost (w : World) (lo C cb eb rb ro L : Nat) (cs es : List Int) (e : Ending) (w' : World) : Prop := e = .returned (.tuple #[]) ∧ WkI w' lo C cb eb rb ro L cs es ∧ Chg lo (lo + 2) w w'
theorem chg_set2 (w : World) (lo b o : Nat) (v : Value) (h1 : lo ≤ b) (h2 : b < lo + 2) : Chg lo (lo + 2) w (w.setCell ⟨b, o, none⟩ v) := (chg_set w b o v).mono h1 (by omega)
theorem row_getI {w : World} {lo g L : Nat} {cs : List Int} (h : w.ownsRow lo 2 1 (.slice (some ⟨g, 0, none⟩) L L) L (cs.map (Value.int .i64))) (hl : cs.length = L) (i : Nat) (hi : i < cs.length) : w.cell? ⟨g, i, none⟩ = some (.int .i64 cs[i]) := by
  rw [h.cellAt i (by omega)]
  simp [hi]


/-! ### SCnt2: how many lines there are, of a length and of each length, and how many of them end: both sides. Each contract holds for every argument, under the premises that it states. -/
theorem sask_code (r : R) (p : P) (d : Int) : (saskP r p d).2.2 = srchC r p d := by
  unfold saskP
  by_cases h : srchC r p d = 0
  · rw [if_pos h, h]
  · rw [if_neg h]
theorem firstPos_at (xs : List Int) (k : Nat) (hk : k < xs.length) : firstPos (xs.drop k) k = if xs[k] > 0 then ((k : Int), 0) else firstPos (xs.drop (k + 1)) (k + 1) := by
  rw [List.drop_eq_getElem_cons hk]
  rfl
theorem psum_all (xs : List Int) (k : Nat) (h : xs.length ≤ k) : psum xs k = xs.sum := by
  unfold psum; rw [List.take_of_length_le h]

set_option maxHeartbeats 4000000 in
theorem l22Code_c (rb ro pb po : Nat) (r : R) (p : P) (d : Int) (pa sa : Option Addr) (pc sc : Nat) (w : World) (hr : R.At w rb ro r) (hp : P.At w pb po p pa pc sa sc) (h : PRow w p pa sa) (m1 : p.pits.length ≤ 16777216) (m2 : p.stores.length ≤ 16777216) :
    Calls Try.prog 165 #[.pointer (some ⟨rb, ro, none⟩), .pointer (some ⟨pb, po, none⟩), .int .i64 d] w fun e w' => e = .returned (.int .i64 (srchC r p d)) ∧ Below w.heap.size w w' := by
  have HA := l15Ask_c rb ro pb po r p d pa sa pc sc w hr hp h m1 m2
  rw [sask_code] at HA
  have HA := Lib.hid HA
  obtain ⟨c, hc⟩ : ∃ c, c = srchC r p d := ⟨_, rfl⟩
  rw [← hc] at HA ⊢
  clear hr hp h hc
  go_enter Try.func165, Try.ntmps165
  go_wp2_with fail
  refine HA.out.mono ?_
  rintro e w1 ⟨rfl, hb1⟩
  have HB := Lib.hid hb1
  clear hb1
  go_wp2
  go_ret
  exact ⟨rfl, HB.out⟩


end Go.Proofs.Ytbjdfgfebepacaa
