/- Sets: a box whose cells are stored anew, some in a row, among calls that make memory. Holds under the premises that each statement names. -/
import Derived.Test.YteabheocbkcmnaaFrame
import Derived.Deep.MidRow
namespace Go.Proofs.Yteabheocbkcmnaa
set_option linter.unusedSimpArgs false
set_option linter.unusedVariables false
set_option linter.unnecessarySimpa false
open Go.RowKit Go.ChangeShapes Go.WideShapes Go.ChangeAt Go.Joins

def setL (cs : List Value) (o : Nat) : List Value → List Value
  | [] => cs
  | v :: vs => setL (cs.set o v) (o + 1) vs
/-- the first cells of block b, none of them frozen -/
structure Bx (b : Nat) (cs : List Value) (w : World) : Prop where
  box : BoxP b cs w
  free : ∀ o, w.frozen? ⟨b, o, none⟩ = false
theorem Bx.alloc (w : World) (cs : Array Value) (t : TypeId) {n : Nat} (hn : n = w.heap.size) : Bx n cs.toList (w.alloc (.cells cs t)) := by
  subst hn
  exact ⟨fun j v hv => by simpa using hv, fun o => by simp⟩
theorem Bx.lt {b : Nat} {cs : List Value} {w : World} (h : Bx b cs w) (hc : 0 < cs.length) : b < w.heap.size := World.block_lt_of_cell? w _ (h.box 0 cs[0] (by simp))
theorem Bx.below {b B : Nat} {cs : List Value} {w w' : World} (h : Bx b cs w) (hb : Below B w w') (hB : b < B) : Bx b cs w' :=
  ⟨fun j v hv => (hb.cell (p := ⟨b, j, none⟩) hB).trans (h.box j v hv), fun o => (hb.frozen (p := ⟨b, o, none⟩) hB).trans (h.free o)⟩
theorem Bx.chg {b lo hi : Nat} {cs : List Value} {w w' : World} (h : Bx b cs w) (hc : Chg lo hi w w') (hl : b < w.heap.size) (hd : b < lo ∨ hi ≤ b) : Bx b cs w' :=
  ⟨BoxP.stab b cs w w' h.box (fun k k1 k2 => hc.block k (by omega) (by omega)), fun o => (World.frozen?_of_block (w := w) (hc.block b hl hd)).trans (h.free o)⟩
theorem Bx.drew {b : Nat} {cs : List Value} {w : World} (h : Bx b cs w) : Bx b cs w.drew := ⟨h.box, h.free⟩
theorem Bx.drewN {b : Nat} {cs : List Value} {w : World} (h : Bx b cs w) (n : Nat) : Bx b cs (w.drewN n) := ⟨fun j v hv => (by rw [World.cell?_drewN]; exact h.box j v hv), fun o => by rw [World.frozen?_drewN]; exact h.free o⟩
theorem Bx.allocO {b : Nat} {cs : List Value} {w : World} (h : Bx b cs w) (hl : b < w.heap.size) (xs : Array Value) (t : TypeId) : Bx b cs (w.alloc (.cells xs t)) := h.below ((Below.refl _ _).alloc (Nat.le_refl _) _) hl
theorem Bx.other {b : Nat} {cs : List Value} {w : World} (h : Bx b cs w) (p : Addr) (hp : p.block ≠ b) (v : Value) : Bx b cs (w.setCell p v) :=
  ⟨fun j u hu => (World.cell?_setCell_other _ _ _ _ (by intro e; rw [e] at hp; exact hp rfl)).trans (h.box j u hu), fun o => by simpa using h.free o⟩
theorem Bx.set {b o : Nat} {cs : List Value} {w : World} (h : Bx b cs w) (ho : o < cs.length) (v : Value) : Bx b (cs.set o v) (w.setCell ⟨b, o, none⟩ v) := by
  refine ⟨fun j u hu => ?_, fun o' => by simpa using h.free o'⟩
  by_cases hj : o = j
  · subst hj
    have : v = u := by simpa [ho] using hu
    subst this
    exact World.cell?_setCell_same _ _ (u := cs[o]) _ (h.box o _ (by simp [ho]))
  · rw [List.getElem?_set_ne hj] at hu
    exact (World.cell?_setCell_other _ _ _ _ (by intro e; injection e; omega)).trans (h.box j u hu)
theorem Bx.sets {b : Nat} : ∀ {vs : List Value} {o : Nat} {cs : List Value} {w : World}, Bx b cs w → o + vs.length ≤ cs.length → Bx b (setL cs o vs) (w.setCells b o vs)
  | [], o, cs, w, h, _ => h
  | v :: vs, o, cs, w, h, hl => by
    have hl' : o + (vs.length + 1) ≤ cs.length := hl
    exact Bx.sets (vs := vs) (o := o + 1) (cs := cs.set o v) (w := w.setCell ⟨b, o, none⟩ v) (h.set (by omega) v) (by rw [List.length_set]; omega)
theorem Bx.setsO {b nb : Nat} {cs : List Value} (hn : b ≠ nb) : ∀ (vs : List Value) (o : Nat) {w : World}, Bx b cs w → Bx b cs (w.setCells nb o vs)
  | [], o, w, h => h
  | v :: vs, o, w, h => Bx.setsO hn vs (o + 1) (h.other ⟨nb, o, none⟩ (fun e => hn e.symm) v)
theorem below_sets {B nb : Nat} {w0 : World} (hn : B ≤ nb) : ∀ (vs : List Value) (o : Nat) {w : World}, Below B w0 w → Below B w0 (w.setCells nb o vs)
  | [], o, w, h => h
  | v :: vs, o, w, h => below_sets hn vs (o + 1) (Below.setCell h hn v)
theorem chg_sets (nb : Nat) : ∀ (vs : List Value) (o : Nat) (w : World), Chg nb (nb + 1) w (w.setCells nb o vs)
  | [], o, w => Chg.refl _ _ _
  | v :: vs, o, w => (show Chg nb (nb + 1) w (w.setCell ⟨nb, o, none⟩ v) from ⟨rfl, rfl, rfl, by simp, fun k hk hn => Below.heap_setCell _ _ _ k (by simp; omega)⟩).trans (chg_sets nb vs (o + 1) _)
theorem size_sets (nb : Nat) : ∀ (vs : List Value) (o : Nat) (w : World), (w.setCells nb o vs).heap.size = w.heap.size
  | [], o, w => rfl
  | v :: vs, o, w => by rw [World.setCells, size_sets nb vs (o + 1)]; simp
theorem setL_all : ∀ (vs cs us : List Value), vs.length = cs.length → setL (us ++ cs) us.length vs = us ++ vs
  | [], cs, us, h => by
    have : cs = [] := List.eq_nil_of_length_eq_zero h.symm
    subst this; rfl
  | v :: vs, [], us, h => by cases h
  | v :: vs, c :: cs, us, h => by
    have h1 := setL_all vs cs (us ++ [v]) (by simpa using h)
    simp only [setL]
    have e : (us ++ c :: cs).set us.length v = us ++ [v] ++ cs := by simp
    rw [e]
    simpa using h1
theorem Bx.sets_all {b : Nat} {vs cs : List Value} {w : World} (h : Bx b cs w) (hl : vs.length = cs.length) : Bx b vs (w.setCells b 0 vs) := by
  have h1 := h.sets (vs := vs) (o := 0) (by omega)
  have h2 := setL_all vs cs [] hl
  simp only [List.nil_append, List.length_nil] at h2
  rwa [h2] at h1
theorem Bx.there {b : Nat} {cs : List Value} {w : World} (h : Bx b cs w) : w.there b 0 cs.length := fun j hj => ⟨by rw [Nat.zero_add, h.box j cs[j] (by simp [hj])]; rfl, h.free _⟩
theorem results_bx {P : Program} {fn : Func} {p : Tmp} {ty : TypeId} {d : TypeDesc} {b : Nat} {cs : List Value} (h : fn.results = #[.cell p ty]) (tmps : Array Value) (hp : tmps.getD p undef = .pointer (some ⟨b, 0, none⟩)) (w : World) (hx : Bx b cs w)
    (hu : P.underlying ty = some d) (hd : d.isRow = true) (hi : (P.info? ty).map (·.size) = some cs.length) : (results fn tmps).run P w = .ok (.agg cs.toArray) w := by
  have hl := run_loadVar_mid (P := P) w b 0 ty cs d (fun j v hv => by rw [Nat.zero_add]; exact hx.box j v hv) hu hd hi
  have hp' : tmps[p]?.getD undef = .pointer (some ⟨b, 0, none⟩) := by simpa using hp
  simp [results, h, hp', asAddr, hl]
theorem boxP_set {b o : Nat} {cs : List Value} {w : World} (h : BoxP b cs w) (ho : o < cs.length) (v : Value) : BoxP b (cs.set o v) (w.setCell ⟨b, o, none⟩ v) := fun j u hu => by
  by_cases hj : o = j
  · subst hj
    have : v = u := by simpa [ho] using hu
    subst this
    exact World.cell?_setCell_same _ _ (u := cs[o]) _ (h o _ (by simp [ho]))
  · rw [List.getElem?_set_ne hj] at hu
    exact (World.cell?_setCell_other _ _ _ _ (by intro e; injection e; omega)).trans (h j u hu)
theorem boxP_sets {b : Nat} : ∀ {vs : List Value} {o : Nat} {cs : List Value} {w : World}, BoxP b cs w → o + vs.length ≤ cs.length → BoxP b (setL cs o vs) (w.setCells b o vs)
  | [], o, cs, w, h, _ => h
  | v :: vs, o, cs, w, h, hl => by
    have hl' : o + (vs.length + 1) ≤ cs.length := hl
    exact boxP_sets (vs := vs) (o := o + 1) (cs := cs.set o v) (w := w.setCell ⟨b, o, none⟩ v) (boxP_set h (by omega) v) (by rw [List.length_set]; omega)
theorem boxP_sets_all {b : Nat} {vs cs : List Value} {w : World} (h : BoxP b cs w) (hl : vs.length = cs.length) : BoxP b vs (w.setCells b 0 vs) := by
  have h1 := boxP_sets (vs := vs) (o := 0) h (by omega)
  have h2 := setL_all vs cs [] hl
  simp only [List.nil_append, List.length_nil] at h2
  rwa [h2] at h1

end Go.Proofs.Yteabheocbkcmnaa
