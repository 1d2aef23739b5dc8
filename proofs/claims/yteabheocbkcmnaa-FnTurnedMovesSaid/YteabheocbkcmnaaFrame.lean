/- Frame: what a call keeps: places of memory with what they hold, carried through calls that make memory or write elsewhere. Holds under the premises that each statement names. -/
import Derived.Test.YteabheocbkcmnaaBase
namespace Go.Proofs.Yteabheocbkcmnaa
set_option linter.unusedSimpArgs false
set_option linter.unusedVariables false
set_option linter.unnecessarySimpa false
open Go.RowKit Go.ChangeShapes Go.WideShapes Go.ChangeAt Go.Joins

/-- a statement that hangs on the blocks from lo to hi alone -/
def Stab (lo hi : Nat) (P : World → Prop) : Prop := ∀ w w' : World, P w → (∀ k, lo ≤ k → k < hi → w'.heap[k]? = w.heap[k]?) → P w'
/-- blocks from lo to hi, and what is known of them -/
structure Res where
  lo : Nat
  hi : Nat
  P : World → Prop
structure Fr (w0 w : World) (ls : List Res) : Prop where
  below : Below w0.heap.size w0 w
  res : ∀ r ∈ ls, r.hi ≤ w.heap.size ∧ Stab r.lo r.hi r.P ∧ r.P w
theorem Fr.start (w : World) : Fr w w [] := ⟨Below.refl _ _, fun r hr => by simp at hr⟩
theorem Fr.at {w0 w : World} {ls : List Res} (h : Fr w0 w ls) (i : Nat) {r : Res} (hr : ls[i]? = some r) : r.P w := (h.res r (List.mem_of_getElem? hr)).2.2
theorem Fr.le {w0 w : World} {ls : List Res} (h : Fr w0 w ls) (i : Nat) {r : Res} (hr : ls[i]? = some r) : r.hi ≤ w.heap.size := (h.res r (List.mem_of_getElem? hr)).1
theorem Fr.step {w0 w w' : World} {ls : List Res} (h : Fr w0 w ls) (hb : Below w.heap.size w w') : Fr w0 w' ls :=
  ⟨below_next h.below hb, fun r hr => ⟨Nat.le_trans (h.res r hr).1 hb.size, (h.res r hr).2.1, (h.res r hr).2.1 w w' (h.res r hr).2.2 (fun k _ h2 => hb.block k (Nat.lt_of_lt_of_le h2 (h.res r hr).1))⟩⟩
theorem Fr.add {w0 w : World} {ls : List Res} (h : Fr w0 w ls) (lo hi : Nat) (P : World → Prop) (hs : Stab lo hi P) (hp : P w) (hh : hi ≤ w.heap.size) : Fr w0 w (⟨lo, hi, P⟩ :: ls) :=
  ⟨h.below, fun r hr => by
    rcases List.mem_cons.1 hr with rfl | hr
    · exact ⟨hh, hs, hp⟩
    · exact h.res r hr⟩
/-- all that stood before, but for the blocks from lo to hi, is as it was -/
structure Chg (lo hi : Nat) (w w' : World) : Prop where
  os : w'.os = w.os
  tape : w'.tape = w.tape
  output : w'.output = w.output
  size : w.heap.size ≤ w'.heap.size
  block : ∀ k, k < w.heap.size → (k < lo ∨ hi ≤ k) → w'.heap[k]? = w.heap[k]?
theorem Chg.refl (lo hi : Nat) (w : World) : Chg lo hi w w := ⟨rfl, rfl, rfl, Nat.le_refl _, fun _ _ _ => rfl⟩
theorem Chg.trans {lo hi : Nat} {a b c : World} (h : Chg lo hi a b) (k : Chg lo hi b c) : Chg lo hi a c :=
  ⟨k.os.trans h.os, k.tape.trans h.tape, k.output.trans h.output, Nat.le_trans h.size k.size, fun i hi hn => (k.block i (Nat.lt_of_lt_of_le hi h.size) hn).trans (h.block i hi hn)⟩
theorem Chg.mono {lo hi lo' hi' : Nat} {a b : World} (h : Chg lo hi a b) (h1 : lo' ≤ lo) (h2 : hi ≤ hi') : Chg lo' hi' a b :=
  ⟨h.os, h.tape, h.output, h.size, fun i hi hn => h.block i hi (by omega)⟩
theorem Chg.ofBelow {lo hi : Nat} {a b : World} (h : Below a.heap.size a b) : Chg lo hi a b := ⟨h.os, h.tape, h.output, h.size, fun i hi _ => h.block i hi⟩
theorem Chg.ofGrown {lo hi : Nat} {a b : World} {v : Value} (h : a.grownBy b v.ownBlock) (hr : ∀ k, v.ownBlock = some k → lo ≤ k ∧ k < hi) : Chg lo hi a b :=
  ⟨h.os, h.tape, h.output, h.size, fun i hi hn => h.block i hi (fun e => by have := hr i e.symm; omega)⟩
theorem Chg.below {lo hi : Nat} {w0 a b : World} (h : Chg lo hi a b) (hb : Below w0.heap.size w0 a) (hl : w0.heap.size ≤ lo) : Below w0.heap.size w0 b :=
  ⟨h.os.trans hb.os, h.tape.trans hb.tape, h.output.trans hb.output, Nat.le_trans hb.size h.size, fun i hi => (h.block i (Nat.lt_of_lt_of_le hi hb.size) (.inl (by omega))).trans (hb.block i hi)⟩
theorem Fr.chg {w0 w w' : World} {r0 : Res} {ls : List Res} (h : Fr w0 w (r0 :: ls)) {lo hi : Nat} (hc : Chg lo hi w w') (hw : w0.heap.size ≤ lo) (hd : ∀ r ∈ ls, r.hi ≤ lo ∨ hi ≤ r.lo) : Fr w0 w' ls :=
  ⟨hc.below h.below hw, fun r hr => by
    obtain ⟨h1, h2, h3⟩ := h.res r (List.mem_cons_of_mem _ hr)
    have := hd r hr
    exact ⟨Nat.le_trans h1 hc.size, h2, h2 w w' h3 (fun k k1 k2 => hc.block k (by omega) (by omega))⟩⟩
theorem Fr.chgAt {w0 w w' : World} {ls : List Res} (h : Fr w0 w ls) (i : Nat) {lo hi : Nat} (hc : Chg lo hi w w') (hw : w0.heap.size ≤ lo) (hd : ∀ r ∈ ls.eraseIdx i, r.hi ≤ lo ∨ hi ≤ r.lo) : Fr w0 w' (ls.eraseIdx i) :=
  ⟨hc.below h.below hw, fun r hr => by
    obtain ⟨h1, h2, h3⟩ := h.res r (List.mem_of_mem_eraseIdx hr)
    have := hd r hr
    exact ⟨Nat.le_trans h1 hc.size, h2, h2 w w' h3 (fun k k1 k2 => hc.block k (by omega) (by omega))⟩⟩
theorem Fr.drew {w0 w : World} {ls : List Res} (h : Fr w0 w ls) : Fr w0 w.drew ls := h.step (Below.refl _ _).drew
theorem Fr.drawn {w0 w : World} {ls : List Res} (h : Fr w0 w ls) (n : Nat) : Fr w0 (w.drewN n) ls := h.step (below_draws _ _ n)

/-! ### boxes -/
/-- the first cells of block b -/
def BoxP (b : Nat) (cs : List Value) : World → Prop := fun w => ∀ (j : Nat) (v : Value), cs[j]? = some v → w.cell? ⟨b, j, none⟩ = some v
theorem cell_stab {b o : Nat} {v : Value} {w w' : World} (h : w.cell? ⟨b, o, none⟩ = some v) (hk : w'.heap[b]? = w.heap[b]?) : w'.cell? ⟨b, o, none⟩ = some v :=
  have e : w'.cell? ⟨b, o, none⟩ = w.cell? ⟨b, o, none⟩ := World.cell?_of_block (w := w) hk
  e.trans h
theorem BoxP.stab (b : Nat) (cs : List Value) : Stab b (b + 1) (BoxP b cs) := fun w w' h hk j v hv => cell_stab (h j v hv) (hk b (Nat.le_refl _) (by omega))
theorem Fr.alloc {w0 w : World} {ls : List Res} (h : Fr w0 w ls) (cs : Array Value) (t : TypeId) : Fr w0 (w.alloc (.cells cs t)) (⟨w.heap.size, w.heap.size + 1, BoxP w.heap.size cs.toList⟩ :: ls) :=
  (h.step (below_alloc1 _ _)).add _ _ _ (BoxP.stab _ _) (fun j v hv => by simpa using hv) (by simp)

/-! ### rows of numbers -/
/-- the slice is a row of the call's own, in the blocks from lo to hi -/
def RowP (lo hi : Nat) (a : Option Addr) (c : Nat) (xs : List Int) : World → Prop := fun w => OwnI w lo a c xs ∧ ∀ k, (Value.slice a xs.length c).ownBlock = some k → k < hi
theorem own_stab {base lo hi : Nat} {e : TypeId} {size n : Nat} {v : Value} {vs : List Value} {w w' : World} (hlo : lo ≤ base) (h : w.ownsRow base e size v n vs) (hh : ∀ k, v.ownBlock = some k → k < hi) (hk : ∀ k, lo ≤ k → k < hi → w'.heap[k]? = w.heap[k]?) : w'.ownsRow base e size v n vs := by
  obtain ⟨h1, h2 | ⟨g, cap, cur, hv, hb, hg, r⟩⟩ := h
  · exact ⟨h1, .inl h2⟩
  · have := hh g (by rw [hv]; rfl)
    exact ⟨h1, .inr ⟨g, cap, cur, hv, hb, by rw [hk g (by omega) this]; exact hg, r⟩⟩
theorem RowP.stab (lo hi : Nat) (a : Option Addr) (c : Nat) (xs : List Int) : Stab lo hi (RowP lo hi a c xs) := fun w w' h hk => ⟨own_stab (Nat.le_refl _) h.1 h.2 hk, h.2⟩
theorem RowP.mk {w : World} {lo c : Nat} {a : Option Addr} {xs : List Int} (h : OwnI w lo a c xs) : RowP lo w.heap.size a c xs w := ⟨h, fun k hk => (h.lt k hk).2⟩
theorem Fr.own {w0 w : World} {ls : List Res} (h : Fr w0 w ls) {lo c : Nat} {a : Option Addr} {xs : List Int} (ho : OwnI w lo a c xs) : Fr w0 w (⟨lo, w.heap.size, RowP lo w.heap.size a c xs⟩ :: ls) :=
  h.add _ _ _ (RowP.stab _ _ _ _ _) (RowP.mk ho) (Nat.le_refl _)
theorem RowP.chg {w w' : World} {lo hi c : Nat} {a : Option Addr} {xs : List Int} (h : RowP lo hi a c xs w) (hg : w.grownBy w' (Value.slice a xs.length c).ownBlock) : Chg lo hi w w' :=
  Chg.ofGrown hg (fun k hk => ⟨(h.1.lt k hk).1, h.2 k hk⟩)
/-- a row of the call's own, of any cells -/
def OwnP (lo hi : Nat) (e : TypeId) (size : Nat) (v : Value) (n : Nat) (vs : List Value) : World → Prop := fun w => w.ownsRow lo e size v n vs ∧ ∀ k, v.ownBlock = some k → k < hi
theorem OwnP.stab (lo hi : Nat) (e : TypeId) (size : Nat) (v : Value) (n : Nat) (vs : List Value) : Stab lo hi (OwnP lo hi e size v n vs) := fun w w' h hk => ⟨own_stab (Nat.le_refl _) h.1 h.2 hk, h.2⟩
theorem Fr.ownV {w0 w : World} {ls : List Res} (h : Fr w0 w ls) {lo : Nat} {e : TypeId} {size : Nat} {v : Value} {n : Nat} {vs : List Value} (ho : w.ownsRow lo e size v n vs) : Fr w0 w (⟨lo, w.heap.size, OwnP lo w.heap.size e size v n vs⟩ :: ls) :=
  h.add _ _ _ (OwnP.stab _ _ _ _ _ _ _) ⟨ho, fun k hk => (ho.lt k hk).2⟩ (Nat.le_refl _)
theorem OwnP.chg {w w' : World} {lo hi : Nat} {e : TypeId} {size : Nat} {v : Value} {n : Nat} {vs : List Value} (h : OwnP lo hi e size v n vs w) (hg : w.grownBy w' v.ownBlock) : Chg lo hi w w' :=
  Chg.ofGrown hg (fun k hk => ⟨(h.1.lt k hk).1, h.2 k hk⟩)

end Go.Proofs.Yteabheocbkcmnaa
