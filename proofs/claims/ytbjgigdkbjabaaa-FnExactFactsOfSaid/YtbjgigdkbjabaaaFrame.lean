/- Frame: what a call keeps: places of memory with what they hold, carried through calls that make memory or write elsewhere. Holds under the premises that each statement names. -/
import Derived.Test.YtbjgigdkbjabaaaBase
import Derived.Test.YtbjgigdkbjabaaaRules
import Derived.OwnWalk
import Derived.ArgAppend
namespace Go.Proofs.Ytbjgigdkbjabaaa
set_option linter.unusedSimpArgs false
set_option linter.unusedVariables false
set_option linter.unnecessarySimpa false
open Go.RowKit Go.ChangeShapes Go.WideShapes Go.ChangeAt Go.Joins

/-- a statement that hangs on the blocks from lo to hi alone -/
def Stab (lo hi : Nat) (P : World → Prop) : Prop := ∀ w w' : World, P w → (∀ k, lo ≤ k → k < hi → w'.heap[k]? = w.heap[k]?) → P w'
/-- blocks from lo to hi, and what is known of them -/
structure Res where
  lo : Nat
  hi : Nat
  P : World → Prop
structure Fr (w0 w : World) (ls : List Res) : Prop where
  below : Below w0.heap.size w0 w
  res : ∀ r ∈ ls, r.hi ≤ w.heap.size ∧ Stab r.lo r.hi r.P ∧ r.P w
theorem Fr.start (w : World) : Fr w w [] := ⟨Below.refl _ _, fun r hr => by simp at hr⟩
theorem Fr.at {w0 w : World} {ls : List Res} (h : Fr w0 w ls) (i : Nat) {r : Res} (hr : ls[i]? = some r) : r.P w := (h.res r (List.mem_of_getElem? hr)).2.2
theorem Fr.le {w0 w : World} {ls : List Res} (h : Fr w0 w ls) (i : Nat) {r : Res} (hr : ls[i]? = some r) : r.hi ≤ w.heap.size := (h.res r (List.mem_of_getElem? hr)).1
theorem Fr.step {w0 w w' : World} {ls : List Res} (h : Fr w0 w ls) (hb : Below w.heap.size w w') : Fr w0 w' ls :=
  ⟨below_next h.below hb, fun r hr => ⟨Nat.le_trans (h.res r hr).1 hb.size, (h.res r hr).2.1, (h.res r hr).2.1 w w' (h.res r hr).2.2 (fun k _ h2 => hb.block k (Nat.lt_of_lt_of_le h2 (h.res r hr).1))⟩⟩
theorem Fr.add {w0 w : World} {ls : List Res} (h : Fr w0 w ls) (lo hi : Nat) (P : World → Prop) (hs : Stab lo hi P) (hp : P w) (hh : hi ≤ w.heap.size) : Fr w0 w (⟨lo, hi, P⟩ :: ls) :=
  ⟨h.below, fun r hr => by
    rcases List.mem_cons.1 hr with rfl | hr
    · exact ⟨hh, hs, hp⟩
    · exact h.res r hr⟩
/-- all that stood before, but for the blocks from lo to hi, is as it was -/
structure Chg (lo hi : Nat) (w w' : World) : Prop where
  os : w'.os = w.os
  tape : w'.tape = w.tape
  output : w'.output = w.output
  size : w.heap.size ≤ w'.heap.size
  block : ∀ k, k < w.heap.size → (k < lo ∨ hi ≤ k) → w'.heap[k]? = w.heap[k]?
theorem Chg.refl (lo hi : Nat) (w : World) : Chg lo hi w w := ⟨rfl, rfl, rfl, Nat.le_refl _, fun _ _ _ => rfl⟩
theorem Chg.trans {lo hi : Nat} {a b c : World} (h : Chg lo hi a b) (k : Chg lo hi b c) : Chg lo hi a c :=
  ⟨k.os.trans h.os, k.tape.trans h.tape, k.output.trans h.output, Nat.le_trans h.size k.size, fun i hi hn => (k.block i (Nat.lt_of_lt_of_le hi h.size) hn).trans (h.block i hi hn)⟩
theorem Chg.mono {lo hi lo' hi' : Nat} {a b : World} (h : Chg lo hi a b) (h1 : lo' ≤ lo) (h2 : hi ≤ hi') : Chg lo' hi' a b :=
  ⟨h.os, h.tape, h.output, h.size, fun i hi hn => h.block i hi (by omega)⟩
theorem Chg.ofBelow {lo hi : Nat} {a b : World} (h : Below a.heap.size a b) : Chg lo hi a b := ⟨h.os, h.tape, h.output, h.size, fun i hi _ => h.block i hi⟩
theorem Chg.ofGrown {lo hi : Nat} {a b : World} {v : Value} (h : a.grownBy b v.ownBlock) (hr : ∀ k, v.ownBlock = some k → lo ≤ k ∧ k < hi) : Chg lo hi a b :=
  ⟨h.os, h.tape, h.output, h.size, fun i hi hn => h.block i hi (fun e => by have := hr i e.symm; omega)⟩
theorem Chg.below {lo hi : Nat} {w0 a b : World} (h : Chg lo hi a b) (hb : Below w0.heap.size w0 a) (hl : w0.heap.size ≤ lo) : Below w0.heap.size w0 b :=
  ⟨h.os.trans hb.os, h.tape.trans hb.tape, h.output.trans hb.output, Nat.le_trans hb.size h.size, fun i hi => (h.block i (Nat.lt_of_lt_of_le hi hb.size) (.inl (by omega))).trans (hb.block i hi)⟩
theorem Fr.chg {w0 w w' : World} {r0 : Res} {ls : List Res} (h : Fr w0 w (r0 :: ls)) {lo hi : Nat} (hc : Chg lo hi w w') (hw : w0.heap.size ≤ lo) (hd : ∀ r ∈ ls, r.hi ≤ lo ∨ hi ≤ r.lo) : Fr w0 w' ls :=
  ⟨hc.below h.below hw, fun r hr => by
    obtain ⟨h1, h2, h3⟩ := h.res r (List.mem_cons_of_mem _ hr)
    have := hd r hr
    exact ⟨Nat.le_trans h1 hc.size, h2, h2 w w' h3 (fun k k1 k2 => hc.block k (by omega) (by omega))⟩⟩
theorem Fr.chgAt {w0 w w' : World} {ls : List Res} (h : Fr w0 w ls) (i : Nat) {lo hi : Nat} (hc : Chg lo hi w w') (hw : w0.heap.size ≤ lo) (hd : ∀ r ∈ ls.eraseIdx i, r.hi ≤ lo ∨ hi ≤ r.lo) : Fr w0 w' (ls.eraseIdx i) :=
  ⟨hc.below h.below hw, fun r hr => by
    obtain ⟨h1, h2, h3⟩ := h.res r (List.mem_of_mem_eraseIdx hr)
    have := hd r hr
    exact ⟨Nat.le_trans h1 hc.size, h2, h2 w w' h3 (fun k k1 k2 => hc.block k (by omega) (by omega))⟩⟩
theorem Fr.drew {w0 w : World} {ls : List Res} (h : Fr w0 w ls) : Fr w0 w.drew ls := h.step (Below.refl _ _).drew
theorem Fr.drawn {w0 w : World} {ls : List Res} (h : Fr w0 w ls) (n : Nat) : Fr w0 (w.drewN n) ls := h.step (below_draws _ _ n)

/-! ### boxes -/
/-- the first cells of block b -/
def BoxP (b : Nat) (cs : List Value) : World → Prop := fun w => ∀ (j : Nat) (v : Value), cs[j]? = some v → w.cell? ⟨b, j, none⟩ = some v
theorem cell_stab {b o : Nat} {v : Value} {w w' : World} (h : w.cell? ⟨b, o, none⟩ = some v) (hk : w'.heap[b]? = w.heap[b]?) : w'.cell? ⟨b, o, none⟩ = some v :=
  have e : w'.cell? ⟨b, o, none⟩ = w.cell? ⟨b, o, none⟩ := World.cell?_of_block (w := w) hk
  e.trans h
theorem BoxP.stab (b : Nat) (cs : List Value) : Stab b (b + 1) (BoxP b cs) := fun w w' h hk j v hv => cell_stab (h j v hv) (hk b (Nat.le_refl _) (by omega))
theorem Fr.alloc {w0 w : World} {ls : List Res} (h : Fr w0 w ls) (cs : Array Value) (t : TypeId) : Fr w0 (w.alloc (.cells cs t)) (⟨w.heap.size, w.heap.size + 1, BoxP w.heap.size cs.toList⟩ :: ls) :=
  (h.step (below_alloc1 _ _)).add _ _ _ (BoxP.stab _ _) (fun j v hv => by simpa using hv) (by simp)

/-! ### rows of numbers -/
/-- the slice is a row of the call's own, in the blocks from lo to hi -/
def RowP (lo hi : Nat) (a : Option Addr) (c : Nat) (xs : List Int) : World → Prop := fun w => OwnI w lo a c xs ∧ ∀ k, (Value.slice a xs.length c).ownBlock = some k → k < hi
theorem own_stab {base lo hi : Nat} {e : TypeId} {size n : Nat} {v : Value} {vs : List Value} {w w' : World} (hlo : lo ≤ base) (h : w.ownsRow base e size v n vs) (hh : ∀ k, v.ownBlock = some k → k < hi) (hk : ∀ k, lo ≤ k → k < hi → w'.heap[k]? = w.heap[k]?) : w'.ownsRow base e size v n vs := by
  obtain ⟨h1, h2 | ⟨g, cap, cur, hv, hb, hg, r⟩⟩ := h
  · exact ⟨h1, .inl h2⟩
  · have := hh g (by rw [hv]; rfl)
    exact ⟨h1, .inr ⟨g, cap, cur, hv, hb, by rw [hk g (by omega) this]; exact hg, r⟩⟩
theorem RowP.stab (lo hi : Nat) (a : Option Addr) (c : Nat) (xs : List Int) : Stab lo hi (RowP lo hi a c xs) := fun w w' h hk => ⟨own_stab (Nat.le_refl _) h.1 h.2 hk, h.2⟩
theorem RowP.mk {w : World} {lo c : Nat} {a : Option Addr} {xs : List Int} (h : OwnI w lo a c xs) : RowP lo w.heap.size a c xs w := ⟨h, fun k hk => (h.lt k hk).2⟩
theorem Fr.own {w0 w : World} {ls : List Res} (h : Fr w0 w ls) {lo c : Nat} {a : Option Addr} {xs : List Int} (ho : OwnI w lo a c xs) : Fr w0 w (⟨lo, w.heap.size, RowP lo w.heap.size a c xs⟩ :: ls) :=
  h.add _ _ _ (RowP.stab _ _ _ _ _) (RowP.mk ho) (Nat.le_refl _)
theorem RowP.chg {w w' : World} {lo hi c : Nat} {a : Option Addr} {xs : List Int} (h : RowP lo hi a c xs w) (hg : w.grownBy w' (Value.slice a xs.length c).ownBlock) : Chg lo hi w w' :=
  Chg.ofGrown hg (fun k hk => ⟨(h.1.lt k hk).1, h.2 k hk⟩)
/-- a row of the call's own, of any cells -/
def OwnP (lo hi : Nat) (e : TypeId) (size : Nat) (v : Value) (n : Nat) (vs : List Value) : World → Prop := fun w => w.ownsRow lo e size v n vs ∧ ∀ k, v.ownBlock = some k → k < hi
theorem OwnP.stab (lo hi : Nat) (e : TypeId) (size : Nat) (v : Value) (n : Nat) (vs : List Value) : Stab lo hi (OwnP lo hi e size v n vs) := fun w w' h hk => ⟨own_stab (Nat.le_refl _) h.1 h.2 hk, h.2⟩
theorem Fr.ownV {w0 w : World} {ls : List Res} (h : Fr w0 w ls) {lo : Nat} {e : TypeId} {size : Nat} {v : Value} {n : Nat} {vs : List Value} (ho : w.ownsRow lo e size v n vs) : Fr w0 w (⟨lo, w.heap.size, OwnP lo w.heap.size e size v n vs⟩ :: ls) :=
  h.add _ _ _ (OwnP.stab _ _ _ _ _ _ _) ⟨ho, fun k hk => (ho.lt k hk).2⟩ (Nat.le_refl _)
theorem OwnP.chg {w w' : World} {lo hi : Nat} {e : TypeId} {size : Nat} {v : Value} {n : Nat} {vs : List Value} (h : OwnP lo hi e size v n vs w) (hg : w.grownBy w' v.ownBlock) : Chg lo hi w w' :=
  Chg.ofGrown hg (fun k hk => ⟨(h.1.lt k hk).1, h.2 k hk⟩)

/-! ### Core0: small facts on boxes of rules, and on draws. Holds under the premises that each statement names. -/
theorem q_same {Pr : Program} {f : FuncId} {args : Array Value} {w : World} {v : Value} (h : Calls Pr f args w fun e w' => e = .returned v ∧ w = w') : Calls Pr f args w fun e w' => e = .returned v ∧ w' = w :=
  h.mono fun _ _ ⟨he, hm⟩ => ⟨he, hm.symm⟩
theorem Row.drewN {w : World} {a : Option Addr} {vs : List Value} (h : Row w a vs) (n : Nat) : Row (w.drewN n) a vs := h
theorem R.At.draw {w : World} {b o : Nat} {r : R} (h : R.At w b o r) (n : Nat) : R.At (w.drewN n) b o r := ⟨h.c0, h.c1, h.c2, h.c3, h.c4, h.c5, h.c6, h.c7, h.c8⟩
theorem R.boxc {w : World} {b : Nat} {r : R} (h : BoxP b r.cells.toList w) : R.At w b 0 r := ⟨h 0 _ rfl, h 1 _ rfl, h 2 _ rfl, h 3 _ rfl, h 4 _ rfl, h 5 _ rfl, h 6 _ rfl, h 7 _ rfl, h 8 _ rfl⟩
theorem BoxP.row {w : World} {b : Nat} {cs : List Value} (h : BoxP b cs w) : Row w (some ⟨b, 0, none⟩) cs := fun j v hv => ⟨b, 0, rfl, by rw [Nat.zero_add]; exact h j v hv⟩
theorem OwnP.step {lo hi : Nat} {e : TypeId} {size n : Nat} {v : Value} {vs : List Value} {w w' : World} (h : OwnP lo hi e size v n vs w) (hh : hi ≤ w.heap.size) (hb : Below w.heap.size w w') : OwnP lo hi e size v n vs w' :=
  OwnP.stab _ _ _ _ _ _ _ w w' h (fun k _ h2 => hb.block k (by omega))
theorem made {w w' : World} {cs : Array Value} {e : TypeId} (hw : w' = w.alloc (.cells cs e)) : Below w.heap.size w w' ∧ BoxP w.heap.size cs.toList w' ∧ w'.heap.size = w.heap.size + 1 := by
  subst hw
  exact ⟨below_alloc1 _ _, fun j v hv => by simpa using hv, by simp⟩
theorem BoxP.grown {w w' : World} {b : Nat} {cs : List Value} {row : Option Nat} (h : BoxP b cs w) (hg : w.grownBy w' row) (hne : row ≠ some b) (hl : b < w.heap.size) : BoxP b cs w' :=
  fun j v hv => cell_stab (h j v hv) (hg.block b hl (fun e => hne e.symm))
theorem Fr.from {w0 w : World} (h : Below w0.heap.size w0 w) : Fr w0 w [] := ⟨h, fun r hr => by simp at hr⟩
theorem cell_other {w : World} {g o b o' : Nat} {v : Value} (h : ¬ b = g) : (w.setCell ⟨g, o, none⟩ v).cell? ⟨b, o', none⟩ = w.cell? ⟨b, o', none⟩ := by
  apply World.cell?_setCell_other
  intro e
  cases e
  exact h rfl
theorem Fr.box {w0 w : World} {ls : List Res} (h : Fr w0 w ls) {b : Nat} {cs : List Value} (hb : BoxP b cs w) (hl : b < w.heap.size) : Fr w0 w (⟨b, b + 1, BoxP b cs⟩ :: ls) := h.add _ _ _ (BoxP.stab _ _) hb hl

/-! ### App: append to a row of the call's own: where the new row lies. Holds under the premises that the statement names. -/
theorem wpList_append_own2 {P : Program} (w : World) {ops : Array Oper} {rest : List Oper} {o : Oper} {a : Act} {Q : Exit → Act → World → Prop} (hgd : o.guard = none) (s x : Operand) (t : TypeId)
    (ho : o.op = .call { callee := .builtin .append, args := #[s, x], argTypes := #[t, t] })
    (base : Nat) (e : TypeId) (i : TypeInfo) (z : Value) (size bytes : Nat) (ht : P.underlying t = some (.slice e)) (hi : P.info? e = some i) (hz : i.zero = some z)
    (hsize : i.size = size) (hby : i.bytes = bytes) (hzs : z.cells.size = size) (hsz : 0 < size)
    (v : Value) (n : Nat) (xs : List Value) (hs : a.eval s = v) (hown : w.ownsRow base e size v n xs)
    (ad : Addr) (m c : Nat) (news : List Value) (hx : a.eval x = .slice (some ad) m c) (hl : news.length = m * size) (hnews : ∀ j u, news[j]? = some u → w.cell? (ad.add j) = some u) (h1 : ∀ u ∈ news, u.oneCell' = true)
    (h63 : n + m ≤ maxLen) (hbytes : (n + m) * bytes ≤ 140737488355328) (hbase : base ≤ w.heap.size)
    (h : ∀ ad' c' w', w'.ownsRow base e size (.slice ad' (n + m) c') (n + m) (xs ++ news) → w.grownBy w' v.ownBlock → (∀ k, (Value.slice ad' (n + m) c').ownBlock = some k → v.ownBlock = some k ∨ w.heap.size ≤ k) → wpList P ops Q rest (a.put o.dst (.slice ad' (n + m) c')) w') : wpList P ops Q (o :: rest) a w := by
  have hxl := hown.1
  obtain ⟨_, h2 | ⟨g, cap, cur, hv, hb, hg, hn, hm, hcs, ht2⟩⟩ := hown
  · obtain ⟨rfl, rfl⟩ := h2
    have hx0 : xs = [] := List.eq_nil_of_length_eq_zero (by simpa using hxl)
    subst hx0
    refine wpList_append_own w hgd s x t ho w.heap.size e i z size bytes ht hi hz hsize hby hzs hsz _ 0 [] hs (World.ownsRow_nil _ _ _ _) ad m c news hx hl hnews h1 h63 hbytes (Nat.le_refl _) fun v' w' o1 o2 _ => ?_
    obtain ⟨ad', c', rfl⟩ := own_form o1
    exact h ad' c' w' (ownsRow_le o1 hbase) o2 (fun k hk => .inr (o1.lt k hk).1)
  · have hown : w.ownsRow base e size v n xs := ⟨hxl, .inr ⟨g, cap, cur, hv, hb, hg, hn, hm, hcs, ht2⟩⟩
    subst hv
    by_cases hr : n + m ≤ cap
    · refine wpList_append_fits w hgd s x t ho base e i size ht hi hsize g n cap xs hs hown ad m c news hx hl hnews h1 hr fun w' o1 o2 => ?_
      exact h _ _ w' o1 o2 (fun k hk => .inl (by simpa [Value.ownBlock] using hk))
    · refine wpList_append_grows w hgd s x t ho e i z size bytes ht hi hz hsize hby hzs hsz (some ⟨g, 0, none⟩) n cap xs hs (fun e => by cases e) hxl (fun b hb' => by cases hb'; exact fun j u hu => hown.cells rfl j u hu) ad m c news hx hl hnews h1 (by omega) h63 hbytes fun v' w' o1 o2 => ?_
      obtain ⟨ad', c', rfl⟩ := own_form o1
      exact h ad' c' w' (ownsRow_le o1 hbase) ⟨o2.os, o2.tape, o2.output, o2.size, fun k hk _ => o2.block k hk (by simp)⟩ (fun k hk => .inr (o1.lt k hk).1)

end Go.Proofs.Ytbjgigdkbjabaaa
