/- Ground of all proofs of this seat: how a law's row follows from its contract; rows of cells that are read; the arguments of the laws, opened. Holds without conditions. -/
import Derived.Test.YtbjgigdkbjabaaaRows
import Derived.WalkKit
import Derived.WalkSpells
import Derived.WalkLawsBesides
import Derived.Lib.Hide
import Derived.ProofKit
import Derived.OpenShut
import Derived.Lib.SmallJoins
namespace Go.Proofs.Ytbjgigdkbjabaaa
set_option linter.unusedSimpArgs false
set_option linter.unusedVariables false
set_option linter.unnecessarySimpa false
open Go.RowKit Go.ChangeShapes Go.WideShapes Go.ChangeAt Go.Joins
open Go.ChangeMaps (open_string)

/-! ### how a law's row follows -/
theorem own : ownKnob Try.prog.godebug = none := by kernel_rfl
theorem laid : laidOutB Try.prog = true := by kernel_rfl

theorem trodAll_below {H : Type} {enc : TypeId × Value → H} {W W' : World} (hb : Below W.heap.size W W') :
    ∀ {ts : List TypeId} {vs : List Value} {ds : List (DataW H)} {ps : List MemPlace}, (∀ t ∈ ts, Try.prog.readableRec t = true ∧ t < Try.prog.types.size) →
      DataW.TrodAll enc Try.prog W 0 (fun _ => true) true ts vs ds ps → (∀ x ∈ ps, x.block < W.heap.size) →
      DataW.TrodAll enc Try.prog W' 0 (fun b => decide (b < W.heap.size)) true ts vs ds ps
  | [], vs, ds, ps, _, h, _ => by
    obtain ⟨rfl, rfl, rfl⟩ := trodAll_nil h
    exact rfl
  | t :: ts, vs, ds, ps, ht, h, hlt => by
    obtain ⟨v, vs', d, ds', p, q, rfl, rfl, rfl, h1, h2⟩ := trodAll_cons h
    refine ⟨p, q, Below.trod laid (ht t (by simp)).1 (ht t (by simp)).2 h1 hb (fun x hx => hlt x (by simp [hx])), ?_, rfl⟩
    exact trodAll_below hb (fun t' h' => ht t' (by simp [h'])) h2 (fun x hx => hlt x (by simp [hx]))

theorem law_post {H : Type} {enc : TypeId × Value → H} {f : Func} {s : ChangeSpec} {W W' : World} {args : Array Value} {ds gs : List (DataW H)} {before : List MemPlace}
    (hW : DataW.Whole enc Try.prog f.params.toList s.vars false W args.toList ds gs before)
    (hb : Below W.heap.size W W') (hvars : s.vars = []) (hrt : f.resultTypes = #[4])
    (hread : (f.params.toList.all fun t => Try.prog.readableRec t && decide (t < Try.prog.types.size)) = true)
    (hfn : s.fn H (ds ++ []) = { results := [.lit (.bool true)], args := ds }) :
    s.post enc Try.prog f false true false false W args (.bool true) W' := by
  have hlt := hW.lt
  have hW' := hW
  obtain ⟨p, q, hA, hV, rfl, hfz, hnd⟩ := hW
  rw [hvars] at hV
  obtain ⟨rfl, rfl⟩ := trodVars_none hV
  refine ⟨ds, [], p ++ [], [], p, [], hW', ?_, ?_, ?_, hb.frame _, fun h => by cases h⟩
  · rw [hfn, hrt]
    exact trodAll_mk1 (shut_bool Try.underlying4 true)
  · rw [hfn]
    refine trodAll_below hb (fun t ht => ?_) hA (fun x hx => hlt x (by simp [hx]))
    have := List.all_eq_true.1 hread t ht
    simpa using this
  · rw [hfn, hvars]
    exact rfl

/-! ### rows of cells that are read -/
/-- what a slice that begins at a reads: cell j holds vs[j] -/
def Row (w : World) (a : Option Addr) (vs : List Value) : Prop :=
  ∀ (j : Nat) (v : Value), vs[j]? = some v → ∃ b off, a = some ⟨b, off, none⟩ ∧ w.cell? ⟨b, off + j, none⟩ = some v
@[reducible] def Ints (w : World) (a : Option Addr) (xs : List Int) : Prop := Row w a (xs.map (Value.int .i64))

theorem Row.below {B : Nat} {w w' : World} {a : Option Addr} {vs : List Value} (h : Row w a vs) (hb : Below B w w') (hB : w.heap.size ≤ B) : Row w' a vs := by
  intro j v hv
  obtain ⟨b, off, ha, hc⟩ := h j v hv
  refine ⟨b, off, ha, ?_⟩
  have := World.block_lt_of_cell? w _ hc
  rw [hb.cell (p := ⟨b, off + j, none⟩) (by simp at this ⊢; omega)]
  exact hc
theorem Row.drew {w : World} {a : Option Addr} {vs : List Value} (h : Row w a vs) : Row w.drew a vs := h
theorem Row.at {w : World} {a : Option Addr} {vs : List Value} (h : Row w a vs) (hp : 0 < vs.length) :
    ∃ b off, a = some ⟨b, off, none⟩ ∧ b < w.heap.size ∧ ∀ (j : Nat) (v : Value), vs[j]? = some v → w.cell? ⟨b, off + j, none⟩ = some v := by
  obtain ⟨b, off, ha, hc⟩ := h 0 vs[0] (by simp)
  refine ⟨b, off, ha, World.block_lt_of_cell? w _ hc, fun j v hv => ?_⟩
  obtain ⟨b', off', ha', hc'⟩ := h j v hv
  rw [ha] at ha'
  obtain ⟨rfl, rfl⟩ : b = b' ∧ off = off' := by simpa using ha'
  exact hc'
theorem Ints.at {w : World} {a : Option Addr} {xs : List Int} (h : Ints w a xs) {k : Nat} (hk : k < xs.length) :
    ∃ b off, a = some ⟨b, off, none⟩ ∧ b < w.heap.size ∧ w.cell? ⟨b, off + k, none⟩ = some (.int .i64 xs[k]) := by
  obtain ⟨b, off, ha, hc⟩ := h k (.int .i64 xs[k]) (by simp [hk])
  exact ⟨b, off, ha, World.block_lt_of_cell? w _ hc, hc⟩

theorem row_lit (w : World) (vs : List Value) (e : TypeId) {n : Nat} (hn : n = w.heap.size) : Row (w.alloc (.cells vs.toArray e)) (some ⟨n, 0, none⟩) vs := by
  subst hn
  intro j v hv
  exact ⟨_, _, rfl, by simpa using hv⟩

/-! ### rows of the call's own -/
@[reducible] def OwnI (w : World) (base : Nat) (a : Option Addr) (c : Nat) (xs : List Int) : Prop := w.ownsRow base 2 1 (.slice a xs.length c) xs.length (xs.map (Value.int .i64))

theorem own_row {w : World} {base : Nat} {e : TypeId} {size n c : Nat} {a : Option Addr} {vs : List Value} (h : w.ownsRow base e size (.slice a n c) n vs) : Row w a vs := by
  intro j v hv
  obtain ⟨hl, h | ⟨g, cap, cur, hv', hb, hg, hn, hm, hs, ht⟩⟩ := h
  · obtain ⟨h1, rfl⟩ := h
    have hz : vs.length = 0 := by simpa using hl
    have : vs = [] := List.eq_nil_of_length_eq_zero hz
    subst this
    simp at hv
  · simp at hv'
    refine ⟨g, 0, hv'.1, ?_⟩
    simp only [World.cell?, hg]
    rw [← ht] at hv
    rw [List.getElem?_take] at hv
    split at hv
    · simpa using hv
    · simp at hv
theorem own_form {w : World} {base : Nat} {e : TypeId} {size n : Nat} {v : Value} {vs : List Value} (h : w.ownsRow base e size v n vs) : ∃ a c, v = .slice a n c := by
  obtain ⟨_, h | ⟨g, cap, _, hv, _⟩⟩ := h
  · obtain ⟨rfl, rfl⟩ := h
    exact ⟨_, _, rfl⟩
  · exact ⟨_, _, hv⟩
theorem own_below {w w' : World} {B base : Nat} {e : TypeId} {size n : Nat} {v : Value} {vs : List Value} (h : w.ownsRow base e size v n vs) (hb : Below B w w') (hB : w.heap.size ≤ B) : w'.ownsRow base e size v n vs := by
  refine ⟨h.1, ?_⟩
  rcases h.2 with h2 | ⟨g, cap, cur, hv, hg, hh, r⟩
  · exact .inl h2
  · have hlt := (Array.getElem?_eq_some_iff.1 hh).1
    exact .inr ⟨g, cap, cur, hv, hg, by rw [hb.block g (by omega)]; exact hh, r⟩
theorem bcell {W w1 : World} (hb : Below W.heap.size W w1) : (∀ b o, b < W.heap.size → w1.cell? ⟨b, o, none⟩ = W.cell? ⟨b, o, none⟩) ∧ (∀ b o, b < W.heap.size → w1.frozen? ⟨b, o, none⟩ = W.frozen? ⟨b, o, none⟩) :=
  ⟨fun b o h => hb.cell (p := ⟨b, o, none⟩) h, fun b o h => hb.frozen (p := ⟨b, o, none⟩) h⟩

theorem below_next {W w w' : World} (h : Below W.heap.size W w) (h' : Below w.heap.size w w') : Below W.heap.size W w' := h.trans (h'.mono h.size)
theorem ret_bool {a b : Bool} (h : a = b) : Ending.returned (.bool a) = .returned (.bool b) := by rw [h]
theorem ret_int {k : IntKind} {a b : Int} (h : a = b) : Ending.returned (.int k a) = .returned (.int k b) := by rw [h]

theorem grown_trans {a b c : World} {row : Option Nat} (h : a.grownBy b row) (k : b.grownBy c row) : a.grownBy c row :=
  ⟨k.os.trans h.os, k.tape.trans h.tape, k.output.trans h.output, Nat.le_trans h.size k.size, fun i hi hne => (k.block i (Nat.lt_of_lt_of_le hi h.size) hne).trans (h.block i hi hne)⟩
theorem grown_below {a b : World} (h : Below a.heap.size a b) (row : Option Nat) : a.grownBy b row := ⟨h.os, h.tape, h.output, h.size, fun k hk _ => h.block k hk⟩
theorem below_grown {W a b : World} {row : Option Nat} (h : Below W.heap.size W a) (hg : a.grownBy b row) (hr : ∀ k, row = some k → W.heap.size ≤ k) : Below W.heap.size W b :=
  h.grown hg h.size hr
theorem own_lt_n {w : World} {base : Nat} {e : TypeId} {size n c : Nat} {a : Option Addr} {vs : List Value} (h : w.ownsRow base e size (.slice a n c) n vs) (hp : 0 < n) : ∃ g, a = some ⟨g, 0, none⟩ ∧ base ≤ g ∧ g < w.heap.size := by
  rcases h.2 with ⟨_, h0⟩ | ⟨g, cap, cur, hv, hb, hg, _⟩
  · omega
  · simp at hv
    exact ⟨g, hv.1, hb, (Array.getElem?_eq_some_iff.1 hg).1⟩

/-! ### numbers -/
def I64 (n : Int) : Prop := -9223372036854775808 ≤ n ∧ n ≤ 9223372036854775807
theorem I64_of_wf {n : Int} (h : (Lit.int .i64 n).wf = true) : I64 n := by
  simpa [Lit.wf, IntKind.min, IntKind.max, IntKind.signed, IntKind.bits, I64] using h

/-! ### the laws' arguments, opened -/
section
variable {H : Type} {enc : TypeId × Value → H} {W : World} {base : Nat} {spare : Nat → Bool} {held : Bool} {fuel : Nat} {cs : List Value} {x : DataW H × List MemPlace}

theorem open_slice_ints (h : DataW.trod enc Try.prog W 0 (fun _ => true) held fuel 24 cs = some x) :
    ∃ a c xs, cs = [.slice a xs.length c] ∧ Ints W a xs ∧ xs.length ≤ maxLen ∧ ∀ n ∈ xs, I64 n := by
  rcases open_ints Try.underlying24 Try.underlying2 (by kernel_rfl) h with ⟨hcs, hx⟩ | ⟨a, len, cap, zs, hcs, _, hl, hm, hz, hx, hcell, hwz⟩
  · exact ⟨none, 0, [], by simpa using hcs, by intro j v hv; simp at hv, by simp, by simp⟩
  · have hz' : zs.length = cap := by simpa using hz
    have hlen : (zs.take len).length = len := by simp; omega
    refine ⟨some a, cap, zs.take len, by rw [hlen]; exact hcs, ?_, by omega, fun n hn => I64_of_wf (hwz n (List.mem_of_mem_take hn))⟩
    intro j v hv
    simp only [List.getElem?_map, Option.map_eq_some_iff] at hv
    obtain ⟨n, hn, rfl⟩ := hv
    rw [List.getElem?_take] at hn
    split at hn
    · rename_i hj
      obtain ⟨b, off, ha, hc⟩ := ints_at hcell (by omega)
      refine ⟨b, off, by rw [ha], ?_⟩
      rw [hc j (by omega)]
      simp [List.getD_eq_getElem?_getD, hn]
    · simp at hn
end

theorem open_struct_val {r : Reach} {P : Program} {w : World} {base : Nat} {t : TypeId} {v : Value} {fs : Array Field} (ht : P.underlying t = some (.struct fs)) (h : Value.okWide P w r base t v) : ∃ cs, v = .agg cs := by
  simp only [Value.okWide, ht] at h
  obtain ⟨cs, hv, _⟩ := h
  exact ⟨cs, hv⟩

theorem list3 {α : Type} {cs : List α} (h : cs.length = 3) : ∃ a b c, cs = [a, b, c] := by
  match cs, h with
  | [a, b, c], _ => exact ⟨a, b, c, rfl⟩
theorem list9 {α : Type} {cs : List α} (h : cs.length = 9) : ∃ a b c d e f g i j, cs = [a, b, c, d, e, f, g, i, j] := by
  match cs, h with
  | [a, b, c, d, e, f, g, i, j], _ => exact ⟨a, b, c, d, e, f, g, i, j, rfl⟩

end Go.Proofs.Ytbjgigdkbjabaaa
