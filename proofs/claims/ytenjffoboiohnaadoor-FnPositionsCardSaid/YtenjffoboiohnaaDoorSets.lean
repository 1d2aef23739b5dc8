/- Sets: a box whose cells are stored anew, some in a row, among calls that make memory. Holds under the premises that each statement names. -/
import Derived.Test.YtenjffoboiohnaaDoorFrame
import Derived.Deep.MidRow
import Derived.WalkSmall
import Derived.Laws.Bits64b
import Derived.IntWalk
import Derived.Deep.QuietTactic
namespace Go.Proofs.YtenjffoboiohnaaDoor
set_option linter.unusedSimpArgs false
set_option linter.unusedVariables false
set_option linter.unnecessarySimpa false
open Go.RowKit Go.ChangeShapes Go.WideShapes Go.ChangeAt Go.Joins

def setL (cs : List Value) (o : Nat) : List Value → List Value
  | [] => cs
  | v :: vs => setL (cs.set o v) (o + 1) vs
/-- the first cells of block b, none of them frozen -/
structure Bx (b : Nat) (cs : List Value) (w : World) : Prop where
  box : BoxP b cs w
  free : ∀ o, w.frozen? ⟨b, o, none⟩ = false
theorem Bx.alloc (w : World) (cs : Array Value) (t : TypeId) {n : Nat} (hn : n = w.heap.size) : Bx n cs.toList (w.alloc (.cells cs t)) := by
  subst hn
  exact ⟨fun j v hv => by simpa using hv, fun o => by simp⟩
theorem Bx.lt {b : Nat} {cs : List Value} {w : World} (h : Bx b cs w) (hc : 0 < cs.length) : b < w.heap.size := World.block_lt_of_cell? w _ (h.box 0 cs[0] (by simp))
theorem Bx.below {b B : Nat} {cs : List Value} {w w' : World} (h : Bx b cs w) (hb : Below B w w') (hB : b < B) : Bx b cs w' :=
  ⟨fun j v hv => (hb.cell (p := ⟨b, j, none⟩) hB).trans (h.box j v hv), fun o => (hb.frozen (p := ⟨b, o, none⟩) hB).trans (h.free o)⟩
theorem Bx.chg {b lo hi : Nat} {cs : List Value} {w w' : World} (h : Bx b cs w) (hc : Chg lo hi w w') (hl : b < w.heap.size) (hd : b < lo ∨ hi ≤ b) : Bx b cs w' :=
  ⟨BoxP.stab b cs w w' h.box (fun k k1 k2 => hc.block k (by omega) (by omega)), fun o => (World.frozen?_of_block (w := w) (hc.block b hl hd)).trans (h.free o)⟩
theorem Bx.drew {b : Nat} {cs : List Value} {w : World} (h : Bx b cs w) : Bx b cs w.drew := ⟨h.box, h.free⟩
theorem Bx.drewN {b : Nat} {cs : List Value} {w : World} (h : Bx b cs w) (n : Nat) : Bx b cs (w.drewN n) := ⟨fun j v hv => (by rw [World.cell?_drewN]; exact h.box j v hv), fun o => by rw [World.frozen?_drewN]; exact h.free o⟩
theorem Bx.allocO {b : Nat} {cs : List Value} {w : World} (h : Bx b cs w) (hl : b < w.heap.size) (xs : Array Value) (t : TypeId) : Bx b cs (w.alloc (.cells xs t)) := h.below ((Below.refl _ _).alloc (Nat.le_refl _) _) hl
theorem Bx.other {b : Nat} {cs : List Value} {w : World} (h : Bx b cs w) (p : Addr) (hp : p.block ≠ b) (v : Value) : Bx b cs (w.setCell p v) :=
  ⟨fun j u hu => (World.cell?_setCell_other _ _ _ _ (by intro e; rw [e] at hp; exact hp rfl)).trans (h.box j u hu), fun o => by simpa using h.free o⟩
theorem Bx.set {b o : Nat} {cs : List Value} {w : World} (h : Bx b cs w) (ho : o < cs.length) (v : Value) : Bx b (cs.set o v) (w.setCell ⟨b, o, none⟩ v) := by
  refine ⟨fun j u hu => ?_, fun o' => by simpa using h.free o'⟩
  by_cases hj : o = j
  · subst hj
    have : v = u := by simpa [ho] using hu
    subst this
    exact World.cell?_setCell_same _ _ (u := cs[o]) _ (h.box o _ (by simp [ho]))
  · rw [List.getElem?_set_ne hj] at hu
    exact (World.cell?_setCell_other _ _ _ _ (by intro e; injection e; omega)).trans (h.box j u hu)
theorem Bx.sets {b : Nat} : ∀ {vs : List Value} {o : Nat} {cs : List Value} {w : World}, Bx b cs w → o + vs.length ≤ cs.length → Bx b (setL cs o vs) (w.setCells b o vs)
  | [], o, cs, w, h, _ => h
  | v :: vs, o, cs, w, h, hl => by
    have hl' : o + (vs.length + 1) ≤ cs.length := hl
    exact Bx.sets (vs := vs) (o := o + 1) (cs := cs.set o v) (w := w.setCell ⟨b, o, none⟩ v) (h.set (by omega) v) (by rw [List.length_set]; omega)
theorem Bx.setsO {b nb : Nat} {cs : List Value} (hn : b ≠ nb) : ∀ (vs : List Value) (o : Nat) {w : World}, Bx b cs w → Bx b cs (w.setCells nb o vs)
  | [], o, w, h => h
  | v :: vs, o, w, h => Bx.setsO hn vs (o + 1) (h.other ⟨nb, o, none⟩ (fun e => hn e.symm) v)
theorem below_sets {B nb : Nat} {w0 : World} (hn : B ≤ nb) : ∀ (vs : List Value) (o : Nat) {w : World}, Below B w0 w → Below B w0 (w.setCells nb o vs)
  | [], o, w, h => h
  | v :: vs, o, w, h => below_sets hn vs (o + 1) (Below.setCell h hn v)
theorem chg_sets (nb : Nat) : ∀ (vs : List Value) (o : Nat) (w : World), Chg nb (nb + 1) w (w.setCells nb o vs)
  | [], o, w => Chg.refl _ _ _
  | v :: vs, o, w => (show Chg nb (nb + 1) w (w.setCell ⟨nb, o, none⟩ v) from ⟨rfl, rfl, rfl, by simp, fun k hk hn => Below.heap_setCell _ _ _ k (by simp; omega)⟩).trans (chg_sets nb vs (o + 1) _)
theorem size_sets (nb : Nat) : ∀ (vs : List Value) (o : Nat) (w : World), (w.setCells nb o vs).heap.size = w.heap.size
  | [], o, w => rfl
  | v :: vs, o, w => by rw [World.setCells, size_sets nb vs (o + 1)]; simp
theorem setL_all : ∀ (vs cs us : List Value), vs.length = cs.length → setL (us ++ cs) us.length vs = us ++ vs
  | [], cs, us, h => by
    have : cs = [] := List.eq_nil_of_length_eq_zero h.symm
    subst this; rfl
  | v :: vs, [], us, h => by cases h
  | v :: vs, c :: cs, us, h => by
    have h1 := setL_all vs cs (us ++ [v]) (by simpa using h)
    simp only [setL]
    have e : (us ++ c :: cs).set us.length v = us ++ [v] ++ cs := by simp
    rw [e]
    simpa using h1
theorem Bx.sets_all {b : Nat} {vs cs : List Value} {w : World} (h : Bx b cs w) (hl : vs.length = cs.length) : Bx b vs (w.setCells b 0 vs) := by
  have h1 := h.sets (vs := vs) (o := 0) (by omega)
  have h2 := setL_all vs cs [] hl
  simp only [List.nil_append, List.length_nil] at h2
  rwa [h2] at h1
theorem Bx.there {b : Nat} {cs : List Value} {w : World} (h : Bx b cs w) : w.there b 0 cs.length := fun j hj => ⟨by rw [Nat.zero_add, h.box j cs[j] (by simp [hj])]; rfl, h.free _⟩
theorem results_bx {P : Program} {fn : Func} {p : Tmp} {ty : TypeId} {d : TypeDesc} {b : Nat} {cs : List Value} (h : fn.results = #[.cell p ty]) (tmps : Array Value) (hp : tmps.getD p undef = .pointer (some ⟨b, 0, none⟩)) (w : World) (hx : Bx b cs w)
    (hu : P.underlying ty = some d) (hd : d.isRow = true) (hi : (P.info? ty).map (·.size) = some cs.length) : (results fn tmps).run P w = .ok (.agg cs.toArray) w := by
  have hl := run_loadVar_mid (P := P) w b 0 ty cs d (fun j v hv => by rw [Nat.zero_add]; exact hx.box j v hv) hu hd hi
  have hp' : tmps[p]?.getD undef = .pointer (some ⟨b, 0, none⟩) := by simpa using hp
  simp [results, h, hp', asAddr, hl]
theorem boxP_set {b o : Nat} {cs : List Value} {w : World} (h : BoxP b cs w) (ho : o < cs.length) (v : Value) : BoxP b (cs.set o v) (w.setCell ⟨b, o, none⟩ v) := fun j u hu => by
  by_cases hj : o = j
  · subst hj
    have : v = u := by simpa [ho] using hu
    subst this
    exact World.cell?_setCell_same _ _ (u := cs[o]) _ (h o _ (by simp [ho]))
  · rw [List.getElem?_set_ne hj] at hu
    exact (World.cell?_setCell_other _ _ _ _ (by intro e; injection e; omega)).trans (h j u hu)
theorem boxP_sets {b : Nat} : ∀ {vs : List Value} {o : Nat} {cs : List Value} {w : World}, BoxP b cs w → o + vs.length ≤ cs.length → BoxP b (setL cs o vs) (w.setCells b o vs)
  | [], o, cs, w, h, _ => h
  | v :: vs, o, cs, w, h, hl => by
    have hl' : o + (vs.length + 1) ≤ cs.length := hl
    exact boxP_sets (vs := vs) (o := o + 1) (cs := cs.set o v) (w := w.setCell ⟨b, o, none⟩ v) (boxP_set h (by omega) v) (by rw [List.length_set]; omega)
theorem boxP_sets_all {b : Nat} {vs cs : List Value} {w : World} (h : BoxP b cs w) (hl : vs.length = cs.length) : BoxP b vs (w.setCells b 0 vs) := by
  have h1 := boxP_sets (vs := vs) (o := 0) h (by omega)
  have h2 := setL_all vs cs [] hl
  simp only [List.nil_append, List.length_nil] at h2
  rwa [h2] at h1

/-! ### Src: the source of drawn choices: each function's contract says in which range its choice lies, and that the source is a source still. Each holds for every argument, under the premises that it states. -/
@[reducible] def Bytes (w : World) (a : Option Addr) (xs : List Int) : Prop := Row w a (xs.map (Value.int .u8))
/-- the bytes that a source reads: they lie below base -/
structure ByteP (base : Nat) (ca : Option Addr) (bs : List Int) (w : World) : Prop where
  row : Bytes w ca bs
  rng : ∀ x ∈ bs, 0 ≤ x ∧ x ≤ 255
  len : bs.length ≤ 4096
  low : ∀ cb co s, ca = some ⟨cb, co, s⟩ → 0 < bs.length → cb < base
theorem ByteP.keep {base : Nat} {ca : Option Addr} {bs : List Int} {w w' : World} (h : ByteP base ca bs w) (hk : ∀ k, k < base → w'.heap[k]? = w.heap[k]?) : ByteP base ca bs w' :=
  ⟨fun j v hv => by
    obtain ⟨b, off, ha, hc⟩ := h.row j v hv
    have hl : j < (bs.map (Value.int .u8)).length := (List.getElem?_eq_some_iff.1 hv).1
    exact ⟨b, off, ha, cell_stab hc (hk b (h.low _ _ _ ha (by simp at hl; omega)))⟩, h.rng, h.len, h.low⟩
/-- block b is a source that has read at most m choices -/
def SrcP (base b m : Nat) (w : World) : Prop := ∃ (ca : Option Addr) (cc : Nat) (bs : List Int) (k sd : Int),
  ByteP base ca bs w ∧ Bx b [.slice ca bs.length cc, .int .i64 k, .int .u64 sd] w ∧ 0 ≤ k ∧ k ≤ m ∧ base ≤ b
theorem SrcP.chg {base b m lo hi : Nat} {w w' : World} (h : SrcP base b m w) (hc : Chg lo hi w w') (hl : base ≤ lo) (hd : b < lo ∨ hi ≤ b) : SrcP base b m w' := by
  obtain ⟨ca, cc, bs, k, sd, hb, hx, h0, h1, h2⟩ := h
  have := hx.lt (by simp)
  exact ⟨ca, cc, bs, k, sd, hb.keep (fun j hj => hc.block j (by omega) (.inl (by omega))), hx.chg hc this hd, h0, h1, h2⟩
theorem SrcP.below {base b m : Nat} {w w' : World} (h : SrcP base b m w) (hb : Below w.heap.size w w') : SrcP base b m w' :=
  h.chg (lo := w.heap.size) (hi := w.heap.size) (Chg.ofBelow hb) (by obtain ⟨_, _, _, _, _, _, hx, _, _, h2⟩ := h; have := hx.lt (by simp); omega) (by obtain ⟨_, _, _, _, _, _, hx, _⟩ := h; exact .inl (hx.lt (by simp)))
theorem SrcP.mono {base b m m' : Nat} {w : World} (h : SrcP base b m w) (hm : m ≤ m') : SrcP base b m' w := by
  obtain ⟨ca, cc, bs, k, sd, hb, hx, h0, h1, h2⟩ := h
  exact ⟨ca, cc, bs, k, sd, hb, hx, h0, by omega, h2⟩
theorem SrcP.lt {base b m : Nat} {w : World} (h : SrcP base b m w) : b < w.heap.size ∧ base ≤ b := by
  obtain ⟨ca, cc, bs, k, sd, hb, hx, h0, h1, h2⟩ := h
  exact ⟨hx.lt (by simp), h2⟩

theorem chg_next (b n1 n2 : Nat) (u v : Value) (w : World) : Chg b (b + 1) w ((((w.drewN n1).setCell ⟨b, 1, none⟩ u).setCell ⟨b, 2, none⟩ v).drewN n2) :=
  (((Chg.ofBelow (below_draws _ _ n1)).trans (chg_sets b [u] 1 _)).trans (chg_sets b [v] 2 _)).trans (Chg.ofBelow (below_draws _ _ n2))
theorem src_next {base b m n1 n2 cc : Nat} {ca : Option Addr} {bs : List Int} {k k' sd sd' : Int} {w : World} (hb : ByteP base ca bs w) (hx : Bx b [.slice ca bs.length cc, .int .i64 k, .int .u64 sd] w) (h0 : 0 ≤ k) (h1 : k ≤ m) (h2 : base ≤ b) (hk : k' = k + 1) :
    SrcP base b (m + 1) ((((w.drewN n1).setCell ⟨b, 1, none⟩ (.int .i64 k')).setCell ⟨b, 2, none⟩ (.int .u64 sd')).drewN n2) := by
  have hc := chg_next b n1 n2 (.int .i64 k') (.int .u64 sd') w
  have hl := hx.lt (by simp)
  refine ⟨ca, cc, bs, k', sd', hb.keep (fun j hj => hc.block j (by omega) (.inl (by omega))), ?_, by omega, by omega, h2⟩
  exact (((hx.drewN n1).set (o := 1) (by simp) (.int .i64 k')).set (o := 2) (by simp) (.int .u64 sd')).drewN n2
theorem low255 (E : Int) (h0 : 0 ≤ E) (h1 : E ≤ 18446744073709551615) : ∃ v : Int, wrap64 (bits BinOp.and IntKind.u64 (E / 1099511627776) 255) = v ∧ 0 ≤ v ∧ v ≤ 255 := by
  obtain ⟨n, hn⟩ : ∃ n : Nat, E / 1099511627776 = n := ⟨(E / 1099511627776).toNat, by omega⟩
  have h := bits_and_u64_nat n 255 (by omega) (by omega)
  have h2 : n &&& 255 ≤ 255 := Nat.and_le_right
  rw [hn]
  have h3 : bits BinOp.and IntKind.u64 (n : Int) 255 = ((n &&& 255 : Nat) : Int) := h
  rw [h3]
  exact ⟨((n &&& 255 : Nat) : Int), by unfold wrap64; omega, by omega, by omega⟩
set_option maxHeartbeats 4000000 in
theorem next_c (base b m : Nat) (w : World) (h : SrcP base b m w) (hm : m ≤ 1000000000) :
    Calls Tryd.prog 47 #[.pointer (some ⟨b, 0, none⟩)] w fun e w' => ∃ v : Int, e = .returned (.int .i64 v) ∧ 0 ≤ v ∧ v ≤ 255 ∧ SrcP base b (m + 1) w' ∧ Chg b (b + 1) w w' := by
  obtain ⟨ca, cc, bs, k, sd, hb, hx, h0, h1, h2⟩ := h
  have c0 := hx.box 0 _ rfl
  have c1 := hx.box 1 _ rfl
  have c2 := hx.box 2 _ rfl
  have cf := hx.free
  have hlen := hb.len
  by_cases hlt : k < bs.length
  · obtain ⟨n, rfl⟩ : ∃ n : Nat, k = n := ⟨k.toNat, by omega⟩
    have hn : n < bs.length := by omega
    obtain ⟨cb, co, rfl, hcl⟩ := hb.row n (.int .u8 bs[n]) (by simp [hn])
    obtain ⟨r0, r1⟩ := hb.rng bs[n] (List.getElem_mem hn)
    have hcb := hb.low _ _ _ rfl (by omega)
    have hne : ¬ cb = b := by omega
    have HB := Lib.hid hb
    have HX := Lib.hid hx
    clear hb hx
    go_enter Tryd.func47, Tryd.ntmps47
    go_wp2
    go_quiet (fail)
    go_wp2
    go_quiet (fail)
    go_wp2
    go_quiet (fail)
    go_wp2
    go_ret
    have hw : IntKind.i64.wrap bs[n] = bs[n] := IntWalk.i64_in _ (by omega)
    refine ⟨bs[n], congrArg (fun z => Ending.returned (.int .i64 z)) hw, r0, r1, ?_, ?_⟩
    · exact src_next HB.out HX.out h0 h1 h2 rfl
    · exact chg_next b _ _ _ _ w
  · have HB := Lib.hid hb
    have HX := Lib.hid hx
    clear hb hx
    go_enter Tryd.func47, Tryd.ntmps47
    go_wp2
    go_quiet (fail)
    go_wp2
    go_quiet (fail)
    go_wp2
    go_ret
    obtain ⟨v, hv, v0, v1⟩ := low255 (IntKind.u64.wrap (IntKind.u64.wrap (IntKind.u64.wrap (sd * 6364136223846793005)) + 1442695040888963407)) (by rw [IntKind.wrap_u64]; omega) (by rw [IntKind.wrap_u64]; omega)
    refine ⟨v, congrArg (fun z => Ending.returned (.int .i64 z)) hv, v0, v1, ?_, ?_⟩
    · exact src_next HB.out HX.out h0 h1 h2 rfl
    · exact chg_next b _ _ _ _ w

set_option maxHeartbeats 4000000 in
theorem pick_c (base b m : Nat) (n : Int) (w : World) (h : SrcP base b m w) (hm : m ≤ 100000000) (hn : -9223372036854775808 ≤ n ∧ n ≤ 9223372036854775807) :
    Calls Tryd.prog 35 #[.pointer (some ⟨b, 0, none⟩), .int .i64 n] w fun e w' => ∃ v : Int, e = .returned (.int .i64 v) ∧ 0 ≤ v ∧ (v < n ∨ v = 0) ∧ SrcP base b (m + 2) w' ∧ Chg b (b + 1) w w' := by
  have H := Lib.hid h
  clear h
  by_cases h1 : n ≤ 1
  · go_enter Tryd.func35, Tryd.ntmps35
    go_wp2
    go_ret
    exact ⟨0, rfl, by omega, .inr rfl, H.out.mono (by omega), Chg.refl _ _ _⟩
  · go_enter Tryd.func35, Tryd.ntmps35
    go_wp2_with fail
    refine (next_c base b m _ H.out (by omega)).mono ?_
    rintro e w1 ⟨v, rfl, v0, v1, hs1, hc1⟩
    have S1 := Lib.hid hs1
    have C1 := Lib.hid hc1
    clear hs1 hc1
    by_cases h2 : n > 200
    · go_wp2_with fail
      refine (next_c base b (m + 1) _ S1.out (by omega)).mono ?_
      rintro e w2 ⟨u, rfl, u0, u1, hs2, hc2⟩
      have S2 := Lib.hid hs2
      have C2 := Lib.hid (C1.out.trans hc2)
      clear hs2 hc2
      go_wp2
      go_ret
      exact ⟨_, rfl, Int.emod_nonneg _ (by omega), .inl (Int.emod_lt_of_pos _ (by omega)), S2.out, C2.out⟩
    · go_wp2
      go_ret
      exact ⟨_, rfl, Int.emod_nonneg _ (by omega), .inl (Int.emod_lt_of_pos _ (by omega)), S1.out.mono (by omega), C1.out⟩

theorem one_c (base b m : Nat) (n : Int) (w : World) (h : SrcP base b m w) (hm : m ≤ 100000000) (hn : -9223372036854775808 ≤ n ∧ n ≤ 9223372036854775807) :
    Calls Tryd.prog 31 #[.pointer (some ⟨b, 0, none⟩), .int .i64 n] w fun e w' => ∃ v : Bool, e = .returned (.bool v) ∧ SrcP base b (m + 2) w' ∧ Chg b (b + 1) w w' := by
  have H := Lib.hid h
  clear h
  go_enter Tryd.func31, Tryd.ntmps31
  go_wp2_with fail
  refine (pick_c base b m n _ H.out hm hn).mono ?_
  rintro e w1 ⟨v, rfl, v0, v1, hs1, hc1⟩
  have S1 := Lib.hid hs1
  have C1 := Lib.hid hc1
  clear hs1 hc1
  go_wp2
  go_ret
  exact ⟨_, rfl, S1.out, C1.out⟩

set_option maxHeartbeats 4000000 in
theorem text_c (base b m g : Nat) (ls : List ByteArray) (w : World) (h : SrcP base b m w) (hm : m ≤ 100000000) (hg : BoxP g (ls.map Value.string) w) (hne : g ≠ b) (hl : 0 < ls.length) (hl' : ls.length ≤ 100) :
    Calls Tryd.prog 33 #[.pointer (some ⟨b, 0, none⟩), .slice (some ⟨g, 0, none⟩) ls.length ls.length] w fun e w' => ∃ (k : Nat) (x : ByteArray), ls[k]? = some x ∧ e = .returned (.string x) ∧ SrcP base b (m + 2) w' ∧ Chg b (b + 1) w w' := by
  have H := Lib.hid h
  have hgl : g < w.heap.size := World.block_lt_of_cell? w _ (hg 0 (.string ls[0]) (by simp [hl]))
  have HG := Lib.hid hg
  clear h hg
  go_enter Tryd.func33, Tryd.ntmps33
  go_wp2_with fail
  refine (pick_c base b m ls.length _ H.out hm (by omega)).mono ?_
  rintro e w1 ⟨v, rfl, v0, v1, hs1, hc1⟩
  obtain ⟨k, rfl⟩ : ∃ k : Nat, v = k := ⟨v.toNat, by omega⟩
  have hk : k < ls.length := by omega
  have hc : w1.cell? ⟨g, k, none⟩ = some (.string ls[k]) := BoxP.stab g _ w w1 HG.out (fun j j1 j2 => hc1.block j (by omega) (by omega)) k _ (by simp [hk])
  have S1 := Lib.hid hs1
  have C1 := Lib.hid hc1
  clear hs1 hc1
  go_wp2
  go_ret
  exact ⟨k, ls[k], by simp [hk], rfl, S1.out, C1.out⟩


end Go.Proofs.YtenjffoboiohnaaDoor
