/- Table: tables and work: the laws' arguments, opened, and the contracts of the functions that copy and compare them. Each holds for every argument, under the premises that it states. -/
import Derived.Test.YteabheocbkcmnaaPos
namespace Go.Proofs.Yteabheocbkcmnaa
set_option linter.unusedSimpArgs false
set_option linter.unusedVariables false
set_option linter.unnecessarySimpa false
open Go.RowKit Go.ChangeShapes Go.WideShapes Go.ChangeAt Go.Joins

structure Tb where
  rules : R
  most : Int
  values : List Int
  ranks : List Int
  deriving DecidableEq
/-- where a table's slices lie -/
structure TA where
  va : Option Addr
  vc : Nat
  ra : Option Addr
  rc : Nat
@[go_sem] def Tb.cells (t : Tb) (k : TA) : Array Value := #[.int .i64 t.rules.pits, .int .i64 t.rules.seeds, .bool t.rules.stores, .bool t.rules.skip, .bool t.rules.relay, .bool t.rules.feed, .bool t.rules.again, .int .i64 t.rules.capture, .int .i64 t.rules.slam, .int .i64 t.most, .slice k.va t.values.length k.vc, .slice k.ra t.ranks.length k.rc]
@[go_sem] def Tb.val (t : Tb) (k : TA) : Value := .agg (t.cells k)
structure TRow (w : World) (t : Tb) (k : TA) : Prop where
  values : Ints w k.va t.values
  ranks : Ints w k.ra t.ranks
theorem TRow.below {B : Nat} {w w' : World} {t : Tb} {k : TA} (h : TRow w t k) (hb : Below B w w') (hB : w.heap.size ≤ B) : TRow w' t k := ⟨h.values.below hb hB, h.ranks.below hb hB⟩

structure TOwn (w : World) (base : Nat) (t : Tb) (k : TA) : Prop where
  values : w.ownsRow base 2 1 (.slice k.va t.values.length k.vc) t.values.length (t.values.map (Value.int .i64))
  ranks : w.ownsRow base 2 1 (.slice k.ra t.ranks.length k.rc) t.ranks.length (t.ranks.map (Value.int .i64))
theorem TOwn.row {w : World} {base : Nat} {t : Tb} {k : TA} (h : TOwn w base t k) : TRow w t k := ⟨own_row h.values, own_row h.ranks⟩
theorem TOwn.below {w w' : World} {B base : Nat} {t : Tb} {k : TA} (h : TOwn w base t k) (hb : Below B w w') (hB : w.heap.size ≤ B) : TOwn w' base t k := ⟨own_below h.values hb hB, own_below h.ranks hb hB⟩
theorem TOwn.set {w : World} {base : Nat} {t : Tb} {k : TA} (h : TOwn w base t k) {p : Addr} (hp : p.block < base) (u : Value) : TOwn (w.setCell p u) base t k := ⟨ownsRow_setCell_below h.values hp u, ownsRow_setCell_below h.ranks hp u⟩
theorem TOwn.le {w : World} {base base' : Nat} {t : Tb} {k : TA} (h : TOwn w base t k) (hb : base' ≤ base) : TOwn w base' t k := ⟨ownsRow_le h.values hb, ownsRow_le h.ranks hb⟩

set_option maxHeartbeats 4000000 in
theorem SameTable_c (s t : Tb) (k l : TA) (w : World) (hs : TRow w s k) (ht : TRow w t l) (m1 : s.values.length ≤ maxLen) (m2 : s.ranks.length ≤ maxLen) (m3 : t.values.length ≤ maxLen) (m4 : t.ranks.length ≤ maxLen) :
    Calls Try.prog 118 #[s.val k, t.val l] w fun e w' => e = .returned (.bool (decide (s = t))) ∧ Below w.heap.size w w' := by
  obtain ⟨rs, ms, vs, ks⟩ := s
  obtain ⟨rt, mt, vt, kt⟩ := t
  obtain ⟨hs1, hs2⟩ := hs
  obtain ⟨ht1, ht2⟩ := ht
  by_cases hr : rs = rt
  · subst hr
    have hq := rEq_self rs
    by_cases hm : ms = mt
    · subst hm
      go_enter Try.func118, Try.ntmps118
      go_wp2_with fail
      refine (sameNumbers_c _ _ _ _ vs vt _ ((hs1.below (below_alloc2 _ _ _) (Nat.le_refl _))) ((ht1.below (below_alloc2 _ _ _) (Nat.le_refl _))) m1 m3).mono ?_
      rintro e w' ⟨rfl, n, rfl⟩
      by_cases hv : vs = vt
      · subst hv
        go_wp2_with fail
        refine (sameNumbers_c _ _ _ _ ks kt _ ((hs2.below ((below_alloc2 _ _ _).trans (below_draws _ _ _)) (Nat.le_refl _))) ((ht2.below ((below_alloc2 _ _ _).trans (below_draws _ _ _)) (Nat.le_refl _))) m2 m4).mono ?_
        rintro e w' ⟨rfl, n', rfl⟩
        go_wp2
        go_ret
        exact ⟨by simp, (below_alloc2 _ _ _).trans (below_draws _ _ _)⟩
      · have hd : decide (vs = vt) = false := decide_eq_false hv
        have HV := Lib.hid hv
        clear hv
        go_wp2
        go_ret
        exact ⟨by simp [HV.out], (below_alloc2 _ _ _).trans (below_draws _ _ _)⟩
    · have hd : (ms == mt) = false := by simpa using hm
      have HM := Lib.hid hm
      clear hm
      go_enter Try.func118, Try.ntmps118
      go_wp2
      go_ret
      exact ⟨by simp [HM.out], below_alloc2 _ _ _⟩
  · have hq := rEq_ne hr
    have HR := Lib.hid hr
    clear hr
    go_enter Try.func118, Try.ntmps118
    go_wp2
    go_ret
    exact ⟨by simp [HR.out], below_alloc2 _ _ _⟩

set_option maxRecDepth 100000 in
set_option maxHeartbeats 1000000 in
theorem l17Same_c (s t : Tb) (k l : TA) (b c o p : Nat) (w : World) (hs : TRow w s k) (ht : TRow w t l) (m1 : s.values.length ≤ maxLen) (m2 : s.ranks.length ≤ maxLen) (m3 : t.values.length ≤ maxLen) (m4 : t.ranks.length ≤ maxLen)
    (hb : ∀ j, j < 12 → w.cell? ⟨b, o + j, none⟩ = (s.cells k)[j]?) (hc : ∀ j, j < 12 → w.cell? ⟨c, p + j, none⟩ = (t.cells l)[j]?) :
    Calls Try.prog 116 #[.pointer (some ⟨b, o, none⟩), .pointer (some ⟨c, p, none⟩)] w fun e w' => e = .returned (.bool (decide (s = t))) ∧ ∃ m, w' = w.drewN m := by
  obtain ⟨rs, ms, vs, ks⟩ := s
  obtain ⟨rt, mt, vt, kt⟩ := t
  obtain ⟨hs1, hs2⟩ := hs
  obtain ⟨ht1, ht2⟩ := ht
  have b0 := hb 0 (by omega); have b1 := hb 1 (by omega); have b2 := hb 2 (by omega); have b3 := hb 3 (by omega); have b4 := hb 4 (by omega); have b5 := hb 5 (by omega)
  have b6 := hb 6 (by omega); have b7 := hb 7 (by omega); have b8 := hb 8 (by omega); have b9 := hb 9 (by omega); have b10 := hb 10 (by omega); have b11 := hb 11 (by omega)
  have c0 := hc 0 (by omega); have c1 := hc 1 (by omega); have c2 := hc 2 (by omega); have c3 := hc 3 (by omega); have c4 := hc 4 (by omega); have c5 := hc 5 (by omega)
  have c6 := hc 6 (by omega); have c7 := hc 7 (by omega); have c8 := hc 8 (by omega); have c9 := hc 9 (by omega); have c10 := hc 10 (by omega); have c11 := hc 11 (by omega)
  clear hb hc
  simp [Tb.cells] at b0 b1 b2 b3 b4 b5 b6 b7 b8 b9 b10 b11 c0 c1 c2 c3 c4 c5 c6 c7 c8 c9 c10 c11
  by_cases hr : rs = rt
  · subst hr
    by_cases hm : ms = mt
    · subst hm
      by_cases hv : vs = vt
      · subst hv
        have hd : decide (vs = vs) = true := decide_eq_true rfl
        have hq := rEq_self rs
        go_enter Try.func116, Try.ntmps116
        go_wp2
        go_quiet ((go_at_call 110; exact Calls.quiet_of (l00Same_c _ _ _ _ _ _ _ (by first | exact hs1 | exact hs2) (by first | exact ht1 | exact ht2) (by first | exact m1 | exact m2) (by first | exact m3 | exact m4))))
        go_wp2
        go_ret
        exact ⟨by simp, _, rfl⟩
      · have hd : decide (vs = vt) = false := decide_eq_false hv
        have HV := Lib.hid hv
        clear hv
        have hq := rEq_self rs
        go_enter Try.func116, Try.ntmps116
        go_wp2
        go_quiet ((go_at_call 110; exact Calls.quiet_of (l00Same_c _ _ _ _ _ _ _ (by first | exact hs1 | exact hs2) (by first | exact ht1 | exact ht2) (by first | exact m1 | exact m2) (by first | exact m3 | exact m4))))
        go_wp2
        go_ret
        exact ⟨by simp [HV.out], _, rfl⟩
    · have hd : (ms == mt) = false := by simpa using hm
      have HM := Lib.hid hm
      clear hm
      have hq := rEq_self rs
      go_enter Try.func116, Try.ntmps116
      go_wp2
      go_quiet (fail)
      go_wp2
      go_ret
      exact ⟨by simp [HM.out], _, rfl⟩
  · have hq := rEq_ne hr
    have HR := Lib.hid hr
    clear hr
    go_enter Try.func116, Try.ntmps116
    go_wp2
    go_quiet (fail)
    go_wp2
    go_ret
    exact ⟨by simp [HR.out], _, rfl⟩

def szT (left : Int) (t : Tb) : Int := if szI left t.values.length < 0 then -1 else szI (szI left t.values.length) t.ranks.length
theorem szI_neg {left : Int} {n : Nat} (h : szI left n < 0) (h0 : 0 ≤ left) : szI left n = -1 := by
  unfold szI at h ⊢
  split
  · rfl
  · rename_i h'; rw [if_neg h'] at h; omega
theorem szI_le (left : Int) (n : Nat) (h0 : 0 ≤ left) : szI left n ≤ left := by unfold szI; split <;> omega
set_option maxHeartbeats 1000000 in
theorem szTable_c (t : Tb) (k : TA) (left : Int) (w : World) (hl : 0 ≤ left) (hl' : left ≤ 1048576) (hm : t.values.length ≤ maxLen) (hm' : t.ranks.length ≤ maxLen) :
    Calls Try.prog 114 #[t.val k, .int .i64 left] w fun e w' => e = .returned (.int .i64 (szT left t)) ∧ Below w.heap.size w w' := by
  go_enter Try.func114, Try.ntmps114
  go_wp2_with fail
  refine (szInt64S_c _ _ _ _ _ hl hl' hm).mono ?_
  rintro e w' ⟨rfl, rfl⟩
  by_cases h : szI left t.values.length < 0
  · have hs : szT left t = -1 := by simp [szT, h]
    have HS := Lib.hid hs
    clear hs
    go_wp2
    go_ret
    exact ⟨by rw [HS.out]; rfl, below_alloc1 _ _⟩
  · have hs : szT left t = szI (szI left t.values.length) t.ranks.length := by simp [szT, h]
    have HS := Lib.hid hs
    have hle := szI_le left t.values.length hl
    clear hs
    go_wp2_with fail
    refine (szInt64S_c _ _ _ _ _ (by omega) (by omega) hm').mono ?_
    rintro e w' ⟨rfl, rfl⟩
    by_cases h2 : szI (szI left t.values.length) t.ranks.length < 0
    · have H3 := Lib.hid (szI_neg h2 (by omega))
      go_wp2
      go_ret
      exact ⟨by rw [HS.out, H3.out]; rfl, below_alloc1 _ _⟩
    · go_wp2
      go_ret
      exact ⟨by rw [HS.out]; rfl, below_alloc1 _ _⟩

set_option maxHeartbeats 1000000 in
theorem eqTable_c (s t : Tb) (k l : TA) (w : World) (hs : TRow w s k) (ht : TRow w t l) (m1 : s.values.length ≤ maxLen) (m2 : s.ranks.length ≤ maxLen) (m3 : t.values.length ≤ maxLen) (m4 : t.ranks.length ≤ maxLen) :
    Calls Try.prog 119 #[s.val k, t.val l] w fun e w' => e = .returned (.bool (decide (s = t))) ∧ Below w.heap.size w w' := by
  obtain ⟨rs, ms, vs, ks⟩ := s
  obtain ⟨rt, mt, vt, kt⟩ := t
  obtain ⟨hs1, hs2⟩ := hs
  obtain ⟨ht1, ht2⟩ := ht
  go_enter Try.func119, Try.ntmps119
  go_wp2_with fail
  refine (eqRules_c rs rt _).mono ?_
  rintro e w1 ⟨rfl, hb1⟩
  obtain ⟨hc1, hf1⟩ := bcell hb1
  have hz1 : w.heap.size + 1 < w1.heap.size := by have := hb1.size; simp at this; omega
  have hz1a : w.heap.size < w1.heap.size := by omega
  have hbw : Below w.heap.size w w1 := below_next (below_alloc2 _ _ _) hb1
  by_cases hr : rs = rt
  · subst hr
    by_cases hm : ms = mt
    · subst hm
      go_wp2_with fail
      refine (eqInt64S_c _ _ _ _ vs vt _ (hs1.below hbw (Nat.le_refl _)) (ht1.below hbw (Nat.le_refl _)) m1 m3).mono ?_
      rintro e w' ⟨rfl, n, rfl⟩
      by_cases hv : vs = vt
      · subst hv
        go_wp2_with fail
        refine (eqInt64S_c _ _ _ _ ks kt _ (hs2.below (hbw.trans (below_draws _ _ _)) (Nat.le_refl _)) (ht2.below (hbw.trans (below_draws _ _ _)) (Nat.le_refl _)) m2 m4).mono ?_
        rintro e w' ⟨rfl, n', rfl⟩
        by_cases hk : ks = kt
        · subst hk
          go_wp2
          go_ret
          exact ⟨by simp, hbw.trans (below_draws _ _ _)⟩
        · have hd : decide (ks = kt) = false := decide_eq_false hk
          have HV := Lib.hid hk
          clear hk
          go_wp2
          go_ret
          exact ⟨by simp [HV.out], hbw.trans (below_draws _ _ _)⟩
      · have hd : decide (vs = vt) = false := decide_eq_false hv
        have HV := Lib.hid hv
        clear hv
        go_wp2
        go_ret
        exact ⟨by simp [HV.out], hbw.trans (below_draws _ _ _)⟩
    · have hd : (ms != mt) = true := by simpa using hm
      have HM := Lib.hid hm
      clear hm
      go_wp2
      go_ret
      exact ⟨by simp [HM.out], hbw⟩
  · have hd : decide (rs = rt) = false := decide_eq_false hr
    have HR := Lib.hid hr
    clear hr
    go_wp2
    go_ret
    exact ⟨by simp [HR.out], hbw⟩

set_option maxHeartbeats 4000000 in
theorem toTable_c (t : Tb) (k : TA) (w : World) (h : TRow w t k) (m1 : t.values.length ≤ 1048576) (m2 : t.ranks.length ≤ 1048576) :
    Calls Try.prog 117 #[t.val k] w fun e w' => ∃ k', e = .returned (t.val k') ∧ TOwn w' w.heap.size t k' ∧ Below w.heap.size w w' := by
  obtain ⟨h1, h2⟩ := h
  go_enter Try.func117, Try.ntmps117
  go_wp2_with fail
  refine (toRules_c t.rules _).mono ?_
  rintro e w1 ⟨rfl, hb1⟩
  obtain ⟨hc1, hf1⟩ := bcell hb1
  simp only [World.size_alloc] at hb1 hc1 hf1
  have hz1 : w.heap.size + 3 ≤ w1.heap.size := by have := hb1.size; simp at this; omega
  have hz1a : w.heap.size < w1.heap.size := by omega
  have hz1b : w.heap.size + 1 < w1.heap.size := by omega
  have hz1c : w.heap.size + 1 + 1 < w1.heap.size := by omega
  have hbw1 : Below w.heap.size w w1 := (below_alloc3 _ _ _ _).trans (hb1.mono (by omega))
  go_wp2_with fail
  refine (toInt64S_c _ _ _ _ (h1.below (by repeat (first | (with_reducible exact hbw1) | ((with_reducible refine Below.setCell ?_ ?_ _); rotate_left; (simp <;> omega)))) (Nat.le_refl _)) m1).mono ?_
  rintro e w2 ⟨rfl, hown2, hb2⟩
  have hbw2 : Below w.heap.size w w2 := Below.trans (by repeat (first | (with_reducible exact hbw1) | ((with_reducible refine Below.setCell ?_ ?_ _); rotate_left; (simp <;> omega)))) (hb2.mono (by simp; omega))
  obtain ⟨hc2, hf2⟩ := bcell hb2
  simp only [World.size_setCell] at hown2 hb2 hc2 hf2
  have hz2 : w1.heap.size ≤ w2.heap.size := by have := hb2.size; simpa using this
  have hz2a : w.heap.size < w2.heap.size := by omega
  have hz2b : w.heap.size + 1 < w2.heap.size := by omega
  have hz2c : w.heap.size + 1 + 1 < w2.heap.size := by omega
  have HO2 := Lib.hid hown2
  clear hown2
  go_wp2_with fail
  refine (toInt64S_c _ _ _ _ (h2.below (by repeat (first | (with_reducible exact hbw2) | ((with_reducible refine Below.setCell ?_ ?_ _); rotate_left; (simp <;> omega)))) (Nat.le_refl _)) m2).mono ?_
  rintro e w3 ⟨rfl, hown3, hb3⟩
  have hbw3 : Below w.heap.size w w3 := Below.trans (by repeat (first | (with_reducible exact hbw2) | ((with_reducible refine Below.setCell ?_ ?_ _); rotate_left; (simp <;> omega)))) (hb3.mono (by simp; omega))
  obtain ⟨hc3, hf3⟩ := bcell hb3
  simp only [World.size_setCell] at hown3 hb3 hc3 hf3
  have hz3 : w2.heap.size ≤ w3.heap.size := by have := hb3.size; simpa using this
  have hz3a : w.heap.size < w3.heap.size := by omega
  have hz3b : w.heap.size + 1 < w3.heap.size := by omega
  have hz3c : w.heap.size + 1 + 1 < w3.heap.size := by omega
  have HO3 := Lib.hid hown3
  clear hown3
  go_wp2
  refine bodyPost_ret (v := t.val ⟨some ⟨w1.heap.size, 0, none⟩, t.values.length, some ⟨w2.heap.size, 0, none⟩, t.ranks.length⟩) (by simp [results, Try.results117, go_sem, hc1, hc2, hc3, hz1a, hz1b, hz1c, hz2a, hz2b, hz2c, hz3a, hz3b, hz3c, Tb.val, Tb.cells]) rfl ⟨_, rfl, ⟨?_, ?_⟩, ?_⟩
  · have k0 := HO2.out
    have k1 : (w2.setCell ⟨w.heap.size + 1 + 1, 10, none⟩ (.slice (some ⟨w1.heap.size, 0, none⟩) t.values.length t.values.length)).ownsRow w1.heap.size 2 1 (.slice (some ⟨w1.heap.size, 0, none⟩) t.values.length t.values.length) t.values.length (t.values.map (Value.int .i64)) := ownsRow_setCell_below k0 (by simp; omega) _
    have k2 := own_below k1 hb3 (by simp)
    exact ownsRow_le (base := w1.heap.size) (by repeat (first | (with_reducible exact k2) | ((with_reducible refine ownsRow_setCell_below ?_ ?_ _); rotate_left; (simp <;> omega)))) (by omega)
  · have k0 := HO3.out
    exact ownsRow_le (base := w2.heap.size) (by repeat (first | (with_reducible exact k0) | ((with_reducible refine ownsRow_setCell_below ?_ ?_ _); rotate_left; (simp <;> omega)))) (by omega)
  · repeat (first | (with_reducible exact hbw3) | ((with_reducible refine Below.setCell ?_ ?_ _); rotate_left; (simp <;> omega)))

/-! ### work -/
structure Wk where
  most : Int
  table : Tb
  deriving DecidableEq
@[go_sem] def Wk.cells (x : Wk) (k : TA) : Array Value := #[.int .i64 x.most, .int .i64 x.table.rules.pits, .int .i64 x.table.rules.seeds, .bool x.table.rules.stores, .bool x.table.rules.skip, .bool x.table.rules.relay, .bool x.table.rules.feed, .bool x.table.rules.again, .int .i64 x.table.rules.capture, .int .i64 x.table.rules.slam, .int .i64 x.table.most, .slice k.va x.table.values.length k.vc, .slice k.ra x.table.ranks.length k.rc]
@[go_sem] def Wk.val (x : Wk) (k : TA) : Value := .agg (x.cells k)

/-! ### the laws' arguments -/
theorem list12 {α : Type} {cs : List α} (h : cs.length = 12) : ∃ a b c d e f g i j k l m, cs = [a, b, c, d, e, f, g, i, j, k, l, m] := by
  match cs, h with
  | [a, b, c, d, e, f, g, i, j, k, l, m], _ => exact ⟨a, b, c, d, e, f, g, i, j, k, l, m, rfl⟩
theorem list13 {α : Type} {cs : List α} (h : cs.length = 13) : ∃ a b c d e f g i j k l m n, cs = [a, b, c, d, e, f, g, i, j, k, l, m, n] := by
  match cs, h with
  | [a, b, c, d, e, f, g, i, j, k, l, m, n], _ => exact ⟨a, b, c, d, e, f, g, i, j, k, l, m, n, rfl⟩
theorem list4 {α : Type} {cs : List α} (h : cs.length = 4) : ∃ a b c d, cs = [a, b, c, d] := by
  match cs, h with
  | [a, b, c, d], _ => exact ⟨a, b, c, d, rfl⟩
theorem list2 {α : Type} {cs : List α} (h : cs.length = 2) : ∃ a b, cs = [a, b] := by
  match cs, h with
  | [a, b], _ => exact ⟨a, b, rfl⟩

theorem open_table {H : Type} {enc : TypeId × Value → H} {W : World} {held : Bool} {fuel : Nat} {cs : List Value} {x : DataW H × List MemPlace}
    (h : DataW.trod enc Try.prog W 0 (fun _ => true) held fuel 79 cs = some x) :
    ∃ (t : Tb) (k : TA), cs = (t.cells k).toList ∧ TRow W t k ∧ t.values.length ≤ maxLen ∧ t.ranks.length ≤ maxLen := by
  obtain ⟨xs, n, _, _, hl, hxs, hf⟩ := DataW.trod_struct Try.underlying79 h
  have hc : Try.prog.cellsOf 79 = 12 := by kernel_rfl
  have cr : Try.prog.cellsOf 23 = 9 := by kernel_rfl
  have ci : Try.prog.cellsOf 2 = 1 := by kernel_rfl
  have cb : Try.prog.cellsOf 25 = 1 := by kernel_rfl
  rw [hc] at hl
  obtain ⟨a0, a1, a2, a3, a4, a5, a6, a7, a8, a9, a10, a11, rfl⟩ := list12 hl
  obtain ⟨y0, y1, y2, y3, rfl⟩ := list4 (cs := xs) (by simpa using hxs)
  have f0 := hf 0 _ rfl
  have f1 := hf 1 _ rfl
  have f2 := hf 2 _ rfl
  have f3 := hf 3 _ rfl
  simp [ci, cb, cr] at f0 f1 f2 f3
  obtain ⟨r, er, _⟩ := open_rules f0
  obtain ⟨n1, e1, _, w1⟩ := DataW.trod_int Try.underlying2 f1
  obtain ⟨va, vc, vs, e2, r2, m2, _⟩ := open_slice_ints f2
  obtain ⟨ra, rc, rs, e3, r3, m3, _⟩ := open_slice_ints f3
  simp [R.cells] at er e1 e2 e3
  obtain ⟨rfl, rfl, rfl, rfl, rfl, rfl, rfl, rfl, rfl⟩ := er
  subst e1 e2 e3
  exact ⟨⟨r, n1, vs, rs⟩, ⟨va, vc, ra, rc⟩, rfl, ⟨r2, r3⟩, m2, m3⟩

theorem szT_len {left : Int} {t : Tb} (h : ¬ szT left t < 0) (h0 : 0 ≤ left) (h1 : left ≤ 1048576) : t.values.length ≤ 1048576 ∧ t.ranks.length ≤ 1048576 ∧ 0 ≤ szT left t ∧ szT left t ≤ 1048576 := by
  unfold szT at h ⊢
  split at h
  · omega
  · rename_i h'
    rw [if_neg h']
    unfold szI at h h' ⊢
    split at h'
    · omega
    · rename_i h2
      rw [if_neg h2] at h ⊢
      split at h
      · omega
      · rename_i h3
        rw [if_neg h3]
        omega

end Go.Proofs.Yteabheocbkcmnaa
