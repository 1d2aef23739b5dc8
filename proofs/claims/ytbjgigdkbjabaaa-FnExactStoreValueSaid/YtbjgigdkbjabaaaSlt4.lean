/- Slt4: memories: the law's argument, opened, and the law's own functions on memories. Each holds for every argument, under the premises that it states. -/
import Derived.Test.YtbjgigdkbjabaaaSlt3
import Derived.Test.YtbjgigdkbjabaaaRules
import Derived.Test.YtbjgigdkbjabaaaStored
namespace Go.Proofs.Ytbjgigdkbjabaaa
set_option linter.unusedSimpArgs false
set_option linter.unusedVariables false
set_option linter.unnecessarySimpa false
open Go.RowKit Go.ChangeShapes Go.WideShapes Go.ChangeAt Go.Joins

@[go_sem] def meCells (r : R) (a : Option Addr) (n c : Nat) : Array Value := #[.int .i64 r.pits, .int .i64 r.seeds, .bool r.stores, .bool r.skip, .bool r.relay, .bool r.feed, .bool r.again, .int .i64 r.capture, .int .i64 r.slam, .slice a n c]
@[go_sem] def meVal (r : R) (a : Option Addr) (n c : Nat) : Value := .agg (meCells r a n c)

set_option maxHeartbeats 2000000 in
theorem szMemory_c (r : R) (l : List (Sl × SA)) (a : Option Addr) (c : Nat) (left : Int) (w : World) (h : SRows w a l) (h0 : 0 ≤ left) (h1 : left ≤ 1048576) (hm : l.length ≤ maxLen) (hq : ∀ x ∈ l, x.1.pits.length ≤ maxLen) :
    Calls Try.prog 25 #[meVal r a l.length c, .int .i64 left] w (SzResS w left l) := by
  go_enter Try.func25, Try.ntmps25
  go_wp2_with fail
  refine (szSlotS_c l a c left _ (h.below (below_alloc1 _ _) (Nat.le_refl _)) h0 h1 hm hq).mono ?_
  rintro e w1 ⟨v, rfl, hv, hq, hb⟩
  have HQ := Lib.hid hq
  have HB := Lib.hid (below_next (below_alloc1 _ _) hb)
  clear hq hb
  by_cases hz : v < 0
  · go_wp2
    go_ret
    exact ⟨-1, rfl, by omega, fun h => by omega, HB.out⟩
  · go_wp2
    go_ret
    exact ⟨v, rfl, hv, HQ.out, HB.out⟩

/-- a memory of the call's own, and a frame -/
def MeRes (w : World) (r : R) (xs : List Sl) (e : Ending) (w' : World) : Prop := ∃ (m : List (Sl × SA)) (a : Option Addr) (c : Nat), m.map Prod.fst = xs ∧ e = .returned (meVal r a m.length c) ∧ Pcs w' w.heap.size (slRL.pcs a c m) ∧ Below w.heap.size w w'
theorem Pcs.le {w : World} {base base' : Nat} {qs : List Pc} (h : Pcs w base qs) (hb : base' ≤ base) : Pcs w base' qs := ⟨fun q hq => ownsRow_le (h.all q hq) hb, h.sep⟩
theorem Pcs.setBelow {w : World} {base b o : Nat} {qs : List Pc} (h : Pcs w base qs) (hb : b < base) (v : Value) : Pcs (w.setCell ⟨b, o, none⟩ v) base qs := ⟨fun q hq => ownsRow_setCell_below (h.all q hq) hb v, h.sep⟩
set_option maxRecDepth 100000 in
set_option maxHeartbeats 4000000 in
theorem toMemory_c (r : R) (l : List (Sl × SA)) (a : Option Addr) (c : Nat) (w : World) (h : SRows w a l) (hm : l.length ≤ 1048576) (hq : ∀ x ∈ l, x.1.pits.length ≤ 1048576) :
    Calls Try.prog 27 #[meVal r a l.length c] w (MeRes w r (l.map Prod.fst)) := by
  have HH := Lib.hid h
  have HQ := Lib.hid hq
  clear h hq
  have F0 := (((Fr.start w).alloc (meCells r a l.length c) 48).allocF #[.int .i64 0, .int .i64 0, .bool false, .bool false, .bool false, .bool false, .bool false, .int .i64 0, .int .i64 0, .slice none 0 0] 52).allocF #[.int .i64 0, .int .i64 0, .bool false, .bool false, .bool false, .bool false, .bool false, .int .i64 0, .int .i64 0, .slice none 0 0] 52
  simp only [World.size_alloc] at F0
  go_enter Try.func27, Try.ntmps27
  go_wp2_with fail
  refine (toRules_c r _).mono ?_
  rintro e w1 ⟨rfl, hb1⟩
  have F1 := F0.step hb1
  have d9 : w1.cell? ⟨w.heap.size, 9, none⟩ = some (.slice a l.length c) := F1.at 2 rfl 9 _ rfl
  obtain ⟨q0, q1, q2, q3, q4, q5, q6, q7, q8, q9⟩ := (⟨(F1.at 0 rfl).1 0 _ rfl, (F1.at 0 rfl).1 1 _ rfl, (F1.at 0 rfl).1 2 _ rfl, (F1.at 0 rfl).1 3 _ rfl, (F1.at 0 rfl).1 4 _ rfl, (F1.at 0 rfl).1 5 _ rfl, (F1.at 0 rfl).1 6 _ rfl, (F1.at 0 rfl).1 7 _ rfl, (F1.at 0 rfl).1 8 _ rfl, (F1.at 0 rfl).1 9 _ rfl⟩ : _ ∧ _ ∧ _ ∧ _ ∧ _ ∧ _ ∧ _ ∧ _ ∧ _ ∧ _)
  have qf := (F1.at 0 rfl).2
  obtain ⟨x0, x1, x2, x3, x4, x5, x6, x7, x8, x9⟩ := (⟨(F1.at 1 rfl).1 0 _ rfl, (F1.at 1 rfl).1 1 _ rfl, (F1.at 1 rfl).1 2 _ rfl, (F1.at 1 rfl).1 3 _ rfl, (F1.at 1 rfl).1 4 _ rfl, (F1.at 1 rfl).1 5 _ rfl, (F1.at 1 rfl).1 6 _ rfl, (F1.at 1 rfl).1 7 _ rfl, (F1.at 1 rfl).1 8 _ rfl, (F1.at 1 rfl).1 9 _ rfl⟩ : _ ∧ _ ∧ _ ∧ _ ∧ _ ∧ _ ∧ _ ∧ _ ∧ _ ∧ _)
  have xf := (F1.at 1 rfl).2
  have zA : w.heap.size < w1.heap.size := F1.le 2 rfl
  have zB : w.heap.size + 1 < w1.heap.size := F1.le 1 rfl
  have zC : w.heap.size + 1 + 1 < w1.heap.size := F1.le 0 rfl
  have HB1 : Hid (Below w.heap.size w (((((((((w1.setCell ⟨w.heap.size + 1 + 1, 0, none⟩ (.int .i64 r.pits)).setCell ⟨w.heap.size + 1 + 1, 1, none⟩ (.int .i64 r.seeds)).setCell ⟨w.heap.size + 1 + 1, 2, none⟩ (.bool r.stores)).setCell ⟨w.heap.size + 1 + 1, 3, none⟩ (.bool r.skip)).setCell ⟨w.heap.size + 1 + 1, 4, none⟩ (.bool r.relay)).setCell ⟨w.heap.size + 1 + 1, 5, none⟩ (.bool r.feed)).setCell ⟨w.heap.size + 1 + 1, 6, none⟩ (.bool r.again)).setCell ⟨w.heap.size + 1 + 1, 7, none⟩ (.int .i64 r.capture)).setCell ⟨w.heap.size + 1 + 1, 8, none⟩ (.int .i64 r.slam))) := by
    have k0 := F1.below
    unfold Hid
    repeat (first | (with_reducible exact k0) | ((with_reducible refine Below.setCell ?_ ?_ _); rotate_left; (simp <;> omega)))
  have HCS := Lib.hid (toSlotS_c l a c (((((((((w1.setCell ⟨w.heap.size + 1 + 1, 0, none⟩ (.int .i64 r.pits)).setCell ⟨w.heap.size + 1 + 1, 1, none⟩ (.int .i64 r.seeds)).setCell ⟨w.heap.size + 1 + 1, 2, none⟩ (.bool r.stores)).setCell ⟨w.heap.size + 1 + 1, 3, none⟩ (.bool r.skip)).setCell ⟨w.heap.size + 1 + 1, 4, none⟩ (.bool r.relay)).setCell ⟨w.heap.size + 1 + 1, 5, none⟩ (.bool r.feed)).setCell ⟨w.heap.size + 1 + 1, 6, none⟩ (.bool r.again)).setCell ⟨w.heap.size + 1 + 1, 7, none⟩ (.int .i64 r.capture)).setCell ⟨w.heap.size + 1 + 1, 8, none⟩ (.int .i64 r.slam)) (HH.out.below HB1.out (Nat.le_refl _)) hm HQ.out)
  clear F0 F1 hb1
  go_wp2_with fail
  refine HCS.out.mono ?_
  rintro e w2 ⟨m, a2, c2, hmf, rfl, hp2, hb2⟩
  have hc2 := (bcell hb2).1
  have hf2 := (bcell hb2).2
  simp only [World.size_setCell] at hc2 hf2
  have hz2 := hb2.size
  simp only [World.size_setCell] at hz2
  have zA2 : w.heap.size < w2.heap.size := by omega
  have zB2 : w.heap.size + 1 < w2.heap.size := by omega
  have zC2 : w.heap.size + 1 + 1 < w2.heap.size := by omega
  have HP := Lib.hid hp2
  have HMF := Lib.hid hmf
  have HB2 := Lib.hid (below_next HB1.out hb2)
  clear hp2 hmf HCS hb2
  go_wp2
  refine bodyPost_ret (v := meVal r a2 m.length c2) (by simp [results, Try.results27, go_sem, hc2, hf2, zA, zB, zC, zA2, zB2, zC2, x0, x1, x2, x3, x4, x5, x6, x7, x8, x9, xf, meVal, meCells]) rfl ⟨m, a2, c2, HMF.out, rfl, ?_, ?_⟩
  · have k0 := HP.out
    simp only [World.size_setCell] at k0
    refine Pcs.le (base := w1.heap.size) ?_ (by omega)
    repeat (first | (with_reducible exact k0) | ((with_reducible refine Pcs.setBelow ?_ ?_ _); rotate_left; omega))
  · have k0 := HB2.out
    repeat (first | (with_reducible exact k0) | ((with_reducible refine Below.setCell ?_ ?_ _); rotate_left; (simp <;> omega)))

set_option maxHeartbeats 4000000 in
theorem eqMemory_c (r : R) (l m : List (Sl × SA)) (a b : Option Addr) (c d : Nat) (w : World) (hl : SRows w a l) (hm : SRows w b m) (he : l.map Prod.fst = m.map Prod.fst) (hn : l.length ≤ 1048576) (hq : ∀ x ∈ l, x.1.pits.length ≤ maxLen) :
    Calls Try.prog 29 #[meVal r a l.length c, meVal r b m.length d] w fun e w' => e = .returned (.bool true) ∧ Below w.heap.size w w' := by
  have F0 := ((Fr.start w).alloc (meCells r a l.length c) 52).alloc (meCells r b m.length d) 52
  simp only [World.size_alloc] at F0
  have HL := Lib.hid hl
  have HM := Lib.hid hm
  have HE := Lib.hid he
  have HQ := Lib.hid hq
  clear hl hm he hq
  go_enter Try.func29, Try.ntmps29
  go_wp2_with fail
  refine (eqRules_c r r _).mono ?_
  rintro e w1 ⟨rfl, hb1⟩
  have F1 := F0.step hb1
  rw [decide_eq_true rfl]
  have d9 : w1.cell? ⟨w.heap.size, 9, none⟩ = some (.slice a l.length c) := F1.at 1 rfl 9 _ rfl
  have e9 : w1.cell? ⟨w.heap.size + 1, 9, none⟩ = some (.slice b m.length d) := F1.at 0 rfl 9 _ rfl
  have HB1 := Lib.hid F1.below
  clear F0 F1 hb1
  go_wp2_with fail
  refine (eqSlotS_c l m a b c d _ (HL.out.below HB1.out (Nat.le_refl _)) (HM.out.below HB1.out (Nat.le_refl _)) HE.out hn HQ.out).mono ?_
  rintro e w2 ⟨rfl, hb2⟩
  have HB2 := Lib.hid (below_next HB1.out hb2)
  clear hb2
  go_wp2
  go_ret
  exact ⟨rfl, HB2.out⟩

set_option maxHeartbeats 4000000 in
theorem markMemory_c (r : R) (lo hi : Nat) (ad : Option Addr) (c : Nat) (l : List (Sl × SA)) (k : Int) (w : World) (h : PcsP lo hi (slRL.pcs ad c l) w) (hh : hi ≤ w.heap.size) (hn : l.length ≤ 1048576) (hk : 0 ≤ k) (hk' : k + mkSum szSl l ≤ 1099511627776) :
    Calls Try.prog 30 #[meVal r ad l.length c, .int .i64 k] w fun e w' => e = .returned (.int .i64 (k + mkSum szSl l)) ∧ PcsP lo hi (slRL.pcs ad c (mkGo mkSl szSl l k)) w' ∧ Chg lo hi w w' := by
  have HP := Lib.hid (h.below (below_alloc1 w (.cells (meCells r ad l.length c) 52)))
  clear h
  go_enter Try.func30, Try.ntmps30
  go_wp2_with fail
  refine (markSlotS_c lo hi ad c l k _ HP.out hn hk hk').mono ?_
  rintro e w2 ⟨rfl, hp2, hg2⟩
  have HR := Lib.hid (And.intro hp2 ((Chg.ofBelow (below_alloc1 w (.cells (meCells r ad l.length c) 52))).trans hg2))
  clear hp2 hg2
  go_wp2
  go_ret
  exact ⟨rfl, HR.out.1, HR.out.2⟩

set_option maxHeartbeats 4000000 in
theorem heldMemory_c (r : R) (a : Option Addr) (c : Nat) (l : List (Sl × SA)) (k : Int) (w : World) (h : SRows w a (mkGo mkSl szSl l k)) (hn : l.length ≤ 1048576) (hk : 0 ≤ k) (hk' : k + mkSum szSl l ≤ 1099511627776) :
    Calls Try.prog 31 #[meVal r a l.length c, .int .i64 k] w fun e w' => e = .returned (.int .i64 (k + mkSum szSl l)) ∧ Below w.heap.size w w' := by
  have HB := below_alloc1 w (.cells (meCells r a l.length c) 52)
  have HP := Lib.hid (h.below HB (Nat.le_refl _))
  have HB := Lib.hid HB
  have hs : 0 ≤ mkSum szSl l := by
    have := mkAt_le szSl szSl_pos l k 0
    rw [mkAt_zero] at this
    omega
  have hneg : ¬ k + mkSum szSl l < 0 := by omega
  clear h
  go_enter Try.func31, Try.ntmps31
  go_wp2_with fail
  refine (heldSlotS_c a c l k _ HP.out hn hk hk').mono ?_
  rintro e w2 ⟨rfl, rfl⟩
  go_wp2
  go_ret
  exact ⟨rfl, HB.out⟩

/-! ### the law's argument -/
theorem list6 {α : Type} {cs : List α} (h : cs.length = 6) : ∃ a b c d e f, cs = [a, b, c, d, e, f] := by
  match cs, h with
  | [a, b, c, d, e, f], _ => exact ⟨a, b, c, d, e, f, rfl⟩
theorem open_slot {H : Type} {enc : TypeId × Value → H} {W : World} {held : Bool} {fuel : Nat} {cs : List Value} {x : DataW H × List MemPlace}
    (h : DataW.trod enc Try.prog W 0 (fun _ => true) held fuel 166 cs = some x) :
    ∃ (k : Sl × SA), cs = (k.1.cells k.2).toList ∧ Ints W k.2.qa k.1.pits ∧ k.1.pits.length ≤ maxLen := by
  obtain ⟨xs, n, _, _, hl, hxs, hf⟩ := DataW.trod_struct Try.underlying166 h
  have hc : Try.prog.cellsOf 166 = 6 := by kernel_rfl
  have ci : Try.prog.cellsOf 2 = 1 := by kernel_rfl
  have cb : Try.prog.cellsOf 4 = 1 := by kernel_rfl
  have cl : Try.prog.cellsOf 24 = 1 := by kernel_rfl
  rw [hc] at hl
  obtain ⟨a0, a1, a2, a3, a4, a5, rfl⟩ := list6 hl
  obtain ⟨y0, y1, y2, y3, y4, y5, rfl⟩ := list6 (cs := xs) (by simpa using hxs)
  have f0 := hf 0 _ rfl
  have f1 := hf 1 _ rfl
  have f2 := hf 2 _ rfl
  have f3 := hf 3 _ rfl
  have f4 := hf 4 _ rfl
  have f5 := hf 5 _ rfl
  simp [ci, cb, cl] at f0 f1 f2 f3 f4 f5
  obtain ⟨n0, e0, _⟩ := DataW.trod_bool Try.underlying4 f0
  obtain ⟨a, c, vs, e1, r1, m1, _⟩ := open_slice_ints f1
  obtain ⟨n2, e2, _, _⟩ := DataW.trod_int Try.underlying2 f2
  obtain ⟨n3, e3, _, _⟩ := DataW.trod_int Try.underlying2 f3
  obtain ⟨n4, e4, _, _⟩ := DataW.trod_int Try.underlying2 f4
  obtain ⟨n5, e5, _, _⟩ := DataW.trod_int Try.underlying2 f5
  simp at e0 e1 e2 e3 e4 e5
  subst e0 e1 e2 e3 e4 e5
  exact ⟨(⟨n0, vs, n2, n3, n4, n5⟩, ⟨a, c⟩), rfl, r1, m1⟩
theorem flat_len {α β : Type} {f : α → List β} {n : Nat} (hf : ∀ x, (f x).length = n) : ∀ l : List α, (flat f l).length = l.length * n
  | [] => by simp [flat]
  | x :: l => by rw [flat, List.length_append, hf, flat_len hf l, List.length_cons, Nat.succ_mul]; omega
/-- a list whose items are known one by one -/
theorem slot_list {W : World} {b off : Nat} : ∀ (n : Nat), (∀ i, i < n → ∃ k : Sl × SA, (∀ j v, j < 6 → (k.1.cells k.2).toList[j]? = some v → W.cell? ⟨b, off + (i * 6 + j), none⟩ = some v) ∧ Ints W k.2.qa k.1.pits ∧ k.1.pits.length ≤ maxLen) →
    ∃ l : List (Sl × SA), l.length = n ∧ SRows W (some ⟨b, off, none⟩) l ∧ ∀ x ∈ l, x.1.pits.length ≤ maxLen
  | 0, _ => ⟨[], rfl, ⟨fun j v hv => by simp [flat] at hv, fun x hx => by cases hx⟩, fun x hx => by cases hx⟩
  | n + 1, h => by
    obtain ⟨l, hl, ⟨hr, hi⟩, hm⟩ := slot_list n (fun i hi => h i (by omega))
    obtain ⟨k, hc, hk, hkm⟩ := h n (by omega)
    refine ⟨l ++ [k], by simp [hl], ⟨fun j v hv => ?_, fun x hx => ?_⟩, fun x hx => ?_⟩
    · rw [flat_append, flat_one] at hv
      by_cases h1 : j < (flat slRL.f l).length
      · rw [List.getElem?_append_left h1] at hv
        exact hr j v hv
      · have hkl : (flat slRL.f l).length = l.length * 6 := flat_len slRL.hf l
        rw [List.getElem?_append_right (by omega)] at hv
        refine ⟨b, off, rfl, ?_⟩
        have hj : j - (flat slRL.f l).length < 6 := by
          have := (List.getElem?_eq_some_iff.1 hv).1
          simpa [slRL, Sl.cells] using this
        have := hc (j - (flat slRL.f l).length) v hj hv
        rw [show off + (n * 6 + (j - (flat slRL.f l).length)) = off + j by omega] at this
        exact this
    · rcases List.mem_append.1 hx with hx | hx
      · exact hi x hx
      · obtain rfl : x = k := by simpa using hx
        exact hk
    · rcases List.mem_append.1 hx with hx | hx
      · exact hm x hx
      · obtain rfl : x = k := by simpa using hx
        exact hkm
set_option maxRecDepth 100000 in
theorem open_slots {H : Type} {enc : TypeId × Value → H} {W : World} {held : Bool} {fuel : Nat} {cs : List Value} {x : DataW H × List MemPlace}
    (h : DataW.trod enc Try.prog W 0 (fun _ => true) held fuel 46 cs = some x) :
    ∃ (l : List (Sl × SA)) (a : Option Addr) (c : Nat), cs = [.slice a l.length c] ∧ SRows W a l ∧ l.length ≤ maxLen ∧ ∀ x ∈ l, x.1.pits.length ≤ maxLen := by
  have hc5 : Try.prog.cellsOf 166 = 6 := by kernel_rfl
  rcases Go.Deep.open_slice Try.underlying46 h with ⟨hcs, hx⟩ | ⟨a, len, cap, m, n, D, Pl, hcs, _, hl, hm, hmm, hx, hi⟩
  · exact ⟨[], none, 0, by simpa using hcs, ⟨fun j v hv => by simp [flat] at hv, fun x hx => by cases hx⟩, by simp, fun x hx => by cases hx⟩
  · have hmc : m = cap := by simpa using hmm
    by_cases h0 : len = 0
    · subst h0
      exact ⟨[], some a, cap, by simpa using hcs, ⟨fun j v hv => by simp [flat] at hv, fun x hx => by cases hx⟩, by simp, fun x hx => by cases hx⟩
    · have hsp : a.spot = none := by
        obtain ⟨cs', h1, h2⟩ := hi 0 (by omega)
        rw [hc5] at h1
        obtain ⟨_, h3, h4⟩ := World.cells?_some h1
        have h5 := h4 0 (by omega)
        rw [List.getElem?_eq_getElem (by omega)] at h5
        simpa [Addr.add] using World.cell?_spot h5
      obtain ⟨b, off, spot⟩ := a
      dsimp only at hsp
      subst hsp
      obtain ⟨l, hll, hr, hq⟩ := slot_list (W := W) (b := b) (off := off) len (fun i hil => by
        obtain ⟨cs', h1, h2⟩ := hi i (by omega)
        obtain ⟨k, rfl, hk, hkm⟩ := open_slot h2
        rw [hc5] at h1
        obtain ⟨_, h3, h4⟩ := World.cells?_some h1
        refine ⟨k, fun j v hj hv => ?_, hk, hkm⟩
        have h5 := h4 j hj
        rw [hv, Go.Deep.add_add, Go.WideShapes.add_plain] at h5
        exact h5)
      refine ⟨l, some ⟨b, off, none⟩, cap, by rw [hll]; exact hcs, hr, by omega, hq⟩
theorem list2m {α : Type} {cs : List α} (h : cs.length = 2) : ∃ a b, cs = [a, b] := by
  match cs, h with
  | [a, b], _ => exact ⟨a, b, rfl⟩
theorem list10 {α : Type} {cs : List α} (h : cs.length = 10) : ∃ a b c d e f g h i j, cs = [a, b, c, d, e, f, g, h, i, j] := by
  match cs, h with
  | [a, b, c, d, e, f, g, h, i, j], _ => exact ⟨a, b, c, d, e, f, g, h, i, j, rfl⟩
set_option maxRecDepth 100000 in
theorem arg_memory {H : Type} {enc : TypeId × Value → H} {W : World} {base : Nat} {v : Value} {d : DataW H} {q : List MemPlace}
    (hval : Value.okWide Try.prog W .any base 48 v) (h : DataW.Trod enc Try.prog W 0 (fun _ => true) true 48 v d q) :
    ∃ (r : R) (l : List (Sl × SA)) (a : Option Addr) (c : Nat), v = meVal r a l.length c ∧ SRows W a l ∧ l.length ≤ maxLen ∧ ∀ x ∈ l, x.1.pits.length ≤ maxLen := by
  obtain ⟨cs, rfl⟩ := open_struct_val Try.underlying48 hval
  obtain ⟨fuel, hf⟩ := h
  obtain ⟨xs, n, _, _, hl, hxs, hf⟩ := DataW.trod_struct Try.underlying48 hf
  have hc : Try.prog.cellsOf 48 = 10 := by kernel_rfl
  have cr : Try.prog.cellsOf 23 = 9 := by kernel_rfl
  have cl : Try.prog.cellsOf 46 = 1 := by kernel_rfl
  rw [hc] at hl
  obtain ⟨a0, a1, a2, a3, a4, a5, a6, a7, a8, a9, hcs⟩ := list10 hl
  have hcs' : cs.toList = [a0, a1, a2, a3, a4, a5, a6, a7, a8, a9] := hcs
  obtain ⟨y0, y1, rfl⟩ := list2m (cs := xs) (by simpa using hxs)
  have f0 := hf 0 _ rfl
  have f1 := hf 1 _ rfl
  simp only [hcs] at f0 f1
  simp [cr, cl] at f0 f1
  obtain ⟨r, er, _⟩ := open_rules f0
  obtain ⟨l, a, c, el, hr, m1, m2⟩ := open_slots f1
  simp [R.cells] at er
  simp at el
  obtain ⟨rfl, rfl, rfl, rfl, rfl, rfl, rfl, rfl, rfl⟩ := er
  subst el
  have hr' : cs = meCells r a l.length c := Array.toList_inj.1 hcs'
  exact ⟨r, l, a, c, congrArg Value.agg hr', hr, m1, m2⟩

end Go.Proofs.Ytbjgigdkbjabaaa
