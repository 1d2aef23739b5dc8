/- SetF: rules with another field: both sides return the same. Each contract holds for every argument, under the premises that it states. -/
import Derived.Test.YtbjdfgfebepacaaDiff
import Derived.Test.YtbjdfgfebepacaaHeld
namespace Go.Proofs.Ytbjdfgfebepacaa
set_option linter.unusedSimpArgs false
set_option linter.unusedVariables false
set_option linter.unnecessarySimpa false
open Go.RowKit Go.ChangeShapes Go.WideShapes Go.ChangeAt Go.Joins

def R.nil : R := ⟨0, 0, false, false, false, false, false, 0, 0⟩
def setR (r : R) (k : Nat) (v : Int) : R :=
  match k with
  | 0 => { r with pits := v }
  | 1 => { r with seeds := v }
  | 2 => { r with stores := v == 1 }
  | 3 => { r with skip := v == 1 }
  | 4 => { r with relay := v == 1 }
  | 5 => { r with feed := v == 1 }
  | 6 => { r with again := v == 1 }
  | 7 => { r with capture := v }
  | _ => { r with slam := v }
def setK (r : R) (k : Nat) (v : Int) : R × Int := if (2 ≤ k ∧ k ≤ 6 ∧ inB v 0 1 = false) ∨ (setR r k v).ok = false then (R.nil, 2) else (setR r k v, 0)
def setP (r : R) (s : ByteArray) (v : Int) : R × Int := if r.ok = false then (R.nil, 1) else if fieldOk s = false then (R.nil, 3) else setK r (idxOf fieldNames s).toNat v
theorem bytes_inj {s t : ByteArray} (h : s.toList = t.toList) : s = t := by
  obtain ⟨⟨l⟩⟩ := s
  obtain ⟨⟨k⟩⟩ := t
  simpa using h
theorem name_of {s : ByteArray} (h : fieldOk s = true) : ∃ k, k < 9 ∧ s = fieldNames.getD k ⟨#[]⟩ ∧ (idxOf fieldNames s).toNat = k := by
  have h0 : 0 ≤ idxOf fieldNames s := by simpa [fieldOk] using h
  unfold idxOf at h0 ⊢
  split at h0
  · rename_i hlt
    refine ⟨fieldNames.findIdx (fun x => s.toList == x.toList), by simpa [fieldNames] using hlt, ?_, ?_⟩
    · have h1 := List.findIdx_getElem (w := hlt)
      have h2 : s.toList = (fieldNames[fieldNames.findIdx (fun x => s.toList == x.toList)]).toList := by simpa using h1
      rw [List.getD_eq_getElem?_getD, List.getElem?_eq_getElem hlt]
      exact bytes_inj h2
    · rw [if_pos hlt]; omega
  · omega

/-- a box of rules, that may be written -/
structure RB (W : World) (b : Nat) (r : R) : Prop where
  at_ : R.At W b 0 r
  fz : ∀ o, W.frozen? ⟨b, o, none⟩ = false
theorem RB.below {W W' : World} {b : Nat} {r : R} (h : RB W b r) (hb : Below W.heap.size W W') : RB W' b r := by
  have hl : b < W.heap.size := World.block_lt_of_cell? W _ h.at_.c0
  exact ⟨h.at_.below hb hl, fun o => (hb.frozen (show (Addr.mk b o none).block < _ from hl)).trans (h.fz o)⟩
theorem cell_off1 {w : World} {g o o' : Nat} {v : Value} (h : ¬ o' = o) : (w.setCell ⟨g, o, none⟩ v).cell? ⟨g, o', none⟩ = w.cell? ⟨g, o', none⟩ := by
  apply World.cell?_setCell_other
  intro e
  cases e
  exact h rfl
theorem RB.other {W : World} {b b' o : Nat} {r : R} {u : Value} (h : RB W b r) (hn : ¬ b = b') : RB (W.setCell ⟨b', o, none⟩ u) b r :=
  ⟨⟨(cell_other hn).trans h.at_.c0, (cell_other hn).trans h.at_.c1, (cell_other hn).trans h.at_.c2, (cell_other hn).trans h.at_.c3, (cell_other hn).trans h.at_.c4, (cell_other hn).trans h.at_.c5, (cell_other hn).trans h.at_.c6, (cell_other hn).trans h.at_.c7, (cell_other hn).trans h.at_.c8⟩, fun o => by simp [h.fz]⟩
def fval (k : Nat) (v : Int) : Value := if 2 ≤ k ∧ k ≤ 6 then .bool (v == 1) else .int .i64 v
theorem RB.set {W : World} {b : Nat} {r : R} (h : RB W b r) (k : Nat) (hk : k < 9) (v : Int) : RB (W.setCell ⟨b, k, none⟩ (fval k v)) b (setR r k v) := by
  obtain ⟨⟨c0, c1, c2, c3, c4, c5, c6, c7, c8⟩, hf⟩ := h
  match k, hk with
  | 0, _ => exact ⟨⟨World.cell?_setCell_same _ _ _ c0, (cell_off1 (by omega)).trans c1, (cell_off1 (by omega)).trans c2, (cell_off1 (by omega)).trans c3, (cell_off1 (by omega)).trans c4, (cell_off1 (by omega)).trans c5, (cell_off1 (by omega)).trans c6, (cell_off1 (by omega)).trans c7, (cell_off1 (by omega)).trans c8⟩, fun o => by simp [hf]⟩
  | 1, _ => exact ⟨⟨(cell_off1 (by omega)).trans c0, World.cell?_setCell_same _ _ _ c1, (cell_off1 (by omega)).trans c2, (cell_off1 (by omega)).trans c3, (cell_off1 (by omega)).trans c4, (cell_off1 (by omega)).trans c5, (cell_off1 (by omega)).trans c6, (cell_off1 (by omega)).trans c7, (cell_off1 (by omega)).trans c8⟩, fun o => by simp [hf]⟩
  | 2, _ => exact ⟨⟨(cell_off1 (by omega)).trans c0, (cell_off1 (by omega)).trans c1, World.cell?_setCell_same _ _ _ c2, (cell_off1 (by omega)).trans c3, (cell_off1 (by omega)).trans c4, (cell_off1 (by omega)).trans c5, (cell_off1 (by omega)).trans c6, (cell_off1 (by omega)).trans c7, (cell_off1 (by omega)).trans c8⟩, fun o => by simp [hf]⟩
  | 3, _ => exact ⟨⟨(cell_off1 (by omega)).trans c0, (cell_off1 (by omega)).trans c1, (cell_off1 (by omega)).trans c2, World.cell?_setCell_same _ _ _ c3, (cell_off1 (by omega)).trans c4, (cell_off1 (by omega)).trans c5, (cell_off1 (by omega)).trans c6, (cell_off1 (by omega)).trans c7, (cell_off1 (by omega)).trans c8⟩, fun o => by simp [hf]⟩
  | 4, _ => exact ⟨⟨(cell_off1 (by omega)).trans c0, (cell_off1 (by omega)).trans c1, (cell_off1 (by omega)).trans c2, (cell_off1 (by omega)).trans c3, World.cell?_setCell_same _ _ _ c4, (cell_off1 (by omega)).trans c5, (cell_off1 (by omega)).trans c6, (cell_off1 (by omega)).trans c7, (cell_off1 (by omega)).trans c8⟩, fun o => by simp [hf]⟩
  | 5, _ => exact ⟨⟨(cell_off1 (by omega)).trans c0, (cell_off1 (by omega)).trans c1, (cell_off1 (by omega)).trans c2, (cell_off1 (by omega)).trans c3, (cell_off1 (by omega)).trans c4, World.cell?_setCell_same _ _ _ c5, (cell_off1 (by omega)).trans c6, (cell_off1 (by omega)).trans c7, (cell_off1 (by omega)).trans c8⟩, fun o => by simp [hf]⟩
  | 6, _ => exact ⟨⟨(cell_off1 (by omega)).trans c0, (cell_off1 (by omega)).trans c1, (cell_off1 (by omega)).trans c2, (cell_off1 (by omega)).trans c3, (cell_off1 (by omega)).trans c4, (cell_off1 (by omega)).trans c5, World.cell?_setCell_same _ _ _ c6, (cell_off1 (by omega)).trans c7, (cell_off1 (by omega)).trans c8⟩, fun o => by simp [hf]⟩
  | 7, _ => exact ⟨⟨(cell_off1 (by omega)).trans c0, (cell_off1 (by omega)).trans c1, (cell_off1 (by omega)).trans c2, (cell_off1 (by omega)).trans c3, (cell_off1 (by omega)).trans c4, (cell_off1 (by omega)).trans c5, (cell_off1 (by omega)).trans c6, World.cell?_setCell_same _ _ _ c7, (cell_off1 (by omega)).trans c8⟩, fun o => by simp [hf]⟩
  | 8, _ => exact ⟨⟨(cell_off1 (by omega)).trans c0, (cell_off1 (by omega)).trans c1, (cell_off1 (by omega)).trans c2, (cell_off1 (by omega)).trans c3, (cell_off1 (by omega)).trans c4, (cell_off1 (by omega)).trans c5, (cell_off1 (by omega)).trans c6, (cell_off1 (by omega)).trans c7, World.cell?_setCell_same _ _ _ c8⟩, fun o => by simp [hf]⟩
theorem rb_new (W : World) (r : R) (t : TypeId) : RB (W.alloc (.cells r.cells t)) W.heap.size r := by
  refine ⟨⟨?_, ?_, ?_, ?_, ?_, ?_, ?_, ?_, ?_⟩, fun o => by simp⟩ <;> simp [R.cells]

set_option maxHeartbeats 4000000 in
theorem number_c (b k : Nat) (hk : k < 9) (w : World) : Calls Try.prog 97 #[.pointer (some ⟨b, 0, none⟩), .string (fieldNames.getD k ⟨#[]⟩)] w fun e w' => e = .returned (if 2 ≤ k ∧ k ≤ 6 then .pointer none else .pointer (some ⟨b, k, none⟩)) ∧ w = w' := by
  match k, hk with
  | 0, _ | 1, _ | 2, _ | 3, _ | 4, _ | 5, _ | 6, _ | 7, _ | 8, _ =>
    simp only [fieldNames, List.getD_cons_zero, List.getD_cons_succ]
    go_enter Try.func97, Try.ntmps97
    go_wp2
    go_ret
    exact ⟨rfl, rfl⟩
set_option maxHeartbeats 4000000 in
theorem flag_c (b k : Nat) (hk : 2 ≤ k) (hk2 : k ≤ 6) (w : World) : Calls Try.prog 99 #[.pointer (some ⟨b, 0, none⟩), .string (fieldNames.getD k ⟨#[]⟩)] w fun e w' => e = .returned (.pointer (some ⟨b, k, none⟩)) ∧ w = w' := by
  match k, hk, hk2 with
  | 2, _, _ | 3, _, _ | 4, _, _ | 5, _, _ | 6, _, _ =>
    simp only [fieldNames, List.getD_cons_zero, List.getD_cons_succ]
    go_enter Try.func99, Try.ntmps99
    go_wp2
    go_ret
    exact ⟨rfl, rfl⟩

set_option maxRecDepth 100000 in
set_option maxHeartbeats 16000000 in
theorem iSetField_c (r : R) (s : ByteArray) (v : Int) (w : World) : Calls Try.prog 14 #[r.val, .string s, .int .i64 v] w fun e w' => e = .returned (.tuple #[(setP r s v).1.val, .int .i64 (setP r s v).2]) ∧ Below w.heap.size w w' := by
  have R0 : RB ((w.alloc (.cells r.cells 25)).alloc (.cells R.nil.cells 25)) w.heap.size r := (rb_new w r _).below (below_alloc1 _ _)
  have Z0 : RB ((w.alloc (.cells r.cells 25)).alloc (.cells R.nil.cells 25)) (w.heap.size + 1) R.nil := by
    have := rb_new (w.alloc (.cells r.cells 25)) R.nil 25
    simpa using this
  have B0 : Below w.heap.size w ((w.alloc (.cells r.cells 25)).alloc (.cells R.nil.cells 25)) := below_alloc2 _ _ _
  obtain ⟨y, hy⟩ : ∃ y, y = setP r s v := ⟨_, rfl⟩
  rw [← hy]
  have HV := fun W => ValidRules_c r W
  have H0 := Lib.hid (⟨R0, Z0, B0⟩ : _ ∧ _ ∧ _)
  have HFD := Lib.hid (fun W => iField_c r s W)
  clear R0 Z0 B0
  cases hok : r.ok
  · rw [hok] at HV
    have HV := Lib.hid HV
    have HE : Hid (y = (R.nil, 1)) := by unfold Hid; rw [hy, setP, if_pos hok]
    clear hok hy
    go_enter Try.func14, Try.ntmps14
    go_wp2_with fail
    refine (HV.out _).mono ?_
    rintro e w1 ⟨rfl, hb1⟩
    have Z1 := H0.out.2.1.below hb1
    have HB := Lib.hid (below_next H0.out.2.2 hb1)
    obtain ⟨⟨z0, z1, z2, z3, z4, z5, z6, z7, z8⟩, zf⟩ := Z1
    have hn1 : w.heap.size + 1 < w1.heap.size := World.block_lt_of_cell? w1 _ z0
    clear hb1
    go_wp2
    refine bodyPost_ret (v := .tuple #[R.val R.nil, .int .i64 1]) (by simp [results, Try.results14, go_sem, z0, z1, z2, z3, z4, z5, z6, z7, z8, zf, hn1, R.val, R.cells, R.nil]) rfl ⟨by rw [HE.out], ?_⟩
    (repeat (first | (with_reducible exact HB.out) | ((with_reducible refine Below.setCell ?_ ?_ _); rotate_left; (simp <;> omega))))
  rw [hok] at HV
  have HV := Lib.hid HV
  cases hfo : fieldOk s
  · rw [hfo] at HFD
    have HE : Hid (y = (R.nil, 3)) := by unfold Hid; rw [hy, setP, if_neg (by rw [hok]; decide), if_pos hfo]
    clear hok hy hfo
    go_enter Try.func14, Try.ntmps14
    go_wp2_with fail
    refine (HV.out _).mono ?_
    rintro e w1 ⟨rfl, hb1⟩
    have Z1 := H0.out.2.1.below hb1
    have R1 := H0.out.1.below hb1
    have HB1 := Lib.hid (below_next H0.out.2.2 hb1)
    obtain ⟨⟨c0, c1, c2, c3, c4, c5, c6, c7, c8⟩, cf⟩ := R1
    have hn0 : w.heap.size < w1.heap.size := World.block_lt_of_cell? w1 _ c0
    clear hb1
    go_wp2_with fail
    refine (HFD.out _).mono ?_
    rintro e w2 ⟨rfl, hb2⟩
    have Z2 := Z1.below hb2
    have HB := Lib.hid (below_next HB1.out hb2)
    obtain ⟨⟨z0, z1, z2, z3, z4, z5, z6, z7, z8⟩, zf⟩ := Z2
    have hn1 : w.heap.size + 1 < w2.heap.size := World.block_lt_of_cell? w2 _ z0
    clear hb2 Z1 c0 c1 c2 c3 c4 c5 c6 c7 c8 cf
    go_wp2
    refine bodyPost_ret (v := .tuple #[R.val R.nil, .int .i64 3]) (by simp [results, Try.results14, go_sem, z0, z1, z2, z3, z4, z5, z6, z7, z8, zf, hn1, R.val, R.cells, R.nil]) rfl ⟨by rw [HE.out], ?_⟩
    (repeat (first | (with_reducible exact HB.out) | ((with_reducible refine Below.setCell ?_ ?_ _); rotate_left; (simp <;> omega))))
  rw [hfo] at HFD
  obtain ⟨k, hk, hs, hik⟩ := name_of hfo
  have HY : Hid (y = setK r k v) := by unfold Hid; rw [hy, setP, if_neg (by rw [hok]; decide), if_neg (by rw [hfo]; decide), hik]
  clear hok hy hfo hik
  subst hs
  have HNM := Lib.hid (fun b W => number_c b k hk W)
  have HFL := Lib.hid (fun b (h1 : 2 ≤ k) (h2 : k ≤ 6) W => flag_c b k h1 h2 W)
  have HVS := Lib.hid (fun W => ValidRules_c (setR r k v) W)
  have HST := Lib.hid (fun W (h : RB W w.heap.size r) => h.set k hk v)
  obtain ⟨nm, hnm⟩ : ∃ nm, nm = fieldNames.getD k ⟨#[]⟩ := ⟨_, rfl⟩
  rw [← hnm] at HFD HNM HFL ⊢
  clear hnm
  by_cases hkk : 2 ≤ k ∧ k ≤ 6
  case neg =>
    have hKF : Hid (setK r k v = if (setR r k v).ok = false then (R.nil, 2) else (setR r k v, 0)) := by
      unfold Hid setK
      by_cases h : (setR r k v).ok = false
      · rw [if_pos (.inr h), if_pos h]
      · rw [if_neg (fun e => by rcases e with e | e; exact hkk ⟨e.1, e.2.1⟩; exact h e), if_neg h]
    have HFV : Hid (fval k v = .int .i64 v) := by unfold Hid fval; rw [if_neg hkk]
    have HN := Lib.hid (fun b W => by have h1 := HNM.out b W; rw [if_neg hkk] at h1; exact h1)
    have HST := Lib.hid (fun W h => by have h1 := HST.out W h; rw [HFV.out] at h1; exact h1)
    obtain ⟨r', hr'⟩ : ∃ r', r' = setR r k v := ⟨_, rfl⟩
    rw [← hr'] at HVS HST hKF
    have HYK := Lib.hid (HY.out.trans hKF.out)
    clear hkk HNM HFL HY hKF hr'
    go_enter Try.func14, Try.ntmps14
    go_wp2_with fail
    refine (HV.out _).mono ?_
    rintro e w1 ⟨rfl, hb1⟩
    have Z1 := Lib.hid (H0.out.2.1.below hb1)
    have HR1 := Lib.hid (H0.out.1.below hb1)
    have HB1 := Lib.hid (below_next H0.out.2.2 hb1)
    obtain ⟨⟨c0, c1, c2, c3, c4, c5, c6, c7, c8⟩, cf⟩ := HR1.out
    have hn0 : w.heap.size < w1.heap.size := World.block_lt_of_cell? w1 _ c0
    clear hb1
    go_wp2_with fail
    refine (HFD.out _).mono ?_
    rintro e w2 ⟨rfl, hb2⟩
    have Z2 := Lib.hid (Z1.out.below hb2)
    have HR2 := Lib.hid (HR1.out.below hb2)
    have HB2 := Lib.hid (below_next HB1.out hb2)
    have hn2 : w.heap.size < w2.heap.size := World.block_lt_of_cell? w2 _ HR2.out.at_.c0
    clear hb2 c0 c1 c2 c3 c4 c5 c6 c7 c8 cf
    go_wp2_with fail
    refine (HN.out _ _).mono ?_
    rintro e w3 ⟨rfl, rfl⟩
    have hcf := HR2.out.fz k
    obtain ⟨u, hcu⟩ : ∃ u, w2.cell? ⟨w.heap.size, k, none⟩ = some u := by
      obtain ⟨⟨c0, c1, c2, c3, c4, c5, c6, c7, c8⟩, _⟩ := HR2.out
      match k, hk with
      | 0, _ => exact ⟨_, c0⟩
      | 1, _ => exact ⟨_, c1⟩
      | 2, _ => exact ⟨_, c2⟩
      | 3, _ => exact ⟨_, c3⟩
      | 4, _ => exact ⟨_, c4⟩
      | 5, _ => exact ⟨_, c5⟩
      | 6, _ => exact ⟨_, c6⟩
      | 7, _ => exact ⟨_, c7⟩
      | 8, _ => exact ⟨_, c8⟩
    have HR3 := Lib.hid (HST.out w2 HR2.out)
    have Z3 := Lib.hid (Z2.out.other (b' := w.heap.size) (o := k) (u := .int .i64 v) (by omega))
    have HB3 : Hid (Below w.heap.size w (w2.setCell ⟨w.heap.size, k, none⟩ (.int .i64 v))) := HB2.out.setCell (by simp) _
    obtain ⟨⟨c0, c1, c2, c3, c4, c5, c6, c7, c8⟩, cf⟩ := HR3.out
    go_wp2_with fail
    refine (HVS.out _).mono ?_
    rintro e w4 ⟨rfl, hb4⟩
    have Z4 := Z3.out.below hb4
    have HR4 := Lib.hid (HR3.out.below hb4)
    have HB := Lib.hid (below_next HB3.out hb4)
    obtain ⟨⟨z0, z1, z2, z3, z4, z5, z6, z7, z8⟩, zf⟩ := Z4
    have hn1 : w.heap.size + 1 < w4.heap.size := World.block_lt_of_cell? w4 _ z0
    have hn4 : w.heap.size < w4.heap.size := by omega
    clear hb4 c0 c1 c2 c3 c4 c5 c6 c7 c8 cf hcf hcu
    cases hok2 : r'.ok
    · have HE : Hid (y = (R.nil, 2)) := HYK.out.trans (if_pos hok2)
      go_wp2
      refine bodyPost_ret (v := .tuple #[R.val R.nil, .int .i64 2]) (by simp [results, Try.results14, go_sem, z0, z1, z2, z3, z4, z5, z6, z7, z8, zf, hn1, R.val, R.cells, R.nil]) rfl ⟨by rw [HE.out], ?_⟩
      (repeat (first | (with_reducible exact HB.out) | ((with_reducible refine Below.setCell ?_ ?_ _); rotate_left; (simp <;> omega))))
    · have HE : Hid (y = (r', 0)) := HYK.out.trans (if_neg (by rw [hok2]; decide))
      obtain ⟨⟨c0, c1, c2, c3, c4, c5, c6, c7, c8⟩, cf⟩ := HR4.out
      go_wp2
      refine bodyPost_ret (v := .tuple #[R.val r', .int .i64 0]) (by simp [results, Try.results14, go_sem, z0, z1, z2, z3, z4, z5, z6, z7, z8, zf, hn1, R.val, R.cells, R.nil]) rfl ⟨by rw [HE.out], ?_⟩
      (repeat (first | (with_reducible exact HB.out) | ((with_reducible refine Below.setCell ?_ ?_ _); rotate_left; (simp <;> omega))))
  obtain ⟨hk2, hk6⟩ := hkk
  have HFV : Hid (fval k v = .bool (v == 1)) := by unfold Hid fval; rw [if_pos ⟨hk2, hk6⟩]
  have HN := Lib.hid (fun b W => by have h1 := HNM.out b W; rw [if_pos ⟨hk2, hk6⟩] at h1; exact h1)
  have HFG := Lib.hid (fun b W => HFL.out b hk2 hk6 W)
  have HST := Lib.hid (fun W h => by have h1 := HST.out W h; rw [HFV.out] at h1; exact h1)
  have HBW := fun W => between_c v 0 1 W
  obtain ⟨r', hr'⟩ : ∃ r', r' = setR r k v := ⟨_, rfl⟩
  have hSK : setK r k v = if (2 ≤ k ∧ k ≤ 6 ∧ inB v 0 1 = false) ∨ r'.ok = false then (R.nil, 2) else (r', 0) := by rw [hr']; rfl
  have HYK := Lib.hid (HY.out.trans hSK)
  rw [← hr'] at HVS HST
  clear HNM HFL HY hSK hr'
  cases hbt : inB v 0 1
  · rw [hbt] at HBW
    have HBW := Lib.hid HBW
    have HE : Hid (y = (R.nil, 2)) := HYK.out.trans (if_pos (.inl ⟨hk2, hk6, hbt⟩))
    clear hbt hk2 hk6
    go_enter Try.func14, Try.ntmps14
    go_wp2_with fail
    refine (HV.out _).mono ?_
    rintro e w1 ⟨rfl, hb1⟩
    have Z1 := Lib.hid (H0.out.2.1.below hb1)
    have HR1 := Lib.hid (H0.out.1.below hb1)
    have HB1 := Lib.hid (below_next H0.out.2.2 hb1)
    obtain ⟨⟨c0, c1, c2, c3, c4, c5, c6, c7, c8⟩, cf⟩ := HR1.out
    have hn0 : w.heap.size < w1.heap.size := World.block_lt_of_cell? w1 _ c0
    clear hb1
    go_wp2_with fail
    refine (HFD.out _).mono ?_
    rintro e w2 ⟨rfl, hb2⟩
    have Z2 := Lib.hid (Z1.out.below hb2)
    have HR2 := Lib.hid (HR1.out.below hb2)
    have HB2 := Lib.hid (below_next HB1.out hb2)
    have hn2 : w.heap.size < w2.heap.size := World.block_lt_of_cell? w2 _ HR2.out.at_.c0
    clear hb2 c0 c1 c2 c3 c4 c5 c6 c7 c8 cf
    go_wp2_with fail
    refine (HN.out _ _).mono ?_
    rintro e w3 ⟨rfl, rfl⟩
    go_wp2_with fail
    refine (HBW.out _).mono ?_
    rintro e w3 ⟨rfl, rfl⟩
    have HB := Lib.hid HB2.out
    obtain ⟨⟨z0, z1, z2, z3, z4, z5, z6, z7, z8⟩, zf⟩ := Z2.out
    have hn1 : w.heap.size + 1 < w2.heap.size := World.block_lt_of_cell? w2 _ z0
    go_wp2
    refine bodyPost_ret (v := .tuple #[R.val R.nil, .int .i64 2]) (by simp [results, Try.results14, go_sem, z0, z1, z2, z3, z4, z5, z6, z7, z8, zf, hn1, R.val, R.cells, R.nil]) rfl ⟨by rw [HE.out], ?_⟩
    (repeat (first | (with_reducible exact HB.out) | ((with_reducible refine Below.setCell ?_ ?_ _); rotate_left; (simp <;> omega))))
  · rw [hbt] at HBW
    have HBW := Lib.hid HBW
    have hKF : Hid (y = if r'.ok = false then (R.nil, 2) else (r', 0)) := by
      unfold Hid
      rw [HYK.out]
      by_cases h : r'.ok = false
      · rw [if_pos (.inr h), if_pos h]
      · rw [if_neg (fun e => by rcases e with e | e; (rw [hbt] at e; cases e.2.2); exact h e), if_neg h]
    clear hbt hk2 hk6 HYK
    go_enter Try.func14, Try.ntmps14
    go_wp2_with fail
    refine (HV.out _).mono ?_
    rintro e w1 ⟨rfl, hb1⟩
    have Z1 := Lib.hid (H0.out.2.1.below hb1)
    have HR1 := Lib.hid (H0.out.1.below hb1)
    have HB1 := Lib.hid (below_next H0.out.2.2 hb1)
    obtain ⟨⟨c0, c1, c2, c3, c4, c5, c6, c7, c8⟩, cf⟩ := HR1.out
    have hn0 : w.heap.size < w1.heap.size := World.block_lt_of_cell? w1 _ c0
    clear hb1
    go_wp2_with fail
    refine (HFD.out _).mono ?_
    rintro e w2 ⟨rfl, hb2⟩
    have Z2 := Lib.hid (Z1.out.below hb2)
    have HR2 := Lib.hid (HR1.out.below hb2)
    have HB2 := Lib.hid (below_next HB1.out hb2)
    have hn2 : w.heap.size < w2.heap.size := World.block_lt_of_cell? w2 _ HR2.out.at_.c0
    clear hb2 c0 c1 c2 c3 c4 c5 c6 c7 c8 cf
    go_wp2_with fail
    refine (HN.out _ _).mono ?_
    rintro e w3 ⟨rfl, rfl⟩
    go_wp2_with fail
    refine (HBW.out _).mono ?_
    rintro e w3 ⟨rfl, rfl⟩
    go_wp2_with fail
    refine (HFG.out _ _).mono ?_
    rintro e w3 ⟨rfl, rfl⟩
    have hcf := HR2.out.fz k
    obtain ⟨u, hcu⟩ : ∃ u, w2.cell? ⟨w.heap.size, k, none⟩ = some u := by
      obtain ⟨⟨c0, c1, c2, c3, c4, c5, c6, c7, c8⟩, _⟩ := HR2.out
      match k, hk with
      | 0, _ => exact ⟨_, c0⟩
      | 1, _ => exact ⟨_, c1⟩
      | 2, _ => exact ⟨_, c2⟩
      | 3, _ => exact ⟨_, c3⟩
      | 4, _ => exact ⟨_, c4⟩
      | 5, _ => exact ⟨_, c5⟩
      | 6, _ => exact ⟨_, c6⟩
      | 7, _ => exact ⟨_, c7⟩
      | 8, _ => exact ⟨_, c8⟩
    have HR3 := Lib.hid (HST.out w2 HR2.out)
    have Z3 := Lib.hid (Z2.out.other (b' := w.heap.size) (o := k) (u := .bool (v == 1)) (by omega))
    have HB3 : Hid (Below w.heap.size w (w2.setCell ⟨w.heap.size, k, none⟩ (.bool (v == 1)))) := HB2.out.setCell (by simp) _
    obtain ⟨⟨c0, c1, c2, c3, c4, c5, c6, c7, c8⟩, cf⟩ := HR3.out
    go_wp2_with fail
    refine (HVS.out _).mono ?_
    rintro e w4 ⟨rfl, hb4⟩
    have Z4 := Z3.out.below hb4
    have HR4 := Lib.hid (HR3.out.below hb4)
    have HB := Lib.hid (below_next HB3.out hb4)
    obtain ⟨⟨z0, z1, z2, z3, z4, z5, z6, z7, z8⟩, zf⟩ := Z4
    have hn1 : w.heap.size + 1 < w4.heap.size := World.block_lt_of_cell? w4 _ z0
    have hn4 : w.heap.size < w4.heap.size := by omega
    clear hb4 c0 c1 c2 c3 c4 c5 c6 c7 c8 cf hcf hcu
    cases hok2 : r'.ok
    · have HE : Hid (y = (R.nil, 2)) := hKF.out.trans (if_pos hok2)
      go_wp2
      refine bodyPost_ret (v := .tuple #[R.val R.nil, .int .i64 2]) (by simp [results, Try.results14, go_sem, z0, z1, z2, z3, z4, z5, z6, z7, z8, zf, hn1, R.val, R.cells, R.nil]) rfl ⟨by rw [HE.out], ?_⟩
      (repeat (first | (with_reducible exact HB.out) | ((with_reducible refine Below.setCell ?_ ?_ _); rotate_left; (simp <;> omega))))
    · have HE : Hid (y = (r', 0)) := hKF.out.trans (if_neg (by rw [hok2]; decide))
      obtain ⟨⟨c0, c1, c2, c3, c4, c5, c6, c7, c8⟩, cf⟩ := HR4.out
      go_wp2
      refine bodyPost_ret (v := .tuple #[R.val r', .int .i64 0]) (by simp [results, Try.results14, go_sem, z0, z1, z2, z3, z4, z5, z6, z7, z8, zf, hn1, R.val, R.cells, R.nil]) rfl ⟨by rw [HE.out], ?_⟩
      (repeat (first | (with_reducible exact HB.out) | ((with_reducible refine Below.setCell ?_ ?_ _); rotate_left; (simp <;> omega))))

def rulesL (xs : List Int) : R := ⟨xs.getD 0 0, xs.getD 1 0, xs.getD 2 0 == 1, xs.getD 3 0 == 1, xs.getD 4 0 == 1, xs.getD 5 0 == 1, xs.getD 6 0 == 1, xs.getD 7 0, xs.getD 8 0⟩
theorem bit_eq (b : Bool) : (bitI b == 1) = b := by cases b <;> rfl
theorem rulesL_set (r : R) (v : Int) : ∀ k, k < 9 → rulesL (r.list.set k v) = setR r k v
  | 0, _ | 1, _ | 2, _ | 3, _ | 4, _ | 5, _ | 6, _ | 7, _ | 8, _ => by simp [rulesL, R.list, setR, bit_eq]
set_option maxRecDepth 100000 in
set_option maxHeartbeats 8000000 in
theorem l03Rules_c (g c : Nat) (x0 x1 x2 x3 x4 x5 x6 x7 x8 : Int) (w : World) (hS0 : w.cell? ⟨g, 0, none⟩ = some (.int .i64 x0) ∧ w.cell? ⟨g, 1, none⟩ = some (.int .i64 x1) ∧ w.cell? ⟨g, 2, none⟩ = some (.int .i64 x2) ∧ w.cell? ⟨g, 3, none⟩ = some (.int .i64 x3) ∧ w.cell? ⟨g, 4, none⟩ = some (.int .i64 x4) ∧ w.cell? ⟨g, 5, none⟩ = some (.int .i64 x5) ∧ w.cell? ⟨g, 6, none⟩ = some (.int .i64 x6) ∧ w.cell? ⟨g, 7, none⟩ = some (.int .i64 x7) ∧ w.cell? ⟨g, 8, none⟩ = some (.int .i64 x8)) :
    Calls Try.prog 103 #[.slice (some ⟨g, 0, none⟩) 9 c] w fun e w' => e = .returned (R.val ⟨x0, x1, x2 == 1, x3 == 1, x4 == 1, x5 == 1, x6 == 1, x7, x8⟩) ∧ Below w.heap.size w w' := by
  have hgl : g < w.heap.size := World.block_lt_of_cell? w _ hS0.1
  have B0 := below_alloc1 w (.cells R.nil.cells 25)
  have Z0 := rb_new w R.nil 25
  have hgn : ¬ g = w.heap.size := by omega
  obtain ⟨s0, s1, s2, s3, s4, s5, s6, s7, s8⟩ := hS0
  have HS : Hid (∀ W : World, (∀ o, W.cell? ⟨g, o, none⟩ = w.cell? ⟨g, o, none⟩) → W.cell? ⟨g, 0, none⟩ = some (.int .i64 x0) ∧ W.cell? ⟨g, 1, none⟩ = some (.int .i64 x1) ∧ W.cell? ⟨g, 2, none⟩ = some (.int .i64 x2) ∧ W.cell? ⟨g, 3, none⟩ = some (.int .i64 x3) ∧ W.cell? ⟨g, 4, none⟩ = some (.int .i64 x4) ∧ W.cell? ⟨g, 5, none⟩ = some (.int .i64 x5) ∧ W.cell? ⟨g, 6, none⟩ = some (.int .i64 x6) ∧ W.cell? ⟨g, 7, none⟩ = some (.int .i64 x7) ∧ W.cell? ⟨g, 8, none⟩ = some (.int .i64 x8)) := fun W H =>
    ⟨(H _).trans s0, (H _).trans s1, (H _).trans s2, (H _).trans s3, (H _).trans s4, (H _).trans s5, (H _).trans s6, (H _).trans s7, (H _).trans s8⟩
  have HB0 := Lib.hid B0
  obtain ⟨⟨z0, z1, z2, z3, z4, z5, z6, z7, z8⟩, zf⟩ := Z0
  clear B0 s0 s1 s2 s3 s4 s5 s6 s7 s8
  go_enter Try.func103, Try.ntmps103
  go_wp2_with fail
  refine heldH (S := fun W => W.cell? ⟨g, 0, none⟩ = some (.int .i64 x0) ∧ W.cell? ⟨g, 1, none⟩ = some (.int .i64 x1) ∧ W.cell? ⟨g, 2, none⟩ = some (.int .i64 x2) ∧ W.cell? ⟨g, 3, none⟩ = some (.int .i64 x3) ∧ W.cell? ⟨g, 4, none⟩ = some (.int .i64 x4) ∧ W.cell? ⟨g, 5, none⟩ = some (.int .i64 x5) ∧ W.cell? ⟨g, 6, none⟩ = some (.int .i64 x6) ∧ W.cell? ⟨g, 7, none⟩ = some (.int .i64 x7) ∧ W.cell? ⟨g, 8, none⟩ = some (.int .i64 x8)) (n := 34) (listed := #[false, false, false, false, false, false, false, false, false, false, false, false, false, false, false, false, false, false, false, false, false, false, false, false, false, false, false, false, false, false, false, false, false, false]) (by kernel_rfl) (by rfl) (by rfl) ?_ (fun hHeld => ?_)
  (focus ((try dsimp only); (first | done | ((first | exact HS.out _ (fun o => (bcell (below_alloc1 w _)).1 g o hgl) | exact HS.out _ (fun o => (bcell (below_alloc1 w _).drew).1 g o hgl)); done))))
  (first | ((refine takeH (i := 0) (v := ?_) (by decide +kernel) (by decide +kernel) (by kernel_rfl) (by rfl) (by exact fun _ _ _ h => h) (by rfl) ?_ (by assumption) ?_); rotate_left; (focus (intro w hSw; (try dsimp only at hSw); go_simp; (try with_reducible rfl); done)); (try simp only [Act.put, List.setIfInBounds_toArray, List.set_cons_zero, List.set_cons_succ])) | ((refine skipH (i := 0) (by decide +kernel) (by decide +kernel) (by kernel_rfl) (by rfl) (by exact fun _ _ _ h => h) (by rfl) (by assumption) ?_); (try simp only [Act.put, List.setIfInBounds_toArray, List.set_cons_zero, List.set_cons_succ])))
  (first | ((refine takeH (i := 1) (v := ?_) (by decide +kernel) (by decide +kernel) (by kernel_rfl) (by rfl) (by exact fun _ _ _ h => h) (by rfl) ?_ (by assumption) ?_); rotate_left; (focus (intro w hSw; (try dsimp only at hSw); go_simp; (try with_reducible rfl); done)); (try simp only [Act.put, List.setIfInBounds_toArray, List.set_cons_zero, List.set_cons_succ])) | ((refine skipH (i := 1) (by decide +kernel) (by decide +kernel) (by kernel_rfl) (by rfl) (by exact fun _ _ _ h => h) (by rfl) (by assumption) ?_); (try simp only [Act.put, List.setIfInBounds_toArray, List.set_cons_zero, List.set_cons_succ])))
  (first | ((refine takeH (i := 2) (v := ?_) (by decide +kernel) (by decide +kernel) (by kernel_rfl) (by rfl) (by exact fun _ _ _ h => h) (by rfl) ?_ (by assumption) ?_); rotate_left; (focus (intro w hSw; (try dsimp only at hSw); go_simp; (try with_reducible rfl); done)); (try simp only [Act.put, List.setIfInBounds_toArray, List.set_cons_zero, List.set_cons_succ])) | ((refine skipH (i := 2) (by decide +kernel) (by decide +kernel) (by kernel_rfl) (by rfl) (by exact fun _ _ _ h => h) (by rfl) (by assumption) ?_); (try simp only [Act.put, List.setIfInBounds_toArray, List.set_cons_zero, List.set_cons_succ])))
  (first | ((refine takeH (i := 3) (v := ?_) (by decide +kernel) (by decide +kernel) (by kernel_rfl) (by rfl) (by exact fun _ _ _ h => h) (by rfl) ?_ (by assumption) ?_); rotate_left; (focus (intro w hSw; (try dsimp only at hSw); go_simp; (try with_reducible rfl); done)); (try simp only [Act.put, List.setIfInBounds_toArray, List.set_cons_zero, List.set_cons_succ])) | ((refine skipH (i := 3) (by decide +kernel) (by decide +kernel) (by kernel_rfl) (by rfl) (by exact fun _ _ _ h => h) (by rfl) (by assumption) ?_); (try simp only [Act.put, List.setIfInBounds_toArray, List.set_cons_zero, List.set_cons_succ])))
  (first | ((refine takeH (i := 4) (v := ?_) (by decide +kernel) (by decide +kernel) (by kernel_rfl) (by rfl) (by exact fun _ _ _ h => h) (by rfl) ?_ (by assumption) ?_); rotate_left; (focus (intro w hSw; (try dsimp only at hSw); go_simp; (try with_reducible rfl); done)); (try simp only [Act.put, List.setIfInBounds_toArray, List.set_cons_zero, List.set_cons_succ])) | ((refine skipH (i := 4) (by decide +kernel) (by decide +kernel) (by kernel_rfl) (by rfl) (by exact fun _ _ _ h => h) (by rfl) (by assumption) ?_); (try simp only [Act.put, List.setIfInBounds_toArray, List.set_cons_zero, List.set_cons_succ])))
  (first | ((refine takeH (i := 5) (v := ?_) (by decide +kernel) (by decide +kernel) (by kernel_rfl) (by rfl) (by exact fun _ _ _ h => h) (by rfl) ?_ (by assumption) ?_); rotate_left; (focus (intro w hSw; (try dsimp only at hSw); go_simp; (try with_reducible rfl); done)); (try simp only [Act.put, List.setIfInBounds_toArray, List.set_cons_zero, List.set_cons_succ])) | ((refine skipH (i := 5) (by decide +kernel) (by decide +kernel) (by kernel_rfl) (by rfl) (by exact fun _ _ _ h => h) (by rfl) (by assumption) ?_); (try simp only [Act.put, List.setIfInBounds_toArray, List.set_cons_zero, List.set_cons_succ])))
  (first | ((refine takeH (i := 6) (v := ?_) (by decide +kernel) (by decide +kernel) (by kernel_rfl) (by rfl) (by exact fun _ _ _ h => h) (by rfl) ?_ (by assumption) ?_); rotate_left; (focus (intro w hSw; (try dsimp only at hSw); go_simp; (try with_reducible rfl); done)); (try simp only [Act.put, List.setIfInBounds_toArray, List.set_cons_zero, List.set_cons_succ])) | ((refine skipH (i := 6) (by decide +kernel) (by decide +kernel) (by kernel_rfl) (by rfl) (by exact fun _ _ _ h => h) (by rfl) (by assumption) ?_); (try simp only [Act.put, List.setIfInBounds_toArray, List.set_cons_zero, List.set_cons_succ])))
  (first | ((refine takeH (i := 7) (v := ?_) (by decide +kernel) (by decide +kernel) (by kernel_rfl) (by rfl) (by exact fun _ _ _ h => h) (by rfl) ?_ (by assumption) ?_); rotate_left; (focus (intro w hSw; (try dsimp only at hSw); go_simp; (try with_reducible rfl); done)); (try simp only [Act.put, List.setIfInBounds_toArray, List.set_cons_zero, List.set_cons_succ])) | ((refine skipH (i := 7) (by decide +kernel) (by decide +kernel) (by kernel_rfl) (by rfl) (by exact fun _ _ _ h => h) (by rfl) (by assumption) ?_); (try simp only [Act.put, List.setIfInBounds_toArray, List.set_cons_zero, List.set_cons_succ])))
  (first | ((refine takeH (i := 8) (v := ?_) (by decide +kernel) (by decide +kernel) (by kernel_rfl) (by rfl) (by exact fun _ _ _ h => h) (by rfl) ?_ (by assumption) ?_); rotate_left; (focus (intro w hSw; (try dsimp only at hSw); go_simp; (try with_reducible rfl); done)); (try simp only [Act.put, List.setIfInBounds_toArray, List.set_cons_zero, List.set_cons_succ])) | ((refine skipH (i := 8) (by decide +kernel) (by decide +kernel) (by kernel_rfl) (by rfl) (by exact fun _ _ _ h => h) (by rfl) (by assumption) ?_); (try simp only [Act.put, List.setIfInBounds_toArray, List.set_cons_zero, List.set_cons_succ])))
  (first | ((refine takeH (i := 9) (v := ?_) (by decide +kernel) (by decide +kernel) (by kernel_rfl) (by rfl) (by exact fun _ _ _ h => h) (by rfl) ?_ (by assumption) ?_); rotate_left; (focus (intro w hSw; (try dsimp only at hSw); go_simp; (try with_reducible rfl); done)); (try simp only [Act.put, List.setIfInBounds_toArray, List.set_cons_zero, List.set_cons_succ])) | ((refine skipH (i := 9) (by decide +kernel) (by decide +kernel) (by kernel_rfl) (by rfl) (by exact fun _ _ _ h => h) (by rfl) (by assumption) ?_); (try simp only [Act.put, List.setIfInBounds_toArray, List.set_cons_zero, List.set_cons_succ])))
  (first | ((refine takeH (i := 10) (v := ?_) (by decide +kernel) (by decide +kernel) (by kernel_rfl) (by rfl) (by exact fun _ _ _ h => h) (by rfl) ?_ (by assumption) ?_); rotate_left; (focus (intro w hSw; (try dsimp only at hSw); go_simp; (try with_reducible rfl); done)); (try simp only [Act.put, List.setIfInBounds_toArray, List.set_cons_zero, List.set_cons_succ])) | ((refine skipH (i := 10) (by decide +kernel) (by decide +kernel) (by kernel_rfl) (by rfl) (by exact fun _ _ _ h => h) (by rfl) (by assumption) ?_); (try simp only [Act.put, List.setIfInBounds_toArray, List.set_cons_zero, List.set_cons_succ])))
  (first | ((refine takeH (i := 11) (v := ?_) (by decide +kernel) (by decide +kernel) (by kernel_rfl) (by rfl) (by exact fun _ _ _ h => h) (by rfl) ?_ (by assumption) ?_); rotate_left; (focus (intro w hSw; (try dsimp only at hSw); go_simp; (try with_reducible rfl); done)); (try simp only [Act.put, List.setIfInBounds_toArray, List.set_cons_zero, List.set_cons_succ])) | ((refine skipH (i := 11) (by decide +kernel) (by decide +kernel) (by kernel_rfl) (by rfl) (by exact fun _ _ _ h => h) (by rfl) (by assumption) ?_); (try simp only [Act.put, List.setIfInBounds_toArray, List.set_cons_zero, List.set_cons_succ])))
  (first | ((refine takeH (i := 12) (v := ?_) (by decide +kernel) (by decide +kernel) (by kernel_rfl) (by rfl) (by exact fun _ _ _ h => h) (by rfl) ?_ (by assumption) ?_); rotate_left; (focus (intro w hSw; (try dsimp only at hSw); go_simp; (try with_reducible rfl); done)); (try simp only [Act.put, List.setIfInBounds_toArray, List.set_cons_zero, List.set_cons_succ])) | ((refine skipH (i := 12) (by decide +kernel) (by decide +kernel) (by kernel_rfl) (by rfl) (by exact fun _ _ _ h => h) (by rfl) (by assumption) ?_); (try simp only [Act.put, List.setIfInBounds_toArray, List.set_cons_zero, List.set_cons_succ])))
  (first | ((refine takeH (i := 13) (v := ?_) (by decide +kernel) (by decide +kernel) (by kernel_rfl) (by rfl) (by exact fun _ _ _ h => h) (by rfl) ?_ (by assumption) ?_); rotate_left; (focus (intro w hSw; (try dsimp only at hSw); go_simp; (try with_reducible rfl); done)); (try simp only [Act.put, List.setIfInBounds_toArray, List.set_cons_zero, List.set_cons_succ])) | ((refine skipH (i := 13) (by decide +kernel) (by decide +kernel) (by kernel_rfl) (by rfl) (by exact fun _ _ _ h => h) (by rfl) (by assumption) ?_); (try simp only [Act.put, List.setIfInBounds_toArray, List.set_cons_zero, List.set_cons_succ])))
  (first | ((refine takeH (i := 14) (v := ?_) (by decide +kernel) (by decide +kernel) (by kernel_rfl) (by rfl) (by exact fun _ _ _ h => h) (by rfl) ?_ (by assumption) ?_); rotate_left; (focus (intro w hSw; (try dsimp only at hSw); go_simp; (try with_reducible rfl); done)); (try simp only [Act.put, List.setIfInBounds_toArray, List.set_cons_zero, List.set_cons_succ])) | ((refine skipH (i := 14) (by decide +kernel) (by decide +kernel) (by kernel_rfl) (by rfl) (by exact fun _ _ _ h => h) (by rfl) (by assumption) ?_); (try simp only [Act.put, List.setIfInBounds_toArray, List.set_cons_zero, List.set_cons_succ])))
  (first | ((refine takeH (i := 15) (v := ?_) (by decide +kernel) (by decide +kernel) (by kernel_rfl) (by rfl) (by exact fun _ _ _ h => h) (by rfl) ?_ (by assumption) ?_); rotate_left; (focus (intro w hSw; (try dsimp only at hSw); go_simp; (try with_reducible rfl); done)); (try simp only [Act.put, List.setIfInBounds_toArray, List.set_cons_zero, List.set_cons_succ])) | ((refine skipH (i := 15) (by decide +kernel) (by decide +kernel) (by kernel_rfl) (by rfl) (by exact fun _ _ _ h => h) (by rfl) (by assumption) ?_); (try simp only [Act.put, List.setIfInBounds_toArray, List.set_cons_zero, List.set_cons_succ])))
  (first | ((refine takeH (i := 16) (v := ?_) (by decide +kernel) (by decide +kernel) (by kernel_rfl) (by rfl) (by exact fun _ _ _ h => h) (by rfl) ?_ (by assumption) ?_); rotate_left; (focus (intro w hSw; (try dsimp only at hSw); go_simp; (try with_reducible rfl); done)); (try simp only [Act.put, List.setIfInBounds_toArray, List.set_cons_zero, List.set_cons_succ])) | ((refine skipH (i := 16) (by decide +kernel) (by decide +kernel) (by kernel_rfl) (by rfl) (by exact fun _ _ _ h => h) (by rfl) (by assumption) ?_); (try simp only [Act.put, List.setIfInBounds_toArray, List.set_cons_zero, List.set_cons_succ])))
  (first | ((refine takeH (i := 17) (v := ?_) (by decide +kernel) (by decide +kernel) (by kernel_rfl) (by rfl) (by exact fun _ _ _ h => h) (by rfl) ?_ (by assumption) ?_); rotate_left; (focus (intro w hSw; (try dsimp only at hSw); go_simp; (try with_reducible rfl); done)); (try simp only [Act.put, List.setIfInBounds_toArray, List.set_cons_zero, List.set_cons_succ])) | ((refine skipH (i := 17) (by decide +kernel) (by decide +kernel) (by kernel_rfl) (by rfl) (by exact fun _ _ _ h => h) (by rfl) (by assumption) ?_); (try simp only [Act.put, List.setIfInBounds_toArray, List.set_cons_zero, List.set_cons_succ])))
  (first | ((refine takeH (i := 18) (v := ?_) (by decide +kernel) (by decide +kernel) (by kernel_rfl) (by rfl) (by exact fun _ _ _ h => h) (by rfl) ?_ (by assumption) ?_); rotate_left; (focus (intro w hSw; (try dsimp only at hSw); go_simp; (try with_reducible rfl); done)); (try simp only [Act.put, List.setIfInBounds_toArray, List.set_cons_zero, List.set_cons_succ])) | ((refine skipH (i := 18) (by decide +kernel) (by decide +kernel) (by kernel_rfl) (by rfl) (by exact fun _ _ _ h => h) (by rfl) (by assumption) ?_); (try simp only [Act.put, List.setIfInBounds_toArray, List.set_cons_zero, List.set_cons_succ])))
  (first | ((refine takeH (i := 19) (v := ?_) (by decide +kernel) (by decide +kernel) (by kernel_rfl) (by rfl) (by exact fun _ _ _ h => h) (by rfl) ?_ (by assumption) ?_); rotate_left; (focus (intro w hSw; (try dsimp only at hSw); go_simp; (try with_reducible rfl); done)); (try simp only [Act.put, List.setIfInBounds_toArray, List.set_cons_zero, List.set_cons_succ])) | ((refine skipH (i := 19) (by decide +kernel) (by decide +kernel) (by kernel_rfl) (by rfl) (by exact fun _ _ _ h => h) (by rfl) (by assumption) ?_); (try simp only [Act.put, List.setIfInBounds_toArray, List.set_cons_zero, List.set_cons_succ])))
  (first | ((refine takeH (i := 20) (v := ?_) (by decide +kernel) (by decide +kernel) (by kernel_rfl) (by rfl) (by exact fun _ _ _ h => h) (by rfl) ?_ (by assumption) ?_); rotate_left; (focus (intro w hSw; (try dsimp only at hSw); go_simp; (try with_reducible rfl); done)); (try simp only [Act.put, List.setIfInBounds_toArray, List.set_cons_zero, List.set_cons_succ])) | ((refine skipH (i := 20) (by decide +kernel) (by decide +kernel) (by kernel_rfl) (by rfl) (by exact fun _ _ _ h => h) (by rfl) (by assumption) ?_); (try simp only [Act.put, List.setIfInBounds_toArray, List.set_cons_zero, List.set_cons_succ])))
  (first | ((refine takeH (i := 21) (v := ?_) (by decide +kernel) (by decide +kernel) (by kernel_rfl) (by rfl) (by exact fun _ _ _ h => h) (by rfl) ?_ (by assumption) ?_); rotate_left; (focus (intro w hSw; (try dsimp only at hSw); go_simp; (try with_reducible rfl); done)); (try simp only [Act.put, List.setIfInBounds_toArray, List.set_cons_zero, List.set_cons_succ])) | ((refine skipH (i := 21) (by decide +kernel) (by decide +kernel) (by kernel_rfl) (by rfl) (by exact fun _ _ _ h => h) (by rfl) (by assumption) ?_); (try simp only [Act.put, List.setIfInBounds_toArray, List.set_cons_zero, List.set_cons_succ])))
  (first | ((refine takeH (i := 22) (v := ?_) (by decide +kernel) (by decide +kernel) (by kernel_rfl) (by rfl) (by exact fun _ _ _ h => h) (by rfl) ?_ (by assumption) ?_); rotate_left; (focus (intro w hSw; (try dsimp only at hSw); go_simp; (try with_reducible rfl); done)); (try simp only [Act.put, List.setIfInBounds_toArray, List.set_cons_zero, List.set_cons_succ])) | ((refine skipH (i := 22) (by decide +kernel) (by decide +kernel) (by kernel_rfl) (by rfl) (by exact fun _ _ _ h => h) (by rfl) (by assumption) ?_); (try simp only [Act.put, List.setIfInBounds_toArray, List.set_cons_zero, List.set_cons_succ])))
  (first | ((refine takeH (i := 23) (v := ?_) (by decide +kernel) (by decide +kernel) (by kernel_rfl) (by rfl) (by exact fun _ _ _ h => h) (by rfl) ?_ (by assumption) ?_); rotate_left; (focus (intro w hSw; (try dsimp only at hSw); go_simp; (try with_reducible rfl); done)); (try simp only [Act.put, List.setIfInBounds_toArray, List.set_cons_zero, List.set_cons_succ])) | ((refine skipH (i := 23) (by decide +kernel) (by decide +kernel) (by kernel_rfl) (by rfl) (by exact fun _ _ _ h => h) (by rfl) (by assumption) ?_); (try simp only [Act.put, List.setIfInBounds_toArray, List.set_cons_zero, List.set_cons_succ])))
  (first | ((refine takeH (i := 24) (v := ?_) (by decide +kernel) (by decide +kernel) (by kernel_rfl) (by rfl) (by exact fun _ _ _ h => h) (by rfl) ?_ (by assumption) ?_); rotate_left; (focus (intro w hSw; (try dsimp only at hSw); go_simp; (try with_reducible rfl); done)); (try simp only [Act.put, List.setIfInBounds_toArray, List.set_cons_zero, List.set_cons_succ])) | ((refine skipH (i := 24) (by decide +kernel) (by decide +kernel) (by kernel_rfl) (by rfl) (by exact fun _ _ _ h => h) (by rfl) (by assumption) ?_); (try simp only [Act.put, List.setIfInBounds_toArray, List.set_cons_zero, List.set_cons_succ])))
  (first | ((refine takeH (i := 25) (v := ?_) (by decide +kernel) (by decide +kernel) (by kernel_rfl) (by rfl) (by exact fun _ _ _ h => h) (by rfl) ?_ (by assumption) ?_); rotate_left; (focus (intro w hSw; (try dsimp only at hSw); go_simp; (try with_reducible rfl); done)); (try simp only [Act.put, List.setIfInBounds_toArray, List.set_cons_zero, List.set_cons_succ])) | ((refine skipH (i := 25) (by decide +kernel) (by decide +kernel) (by kernel_rfl) (by rfl) (by exact fun _ _ _ h => h) (by rfl) (by assumption) ?_); (try simp only [Act.put, List.setIfInBounds_toArray, List.set_cons_zero, List.set_cons_succ])))
  (first | ((refine takeH (i := 26) (v := ?_) (by decide +kernel) (by decide +kernel) (by kernel_rfl) (by rfl) (by exact fun _ _ _ h => h) (by rfl) ?_ (by assumption) ?_); rotate_left; (focus (intro w hSw; (try dsimp only at hSw); go_simp; (try with_reducible rfl); done)); (try simp only [Act.put, List.setIfInBounds_toArray, List.set_cons_zero, List.set_cons_succ])) | ((refine skipH (i := 26) (by decide +kernel) (by decide +kernel) (by kernel_rfl) (by rfl) (by exact fun _ _ _ h => h) (by rfl) (by assumption) ?_); (try simp only [Act.put, List.setIfInBounds_toArray, List.set_cons_zero, List.set_cons_succ])))
  (first | ((refine takeH (i := 27) (v := ?_) (by decide +kernel) (by decide +kernel) (by kernel_rfl) (by rfl) (by exact fun _ _ _ h => h) (by rfl) ?_ (by assumption) ?_); rotate_left; (focus (intro w hSw; (try dsimp only at hSw); go_simp; (try with_reducible rfl); done)); (try simp only [Act.put, List.setIfInBounds_toArray, List.set_cons_zero, List.set_cons_succ])) | ((refine skipH (i := 27) (by decide +kernel) (by decide +kernel) (by kernel_rfl) (by rfl) (by exact fun _ _ _ h => h) (by rfl) (by assumption) ?_); (try simp only [Act.put, List.setIfInBounds_toArray, List.set_cons_zero, List.set_cons_succ])))
  (first | ((refine takeH (i := 28) (v := ?_) (by decide +kernel) (by decide +kernel) (by kernel_rfl) (by rfl) (by exact fun _ _ _ h => h) (by rfl) ?_ (by assumption) ?_); rotate_left; (focus (intro w hSw; (try dsimp only at hSw); go_simp; (try with_reducible rfl); done)); (try simp only [Act.put, List.setIfInBounds_toArray, List.set_cons_zero, List.set_cons_succ])) | ((refine skipH (i := 28) (by decide +kernel) (by decide +kernel) (by kernel_rfl) (by rfl) (by exact fun _ _ _ h => h) (by rfl) (by assumption) ?_); (try simp only [Act.put, List.setIfInBounds_toArray, List.set_cons_zero, List.set_cons_succ])))
  (first | ((refine takeH (i := 29) (v := ?_) (by decide +kernel) (by decide +kernel) (by kernel_rfl) (by rfl) (by exact fun _ _ _ h => h) (by rfl) ?_ (by assumption) ?_); rotate_left; (focus (intro w hSw; (try dsimp only at hSw); go_simp; (try with_reducible rfl); done)); (try simp only [Act.put, List.setIfInBounds_toArray, List.set_cons_zero, List.set_cons_succ])) | ((refine skipH (i := 29) (by decide +kernel) (by decide +kernel) (by kernel_rfl) (by rfl) (by exact fun _ _ _ h => h) (by rfl) (by assumption) ?_); (try simp only [Act.put, List.setIfInBounds_toArray, List.set_cons_zero, List.set_cons_succ])))
  (first | ((refine takeH (i := 30) (v := ?_) (by decide +kernel) (by decide +kernel) (by kernel_rfl) (by rfl) (by exact fun _ _ _ h => h) (by rfl) ?_ (by assumption) ?_); rotate_left; (focus (intro w hSw; (try dsimp only at hSw); go_simp; (try with_reducible rfl); done)); (try simp only [Act.put, List.setIfInBounds_toArray, List.set_cons_zero, List.set_cons_succ])) | ((refine skipH (i := 30) (by decide +kernel) (by decide +kernel) (by kernel_rfl) (by rfl) (by exact fun _ _ _ h => h) (by rfl) (by assumption) ?_); (try simp only [Act.put, List.setIfInBounds_toArray, List.set_cons_zero, List.set_cons_succ])))
  (first | ((refine takeH (i := 31) (v := ?_) (by decide +kernel) (by decide +kernel) (by kernel_rfl) (by rfl) (by exact fun _ _ _ h => h) (by rfl) ?_ (by assumption) ?_); rotate_left; (focus (intro w hSw; (try dsimp only at hSw); go_simp; (try with_reducible rfl); done)); (try simp only [Act.put, List.setIfInBounds_toArray, List.set_cons_zero, List.set_cons_succ])) | ((refine skipH (i := 31) (by decide +kernel) (by decide +kernel) (by kernel_rfl) (by rfl) (by exact fun _ _ _ h => h) (by rfl) (by assumption) ?_); (try simp only [Act.put, List.setIfInBounds_toArray, List.set_cons_zero, List.set_cons_succ])))
  (first | ((refine takeH (i := 32) (v := ?_) (by decide +kernel) (by decide +kernel) (by kernel_rfl) (by rfl) (by exact fun _ _ _ h => h) (by rfl) ?_ (by assumption) ?_); rotate_left; (focus (intro w hSw; (try dsimp only at hSw); go_simp; (try with_reducible rfl); done)); (try simp only [Act.put, List.setIfInBounds_toArray, List.set_cons_zero, List.set_cons_succ])) | ((refine skipH (i := 32) (by decide +kernel) (by decide +kernel) (by kernel_rfl) (by rfl) (by exact fun _ _ _ h => h) (by rfl) (by assumption) ?_); (try simp only [Act.put, List.setIfInBounds_toArray, List.set_cons_zero, List.set_cons_succ])))
  refine nextH (i := 33) (by decide +kernel) (by rfl) (by rfl) (fun K hK => ?_)
  go_simp
  (skip)
  refine hK.out _ _ ?_ (fun hHeld' => ?_)
  (focus ((try dsimp only); (first | done | ((first | exact HS.out _ (fun o => (bcell (below_alloc1 w _)).1 g o hgl) | exact HS.out _ (fun o => (bcell (below_alloc1 w _).drew).1 g o hgl)); done))))
  clear hK K hHeld
  have hHeld := hHeld'
  clear hHeld'
  (try simp only [Act.put, List.setIfInBounds_toArray, List.set_cons_zero, List.set_cons_succ])
  refine wpAnyH_done (by decide +kernel) ?_ _
  clear hHeld
  go_wp2
  refine bodyPost_ret (v := R.val ⟨x0, x1, x2 == 1, x3 == 1, x4 == 1, x5 == 1, x6 == 1, x7, x8⟩) (by simp [results, Try.results103, go_sem, z0, z1, z2, z3, z4, z5, z6, z7, z8, zf, R.val, R.cells]) rfl ⟨rfl, ?_⟩
  (repeat (first | (with_reducible exact HB0.out) | (with_reducible exact HB0.out.drew) | exact (below_alloc1 _ _).drew | (with_reducible exact below_alloc1 _ _) | ((with_reducible refine Below.setCell ?_ ?_ _); rotate_left; (simp <;> omega)) | (with_reducible refine Below.drew ?_)))

end Go.Proofs.Ytbjdfgfebepacaa
