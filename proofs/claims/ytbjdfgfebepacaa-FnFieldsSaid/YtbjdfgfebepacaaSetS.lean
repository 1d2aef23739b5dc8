/- SetS: rules with another field: the reference's function. The contract holds for every argument, under the premises that it states. -/
import Derived.Test.YtbjdfgfebepacaaSetF
namespace Go.Proofs.Ytbjdfgfebepacaa
set_option linter.unusedSimpArgs false
set_option linter.unusedVariables false
set_option linter.unnecessarySimpa false
open Go.RowKit Go.ChangeShapes Go.WideShapes Go.ChangeAt Go.Joins

set_option maxRecDepth 100000 in
set_option maxHeartbeats 16000000 in
theorem sSetField_c (r : R) (s : ByteArray) (v : Int) (w : World) : Calls Try.prog 15 #[r.val, .string s, .int .i64 v] w fun e w' => e = .returned (.tuple #[(setP r s v).1.val, .int .i64 (setP r s v).2]) ∧ Below w.heap.size w w' := by
  have R0 : RB ((w.alloc (.cells r.cells 25)).alloc (.cells R.nil.cells 25)) w.heap.size r := (rb_new w r _).below (below_alloc1 _ _)
  have Z0 : RB ((w.alloc (.cells r.cells 25)).alloc (.cells R.nil.cells 25)) (w.heap.size + 1) R.nil := by
    have := rb_new (w.alloc (.cells r.cells 25)) R.nil 25
    simpa using this
  have B0 : Below w.heap.size w ((w.alloc (.cells r.cells 25)).alloc (.cells R.nil.cells 25)) := below_alloc2 _ _ _
  obtain ⟨y, hy⟩ : ∃ y, y = setP r s v := ⟨_, rfl⟩
  rw [← hy]
  have HV := l02Ok_c _ _ r _ R0.at_
  have H0 := Lib.hid (⟨R0, Z0, B0⟩ : _ ∧ _ ∧ _)
  clear R0 Z0 B0
  cases hok : r.ok
  · rw [hok] at HV
    have HV := Lib.hid HV
    have HE : Hid (y = (R.nil, 1)) := by unfold Hid; rw [hy, setP, if_pos hok]
    clear hok hy
    go_enter Try.func15, Try.ntmps15
    go_wp2_with fail
    refine HV.out.mono ?_
    rintro e w1 ⟨rfl, rfl⟩
    have HB := Lib.hid H0.out.2.2
    obtain ⟨⟨z0, z1, z2, z3, z4, z5, z6, z7, z8⟩, zf⟩ := H0.out.2.1
    have hn1 : True := trivial
    go_wp2
    refine bodyPost_ret (v := .tuple #[R.val R.nil, .int .i64 1]) (by simp [results, Try.results15, go_sem, z0, z1, z2, z3, z4, z5, z6, z7, z8, zf, hn1, R.val, R.cells, R.nil]) rfl ⟨by rw [HE.out], ?_⟩
    (repeat (first | (with_reducible exact HB.out) | (with_reducible exact below_alloc2 _ _ _) | (with_reducible exact below_alloc3 _ _ _ _) | ((with_reducible refine Below.setCell ?_ ?_ _); rotate_left; (simp <;> omega))))
  rw [hok] at HV
  have HV := Lib.hid HV
  have B1 := below_alloc1 ((w.alloc (.cells r.cells 25)).alloc (.cells R.nil.cells 25)) (.cells (fieldNames.map Value.string).toArray 9)
  have H1 := Lib.hid (⟨H0.out.1.below B1, H0.out.2.1.below B1, below_next H0.out.2.2 B1⟩ : _ ∧ _ ∧ _)
  have HI := l03Index_c (some ⟨w.heap.size + 1 + 1, 0, none⟩) 9 fieldNames s (((w.alloc (.cells r.cells 25)).alloc (.cells R.nil.cells 25)).alloc (.cells (fieldNames.map Value.string).toArray 9)) (row_lit _ _ _ (by simp)) (by decide)
  cases hfo : fieldOk s
  · have hneg : idxOf fieldNames s < 0 := by simpa [fieldOk] using hfo
    have HE : Hid (y = (R.nil, 3)) := by unfold Hid; rw [hy, setP, if_neg (by rw [hok]; decide), if_pos hfo]
    obtain ⟨ix, hix⟩ : ∃ ix, ix = idxOf fieldNames s := ⟨_, rfl⟩
    rw [← hix] at HI hneg
    have HI := Lib.hid HI
    clear hok hy hfo hix B1
    go_enter Try.func15, Try.ntmps15
    go_wp2_with fail
    refine HV.out.mono ?_
    rintro e w1 ⟨rfl, rfl⟩
    go_wp2_with fail
    refine (sFieldNames_c _).mono ?_
    rintro e w1 ⟨rfl, rfl⟩
    go_wp2_with fail
    refine HI.out.mono ?_
    rintro e w1 ⟨rfl, rfl⟩
    have HB := Lib.hid H1.out.2.2
    obtain ⟨⟨z0, z1, z2, z3, z4, z5, z6, z7, z8⟩, zf⟩ := H1.out.2.1
    have hn1 : True := trivial
    go_wp2
    refine bodyPost_ret (v := .tuple #[R.val R.nil, .int .i64 3]) (by simp [results, Try.results15, go_sem, z0, z1, z2, z3, z4, z5, z6, z7, z8, zf, hn1, R.val, R.cells, R.nil]) rfl ⟨by rw [HE.out], ?_⟩
    (repeat (first | (with_reducible exact HB.out) | (with_reducible exact below_alloc2 _ _ _) | (with_reducible exact below_alloc3 _ _ _ _) | ((with_reducible refine Below.setCell ?_ ?_ _); rotate_left; (simp <;> omega))))
  have hge : 0 ≤ idxOf fieldNames s := by simpa [fieldOk] using hfo
  obtain ⟨k, hk, hs, hik⟩ := name_of hfo
  have hix : idxOf fieldNames s = (k : Int) := by omega
  rw [hix] at HI
  have HI := Lib.hid HI
  have hSK : setK r k v = if (2 ≤ k ∧ k ≤ 6 ∧ inB v 0 1 = false) ∨ (setR r k v).ok = false then (R.nil, 2) else (setR r k v, 0) := rfl
  have HY : Hid (y = setK r k v) := by unfold Hid; rw [hy, setP, if_neg (by rw [hok]; decide), if_neg (by rw [hfo]; decide), hik]
  have HRL := Lib.hid (rulesL_set r v k hk)
  have HVL := Lib.hid (l03Values_c w.heap.size 0 r _ H1.out.1.at_)
  have hb1 : inB (k : Int) 2 6 = decide (2 ≤ k ∧ k ≤ 6) := by
    unfold inB
    by_cases h1 : 2 ≤ k <;> by_cases h2 : k ≤ 6 <;> simp [h1, h2] <;> omega
  have HI1 := fun W => l00In_c (k : Int) 2 6 W
  have HI2 := fun W => l00In_c v 0 1 W
  simp only [hb1] at HI1
  clear hok hy hfo hik hge hix hb1 hs B1
  obtain ⟨r', hr'⟩ : ∃ r', r' = setR r k v := ⟨_, rfl⟩
  rw [← hr'] at hSK HRL
  have HYK := Lib.hid (HY.out.trans hSK)
  have hki : (k : Int) < 9 := by omega
  have hkn : ¬ (k : Int) < 0 := by omega
  clear hr' hSK HY
  have HRUN : Hid (∀ Q : Ending → World → Prop, True) := fun _ => trivial
  obtain ⟨b1, hb1⟩ : ∃ b1, b1 = decide (2 ≤ k ∧ k ≤ 6) := ⟨_, rfl⟩
  obtain ⟨b2, hb2⟩ : ∃ b2, b2 = inB v 0 1 := ⟨_, rfl⟩
  rw [← hb1] at HI1
  rw [← hb2] at HI2 HYK
  have HI1 := Lib.hid HI1
  have HI2 := Lib.hid HI2
  have HYB : Hid (y = if (b1 = true ∧ b2 = false) ∨ r'.ok = false then (R.nil, 2) else (r', 0)) := by
    unfold Hid
    rw [HYK.out, hb1]
    by_cases h : (2 ≤ k ∧ k ≤ 6 ∧ b2 = false) ∨ r'.ok = false
    · rw [if_pos h, if_pos (by rcases h with h | h; exact .inl ⟨by simp [h.1, h.2.1], h.2.2⟩; exact .inr h)]
    · rw [if_neg h, if_neg (fun e => h (by rcases e with e | e; (have := of_decide_eq_true e.1; exact .inl ⟨this.1, this.2, e.2⟩); exact .inr e))]
  clear hb1 hb2 HYK HRUN
  go_enter Try.func15, Try.ntmps15
  go_wp2_with fail
  refine HV.out.mono ?_
  rintro e w1 ⟨rfl, rfl⟩
  go_wp2_with fail
  refine (sFieldNames_c _).mono ?_
  rintro e w1 ⟨rfl, rfl⟩
  go_wp2_with fail
  refine HI.out.mono ?_
  rintro e w1 ⟨rfl, rfl⟩
  go_wp2_with fail
  refine HVL.out.mono ?_
  rintro e w2 ⟨a, c, rfl, hown, hb2⟩
  obtain ⟨g, rfl, hg0, hg1⟩ := own_lt_n hown (by simp [R.list])
  have HL9 : Hid (r.list.length = 9) := by simp [Hid, R.list]
  have hfz := hown.frozenAt k
  have hcu : ∃ u, w2.cell? ⟨g, k, none⟩ = some u := by
    refine ⟨.int .i64 (r.list.getD k 0), ?_⟩
    rw [hown.cellAt k (by rw [HL9.out]; omega), List.getElem?_map, List.getD_eq_getElem?_getD, List.getElem?_eq_getElem (by rw [HL9.out]; exact hk)]
    rfl
  obtain ⟨u, hcu⟩ := hcu
  have hst := (hown.stored k (.int .i64 v)).1
  rw [← List.map_set] at hst
  simp only [World.size_alloc] at hg0
  have Z2 := Lib.hid ((H1.out.2.1.below hb2).other (b' := g) (o := k) (u := .int .i64 v) (by omega))
  have HB2 : Hid (Below w.heap.size w (w2.setCell ⟨g, k, none⟩ (.int .i64 v))) := (below_next H1.out.2.2 hb2).setCell (by simp; omega) _
  have hxs : ∀ j, j < 9 → (w2.setCell ⟨g, k, none⟩ (.int .i64 v)).cell? ⟨g, j, none⟩ = some (.int .i64 ((r.list.set k v).getD j 0)) := by
    intro j hj
    have hl : (r.list.set k v).length = 9 := by rw [List.length_set]; exact HL9.out
    rw [hst.cellAt j (by rw [HL9.out]; omega), List.getElem?_map, List.getD_eq_getElem?_getD, List.getElem?_eq_getElem (by omega)]
    rfl
  have HXS := Lib.hid hxs
  have hln := HL9.out
  have HRC := Lib.hid (l03Rules_c g c _ _ _ _ _ _ _ _ _ _ ⟨HXS.out 0 (by omega), HXS.out 1 (by omega), HXS.out 2 (by omega), HXS.out 3 (by omega), HXS.out 4 (by omega), HXS.out 5 (by omega), HXS.out 6 (by omega), HXS.out 7 (by omega), HXS.out 8 (by omega)⟩)
  have HRC2 : Hid (Calls Try.prog 103 #[.slice (some ⟨g, 0, none⟩) 9 c] (w2.setCell ⟨g, k, none⟩ (.int .i64 v)) fun e w' => e = .returned r'.val ∧ Below (w2.setCell ⟨g, k, none⟩ (.int .i64 v)).heap.size (w2.setCell ⟨g, k, none⟩ (.int .i64 v)) w') := by
    have h1 := HRC.out
    have h2 : rulesL (r.list.set k v) = r' := HRL.out
    unfold rulesL at h2
    rw [h2] at h1
    exact h1
  clear hown hst hb2 hxs hln HRC HXS
  go_wp2_with fail
  refine HRC2.out.mono ?_
  rintro e w4 ⟨rfl, hb4⟩
  have hs4 := hb4.size
  simp only [World.size_setCell] at hs4
  have Z4 := Z2.out.below hb4
  have HB4 := Lib.hid (below_next HB2.out hb4)
  have RN := rb_new w4 r' 25
  have Z5 := Z4.below (below_alloc1 w4 (.cells r'.cells 25))
  have HBa := below_next HB4.out (below_alloc1 w4 (.cells r'.cells 25))
  have HRZ := Lib.hid (⟨RN, Z5, HBa⟩ : _ ∧ _ ∧ _)
  clear hb4 Z4 RN hfz hcu HRC2 Z5 HBa
  go_wp2_with fail
  refine (HI1.out _).mono ?_
  rintro e w5 ⟨rfl, hw5⟩
  have hw5' : w4.alloc (.cells r'.cells 25) = w5 := hw5
  have hrz := HRZ.out
  rw [hw5'] at hrz
  have Z5 := Lib.hid hrz.2.1
  have HB := Lib.hid hrz.2.2
  have HOK := Lib.hid (l02Ok_c w4.heap.size 0 r' w5 hrz.1.at_)
  have HR5 := Lib.hid hrz.1
  have hn1 : w.heap.size + 1 < w5.heap.size := World.block_lt_of_cell? w5 _ Z5.out.at_.c0
  have hn5 : w4.heap.size < w5.heap.size := World.block_lt_of_cell? w5 _ HR5.out.at_.c0
  clear hw5 hw5' hrz HRZ
  cases b1
  case true =>
    go_wp2_with fail
    refine (HI2.out _).mono ?_
    rintro e w6 ⟨rfl, rfl⟩
    cases b2
    case false =>
      have HE : Hid (y = (R.nil, 2)) := HYB.out.trans (if_pos (by simp))
      obtain ⟨⟨z0, z1, z2, z3, z4, z5, z6, z7, z8⟩, zf⟩ := Z5.out
      go_wp2
      refine bodyPost_ret (v := .tuple #[R.val R.nil, .int .i64 2]) (by simp [results, Try.results15, go_sem, z0, z1, z2, z3, z4, z5, z6, z7, z8, zf, hn1, R.val, R.cells, R.nil]) rfl ⟨by rw [HE.out], ?_⟩
      (repeat (first | (with_reducible exact HB.out) | (with_reducible exact below_alloc2 _ _ _) | (with_reducible exact below_alloc3 _ _ _ _) | ((with_reducible refine Below.setCell ?_ ?_ _); rotate_left; (simp <;> omega))))
    case true =>
      go_wp2_with fail
      refine HOK.out.mono ?_
      rintro e w6 ⟨rfl, rfl⟩
      obtain ⟨⟨z0, z1, z2, z3, z4, z5, z6, z7, z8⟩, zf⟩ := Z5.out
      cases hok2 : r'.ok
      · have HE : Hid (y = (R.nil, 2)) := HYB.out.trans (if_pos (by simp [hok2]))
        go_wp2
        refine bodyPost_ret (v := .tuple #[R.val R.nil, .int .i64 2]) (by simp [results, Try.results15, go_sem, z0, z1, z2, z3, z4, z5, z6, z7, z8, zf, hn1, R.val, R.cells, R.nil]) rfl ⟨by rw [HE.out], ?_⟩
        (repeat (first | (with_reducible exact HB.out) | (with_reducible exact below_alloc2 _ _ _) | (with_reducible exact below_alloc3 _ _ _ _) | ((with_reducible refine Below.setCell ?_ ?_ _); rotate_left; (simp <;> omega))))
      · have HE : Hid (y = (r', 0)) := HYB.out.trans (if_neg (by simp [hok2]))
        obtain ⟨⟨c0, c1, c2, c3, c4, c5, c6, c7, c8⟩, cf⟩ := HR5.out
        go_wp2
        refine bodyPost_ret (v := .tuple #[R.val r', .int .i64 0]) (by simp [results, Try.results15, go_sem, z0, z1, z2, z3, z4, z5, z6, z7, z8, zf, hn1, R.val, R.cells, R.nil]) rfl ⟨by rw [HE.out], ?_⟩
        (repeat (first | (with_reducible exact HB.out) | (with_reducible exact below_alloc2 _ _ _) | (with_reducible exact below_alloc3 _ _ _ _) | ((with_reducible refine Below.setCell ?_ ?_ _); rotate_left; (simp <;> omega))))
  case false =>
    go_wp2_with fail
    refine HOK.out.mono ?_
    rintro e w6 ⟨rfl, rfl⟩
    obtain ⟨⟨z0, z1, z2, z3, z4, z5, z6, z7, z8⟩, zf⟩ := Z5.out
    cases hok2 : r'.ok
    · have HE : Hid (y = (R.nil, 2)) := HYB.out.trans (if_pos (by simp [hok2]))
      go_wp2
      refine bodyPost_ret (v := .tuple #[R.val R.nil, .int .i64 2]) (by simp [results, Try.results15, go_sem, z0, z1, z2, z3, z4, z5, z6, z7, z8, zf, hn1, R.val, R.cells, R.nil]) rfl ⟨by rw [HE.out], ?_⟩
      (repeat (first | (with_reducible exact HB.out) | (with_reducible exact below_alloc2 _ _ _) | (with_reducible exact below_alloc3 _ _ _ _) | ((with_reducible refine Below.setCell ?_ ?_ _); rotate_left; (simp <;> omega))))
    · have HE : Hid (y = (r', 0)) := HYB.out.trans (if_neg (by simp [hok2]))
      obtain ⟨⟨c0, c1, c2, c3, c4, c5, c6, c7, c8⟩, cf⟩ := HR5.out
      go_wp2
      refine bodyPost_ret (v := .tuple #[R.val r', .int .i64 0]) (by simp [results, Try.results15, go_sem, z0, z1, z2, z3, z4, z5, z6, z7, z8, zf, hn1, R.val, R.cells, R.nil]) rfl ⟨by rw [HE.out], ?_⟩
      (repeat (first | (with_reducible exact HB.out) | (with_reducible exact below_alloc2 _ _ _) | (with_reducible exact below_alloc3 _ _ _ _) | ((with_reducible refine Below.setCell ?_ ?_ _); rotate_left; (simp <;> omega))))


end Go.Proofs.Ytbjdfgfebepacaa
