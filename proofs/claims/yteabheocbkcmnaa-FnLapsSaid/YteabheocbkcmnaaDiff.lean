/- Diff: the fields in which rules differ: both sides return the same. Each contract holds for every argument, under the premises that it states. -/
import Derived.Test.YteabheocbkcmnaaStrs
import Derived.Test.YteabheocbkcmnaaApp
namespace Go.Proofs.Yteabheocbkcmnaa
set_option linter.unusedSimpArgs false
set_option linter.unusedVariables false
set_option linter.unnecessarySimpa false
open Go.RowKit Go.ChangeShapes Go.WideShapes Go.ChangeAt Go.Joins

/-- the names of the first k fields that differ -/
def diffK (a b : R) (k : Nat) : List ByteArray := ((List.range k).filter fun j => a.list.getD j 0 != b.list.getD j 0).map fun j => fieldNames.getD j ⟨#[]⟩
theorem diffK_succ (a b : R) (k : Nat) : diffK a b (k + 1) = diffK a b k ++ (if (a.list.getD k 0 != b.list.getD k 0) = true then [fieldNames.getD k ⟨#[]⟩] else []) := by
  simp only [diffK, List.range_succ, List.filter_append, List.map_append, List.filter_cons, List.filter_nil]
  split <;> rfl
theorem diffK_len (a b : R) (k : Nat) : (diffK a b k).length ≤ k := by
  simp only [diffK, List.length_map]
  exact Nat.le_trans (List.length_filter_le _ _) (by simp)
theorem idx_names : ∀ k, k < 9 → idxOf fieldNames (fieldNames.getD k ⟨#[]⟩) = k := by decide +kernel
theorem fieldV_at (r : R) {k : Nat} (h : k < 9) : fieldV r (fieldNames.getD k ⟨#[]⟩) = r.list.getD k 0 := by
  have := idx_names k h
  unfold fieldV
  rw [this, if_neg (by omega)]
  rfl
theorem infoS : (Try.prog.info? 9).map (fun i => (i.zero, i.size, i.bytes)) = some (some (.string ⟨#[]⟩), 1, 16) := by kernel_rfl
/-- a result that is a list of texts of the call's own -/
def StrRes (w : World) (ss : List ByteArray) (e : Ending) (w' : World) : Prop :=
  ∃ ad c, e = .returned (.slice ad ss.length c) ∧ w'.ownsRow w.heap.size 9 1 (.slice ad ss.length c) ss.length (ss.map Value.string) ∧ Below w.heap.size w w'

set_option maxRecDepth 100000 in
set_option maxHeartbeats 4000000 in
theorem different_c (x y : R) (w : World) : Calls Try.prog 102 #[x.val, y.val] w (StrRes w (diffK x y 9)) := by
  obtain ⟨i0, hi, hz0, hz1, hz2⟩ := info_parts infoS
  go_enter Try.func102, Try.ntmps102
  go_wp2_with fail
  have F0 := (((Fr.start w).alloc x.cells 24).alloc y.cells 24).alloc #[] 9
  have O0 : (((w.alloc (.cells x.cells 24)).alloc (.cells y.cells 24)).alloc (.cells #[] 9)).ownsRow (w.heap.size + 2) 9 1 (.slice (some ⟨w.heap.size + 2, 0, none⟩) 0 0) 0 [] := by
    have := World.ownsRow_lit (base := w.heap.size + 2) (e := 9) (size := 1) ((w.alloc (.cells x.cells 24)).alloc (.cells y.cells 24)) #[] 0 (by simp) (Nat.zero_le _) rfl
    simpa using this
  refine (iFieldNames_c _).mono ?_
  rintro e w1 ⟨rfl, hw1⟩
  obtain ⟨hb1, bx1, hz1⟩ := made hw1
  have O1 := own_below O0 hb1 (Nat.le_refl _)
  have F1 := (F0.step hb1).box bx1 (by omega)
  clear hw1 F0 O0 hb1 bx1
  simp only [World.size_alloc] at F1 hz1
  have s1 : w.heap.size + 1 + 1 + 1 < w1.heap.size := by omega
  have F2 := F1.add _ _ _ (OwnP.stab (w.heap.size + 2) w1.heap.size 9 1 _ _ _) ⟨O1, fun k hk => (O1.lt k hk).2⟩ (Nat.le_refl _)
  clear F1 O1 hz1
  go_wp2
  go_loopw [5, 15] (fun o i wr => ∃ (k : Nat) (ad : Option Addr) (c : Nat), k ≤ 9 ∧ i = .int .i64 k ∧ o = .slice ad (diffK x y k).length c ∧ wr.ownsRow (w.heap.size + 2) 9 1 (.slice ad (diffK x y k).length c) (diffK x y k).length ((diffK x y k).map Value.string) ∧
      Below w.heap.size w wr ∧ BoxP (w.heap.size + 1 + 1 + 1) (fieldNames.map Value.string) wr ∧ BoxP w.heap.size x.cells.toList wr ∧ BoxP (w.heap.size + 1) y.cells.toList wr ∧ (Value.slice ad (diffK x y k).length c).ownBlock ≠ some (w.heap.size + 1 + 1 + 1) ∧ w.heap.size + 1 + 1 + 1 < wr.heap.size) (fun _ i _ => 9 - (intOf i).toNat)
  case atStart =>
    exact ⟨0, _, _, Nat.zero_le _, rfl, rfl, (F2.at 0 rfl).1, F2.below, F2.at 1 rfl, F2.at 4 rfl, F2.at 3 rfl, by simp [Value.ownBlock], s1⟩
  case round =>
    clear F2 s1
    obtain ⟨k, ad, c, hk, rfl, rfl, hown, hbw, bn, bx, by', hne, hsz⟩ := hrel
    by_cases hlt : k < 9
    · obtain ⟨nm, hnm⟩ : ∃ nm, nm = fieldNames.getD k ⟨#[]⟩ := ⟨_, rfl⟩
      have hcn : wr.cell? ⟨w.heap.size + 1 + 1 + 1, k, none⟩ = some (.string nm) := by
        refine bn k _ ?_
        have h9 : k < fieldNames.length := by simp [fieldNames]; exact hlt
        rw [hnm]
        simp [h9]
      have HNM := Lib.hid hnm.symm
      have HX := Lib.hid (fieldV_at x hlt)
      have HY := Lib.hid (fieldV_at y hlt)
      have HD := Lib.hid (diffK_succ x y k)
      rw [← hnm] at HX HY HD
      have HN := Lib.hid hne
      have hl := diffK_len x y k
      clear hnm hne
      have F0 := (((((Fr.start wr).ownV hown).box bx (by omega)).box by' (by omega)).box bn (by omega))
      obtain ⟨c0, c1, c2, c3, c4, c5, c6, c7, c8⟩ := R.boxc bx
      have z0 : w.heap.size < wr.heap.size := by omega
      clear hown bx by' bn
      go_wp2_with fail
      refine (iField_c x nm _).mono ?_
      rintro e w2 ⟨rfl, hb2⟩
      have F1 := F0.step hb2
      clear c0 c1 c2 c3 c4 c5 c6 c7 c8 z0 F0 hb2
      obtain ⟨c0, c1, c2, c3, c4, c5, c6, c7, c8⟩ := R.boxc (F1.at 1 rfl)
      have z0 : w.heap.size + 1 < w2.heap.size := F1.le 1 rfl
      go_wp2_with fail
      refine (iField_c y nm _).mono ?_
      rintro e w3 ⟨rfl, hb3⟩
      have F2 := F1.step hb3
      have z2 : w.heap.size + 1 + 1 + 1 < w3.heap.size := F2.le 0 rfl
      clear c0 c1 c2 c3 c4 c5 c6 c7 c8 z0 F1 hb3
      cases hd : (fieldV x nm != fieldV y nm)
      · have e : Hid (diffK x y (k + 1) = diffK x y k) := by
          unfold Hid
          rw [HD.out, ← HX.out, ← HY.out, hd]
          simp
        go_wp2
        go_roundw
        case rel => exact ⟨k + 1, ad, c, by omega, by go_num, by rw [e.out], by rw [e.out]; exact (F2.at 3 rfl).1, below_next hbw F2.below, F2.at 0 rfl, F2.at 2 rfl, F2.at 1 rfl, by rw [e.out]; exact HN.out, z2⟩
        case measure => simp [intOf]; omega
      · have e : Hid (diffK x y (k + 1) = diffK x y k ++ [nm]) := by
          unfold Hid
          rw [HD.out, ← HX.out, ← HY.out, hd]
          simp
        have hown := (F2.at 3 rfl).1
        go_wp2_with (at_builtin; refine wpList_append_own2 _ rfl _ _ 61 rfl (w.heap.size + 2) 9 i0 (.string ⟨#[]⟩) 1 16 Try.underlying61 hi hz0 hz1 hz2 rfl (by decide) _ _ _ rfl (hown.alloc _) ⟨w3.heap.size, 0, none⟩ 1 1 [.string nm] rfl rfl ?c1 ?c2 ?c3 ?c4 ?c5 ?_)
        case c1 => intro j u hu; match j, hu with | 0, hu => (simp at hu; subst hu; simp [Addr.add])
        case c2 => intro u hu; simp at hu; subst hu; rfl
        case c3 => unfold maxLen; omega
        case c4 => omega
        case c5 => (simp; try omega)
        intro ad' c' w4 hown4 hg4 hn4
        have F3 := F2.alloc #[.string nm] 9
        have B3 := Lib.hid (below_next hbw F3.below)
        have HO4 := Lib.hid hown4
        have hgx : ∀ b, b < w.heap.size + 2 → (Value.slice ad (diffK x y k).length c).ownBlock ≠ some b := fun b hb e => by have := hown.lt b e; omega
        have BX := (F3.at 3 rfl : BoxP w.heap.size x.cells.toList _).grown hg4 (hgx _ (by omega)) (by simp; omega)
        have BY := (F3.at 2 rfl : BoxP (w.heap.size + 1) y.cells.toList _).grown hg4 (hgx _ (by omega)) (by simp; omega)
        have BN := (F3.at 1 rfl : BoxP (w.heap.size + 1 + 1 + 1) (fieldNames.map Value.string) _).grown hg4 HN.out (by simp; omega)
        have B4 := Lib.hid (below_grown B3.out hg4 (fun q hq => by have := hown.lt q hq; omega))
        have hne4 : (Value.slice ad' ((diffK x y k).length + 1) c').ownBlock ≠ some (w.heap.size + 1 + 1 + 1) := fun e => by
          rcases hn4 _ e with h5 | h5
          · exact HN.out h5
          · simp at h5; omega
        have HN4 := Lib.hid hne4
        have z4 : w.heap.size + 1 + 1 + 1 < w4.heap.size := by have := hg4.size; simp at this; omega
        clear hown4 hg4 hn4 hown F2 F3 hne4 hgx
        go_wp2
        go_roundw
        case rel => exact ⟨k + 1, ad', c', by omega, by go_num, by rw [e.out]; simp, by rw [e.out]; simpa using HO4.out, B4.out, BN, BX, BY, by rw [e.out]; simpa using HN4.out, z4⟩
        case measure => simp [intOf]; omega
    · obtain rfl : k = 9 := by omega
      go_wp2
      go_ret
      exact ⟨_, _, rfl, ownsRow_le hown (by omega), hbw⟩

set_option maxRecDepth 100000 in
set_option maxHeartbeats 4000000 in
theorem l03Different_c (xb xo yb yo : Nat) (x y : R) (w : World) (hx : R.At w xb xo x) (hy : R.At w yb yo y) : Calls Try.prog 100 #[.pointer (some ⟨xb, xo, none⟩), .pointer (some ⟨yb, yo, none⟩)] w (StrRes w (diffK x y 9)) := by
  obtain ⟨i0, hi, hz0, hz1, hz2⟩ := info_parts infoS
  have HY := Lib.hid hy
  have hyl : yb < w.heap.size := World.block_lt_of_cell? w _ hy.c0
  go_enter Try.func100, Try.ntmps100
  go_wp2_with fail
  refine (l03Values_c xb xo x _ hx).mono ?_
  rintro e w1 ⟨a1, c1, rfl, ho1, hb1⟩
  go_wp2_with fail
  refine (l03Values_c yb yo y _ (HY.out.below hb1 hyl)).mono ?_
  rintro e w2 ⟨a2, c2, rfl, ho2, hb2⟩
  go_wp2_with fail
  refine (sFieldNames_c _).mono ?_
  rintro e w3 ⟨rfl, hw3⟩
  obtain ⟨hb3, bx3, hz3⟩ := made hw3
  have F3 := ((((Fr.start w).step hb1).own ho1 |>.step hb2).own ho2 |>.step hb3).box bx3 (by omega)
  have s1 := hb1.size
  have s2 := hb2.size
  clear hw3 ho1 ho2 hb1 hb2 hb3 bx3
  go_wp2
  have F4 := F3.alloc #[] 9
  have O4 := World.ownsRow_lit (base := w3.heap.size) (e := 9) (size := 1) w3 #[] 0 (Nat.le_refl _) (Nat.zero_le _) rfl
  rw [hz3] at O4
  go_loopw [8, 9] (fun o i wr => ∃ (k : Nat) (ad : Option Addr) (c : Nat), k ≤ 9 ∧ i = .int .i64 k ∧ o = .slice ad (diffK x y k).length c ∧ wr.ownsRow (w2.heap.size + 1) 9 1 (.slice ad (diffK x y k).length c) (diffK x y k).length ((diffK x y k).map Value.string) ∧
      Fr w wr [⟨w2.heap.size, w2.heap.size + 1, BoxP w2.heap.size (fieldNames.map Value.string)⟩, ⟨w1.heap.size, w2.heap.size, RowP w1.heap.size w2.heap.size a2 c2 y.list⟩, ⟨w.heap.size, w1.heap.size, RowP w.heap.size w1.heap.size a1 c1 x.list⟩]) (fun _ i _ => 9 - (intOf i).toNat)
  case atStart =>
    refine ⟨0, _, _, Nat.zero_le _, rfl, rfl, O4, ?_⟩
    exact F3.step (below_alloc1 _ _)
  case round =>
    clear F3 F4 O4
    obtain ⟨k, ad, c, hk, rfl, rfl, hown, F⟩ := hrel
    by_cases hlt : k < 9
    · have HD := Lib.hid (diffK_succ x y k)
      have hl := diffK_len x y k
      have hx9 : k < x.list.length := by simp [R.list]; exact hlt
      have hy9 : k < y.list.length := by simp [R.list]; exact hlt
      have hf9 : k < fieldNames.length := by simp [fieldNames]; exact hlt
      obtain ⟨vx, hvx⟩ : ∃ v, v = x.list[k] := ⟨_, rfl⟩
      obtain ⟨vy, hvy⟩ : ∃ v, v = y.list[k] := ⟨_, rfl⟩
      obtain ⟨nm, hnm⟩ : ∃ v, v = fieldNames[k] := ⟨_, rfl⟩
      obtain ⟨b1, o1, rfl, hb1, hc1⟩ := Ints.at (own_row (F.at 2 rfl).1) hx9
      obtain ⟨b2, o2, rfl, hb2, hc2⟩ := Ints.at (own_row (F.at 1 rfl).1) hy9
      have hcn : wr.cell? ⟨w2.heap.size, k, none⟩ = some (.string nm) := (F.at 0 rfl) k _ (by rw [hnm]; simp [hf9])
      replace hc1 : wr.cell? ⟨b1, o1 + k, none⟩ = some (.int .i64 vx) := by rw [hvx]; exact hc1
      replace hc2 : wr.cell? ⟨b2, o2 + k, none⟩ = some (.int .i64 vy) := by rw [hvy]; exact hc2
      have hgx : (x.list.getD k 0 != y.list.getD k 0) = (vx != vy) := by rw [hvx, hvy]; simp [hx9, hy9]; rfl
      have hgn : fieldNames.getD k ⟨#[]⟩ = nm := by rw [hnm]; simp [hf9]
      rw [hgx, hgn] at HD
      have lx : (x.list.length : Int) = 9 := rfl
      have ly : (y.list.length : Int) = 9 := rfl
      clear hgx hgn hvx hvy hnm hx9 hy9 hf9
      cases hd : (vx != vy)
      · have e : Hid (diffK x y (k + 1) = diffK x y k) := by
          unfold Hid
          rw [HD.out, hd]
          simp
        go_wp2
        go_quiet (fail)
        go_wp2
        go_roundw
        case rel => exact ⟨k + 1, ad, c, by omega, by go_num, by rw [e.out], by rw [e.out]; exact hown, F.drawn _⟩
        case measure => simp [intOf]; omega
      · have e : Hid (diffK x y (k + 1) = diffK x y k ++ [nm]) := by
          unfold Hid
          rw [HD.out, hd]
          simp
        go_wp2
        go_quiet (fail)
        go_wp2_with (at_builtin; refine wpList_append_own2 _ rfl _ _ 61 rfl (w2.heap.size + 1) 9 i0 (.string ⟨#[]⟩) 1 16 Try.underlying61 hi hz0 hz1 hz2 rfl (by decide) _ _ _ rfl (World.ownsRow.alloc (w := wr.drewN _) hown _) ⟨wr.heap.size, 0, none⟩ 1 1 [.string nm] rfl rfl ?c1 ?c2 ?c3 ?c4 ?c5 ?_)
        case c1 => intro j u hu; match j, hu with | 0, hu => (simp at hu; subst hu; exact (made (w := World.drewN wr _) rfl).2.1 0 _ rfl)
        case c2 => intro u hu; simp at hu; subst hu; rfl
        case c3 => unfold maxLen; omega
        case c4 => omega
        case c5 => (have := F.le 0 rfl; simp at this; simp; omega)
        intro ad' c' w4 hown4 hg4 hn4
        have F5 : Fr w w4 [⟨w2.heap.size, w2.heap.size + 1, BoxP w2.heap.size (fieldNames.map Value.string)⟩, ⟨w1.heap.size, w2.heap.size, RowP w1.heap.size w2.heap.size (some ⟨b2, o2, none⟩) c2 y.list⟩, ⟨w.heap.size, w1.heap.size, RowP w.heap.size w1.heap.size (some ⟨b1, o1, none⟩) c1 x.list⟩] :=
          Fr.chgAt ((F.drawn _).alloc #[.string nm] 9) 0 (lo := w2.heap.size + 1) (hi := wr.heap.size + 1) (Chg.ofGrown hg4 (fun q hq => ⟨(hown.lt q hq).1, by have := (hown.lt q hq).2; omega⟩)) (by omega) (by simp [List.eraseIdx]; omega)
        have HO4 := Lib.hid hown4
        clear hown4 hg4 hn4 hown F
        go_wp2
        go_roundw
        case rel => exact ⟨k + 1, ad', c', by omega, by go_num, by rw [e.out]; simp, by rw [e.out]; simpa using HO4.out, F5⟩
        case measure => simp [intOf]; omega
    · obtain rfl : k = 9 := by omega
      go_wp2
      go_ret
      exact ⟨_, _, rfl, ownsRow_le hown (by omega), F.below⟩


def DiffP (x y : R) : List ByteArray × Int := if x.ok && y.ok then (diffK x y 9, 0) else ([], 1)
/-- two results, a list of texts of the call's own and a number -/
def StrRes2 (w : World) (y : List ByteArray × Int) (e : Ending) (w' : World) : Prop :=
  ∃ ad c, e = .returned (.tuple #[.slice ad y.1.length c, .int .i64 y.2]) ∧ w'.ownsRow w.heap.size 9 1 (.slice ad y.1.length c) y.1.length (y.1.map Value.string) ∧ Below w.heap.size w w'
set_option maxHeartbeats 2000000 in
theorem iDifferentFields_c (x y : R) (w : World) : Calls Try.prog 39 #[x.val, y.val] w (StrRes2 w (DiffP x y)) := by
  go_enter Try.func39, Try.ntmps39
  go_wp2_with fail
  refine (ValidRules_c x _).mono ?_
  rintro e w1 ⟨rfl, hb1⟩
  have F1 := (((Fr.start w).alloc x.cells 24).alloc y.cells 24).step hb1
  clear hb1
  cases hx : x.ok
  · have HP := Lib.hid (show DiffP x y = ([], 1) by simp [DiffP, hx])
    clear hx
    go_wp2
    go_ret2
    refine ⟨none, 0, ?_, ?_, F1.below⟩ <;> rw [HP.out]
    · rfl
    · exact World.ownsRow_nil _ _ _ _
  have HX := Lib.hid hx
  obtain ⟨c0, c1, c2, c3, c4, c5, c6, c7, c8⟩ := R.boxc (F1.at 0 rfl)
  simp only [World.size_alloc] at c0 c1 c2 c3 c4 c5 c6 c7 c8
  clear hx
  go_wp2_with fail
  refine (ValidRules_c y _).mono ?_
  rintro e w2 ⟨rfl, hb2⟩
  have F2 := F1.step hb2
  clear hb2 c0 c1 c2 c3 c4 c5 c6 c7 c8 F1
  cases hy : y.ok
  · have HP := Lib.hid (show DiffP x y = ([], 1) by simp [DiffP, hy])
    clear hy
    go_wp2
    go_ret2
    refine ⟨none, 0, ?_, ?_, F2.below⟩ <;> rw [HP.out]
    · rfl
    · exact World.ownsRow_nil _ _ _ _
  have HP := Lib.hid (show DiffP x y = (diffK x y 9, 0) by simp [DiffP, HX.out, hy])
  clear hy
  obtain ⟨c0, c1, c2, c3, c4, c5, c6, c7, c8⟩ := R.boxc (F2.at 0 rfl)
  obtain ⟨d0, d1, d2, d3, d4, d5, d6, d7, d8⟩ := R.boxc (F2.at 1 rfl)
  simp only [World.size_alloc] at c0 c1 c2 c3 c4 c5 c6 c7 c8
  go_wp2_with fail
  refine (different_c x y _).mono ?_
  rintro e w3 ⟨ad, c, rfl, ho, hb3⟩
  go_wp2
  go_ret2
  refine ⟨ad, c, ?_, ?_, (F2.step hb3).below⟩ <;> rw [HP.out]
  · rfl
  · exact ownsRow_le ho F2.below.size

set_option maxHeartbeats 2000000 in
theorem sDifferentFields_c (x y : R) (w : World) : Calls Try.prog 40 #[x.val, y.val] w (StrRes2 w (DiffP x y)) := by
  have F0 := ((Fr.start w).alloc x.cells 24).alloc y.cells 24
  have HX0 := Lib.hid (R.boxc (F0.at 1 rfl))
  have HY0 := Lib.hid (R.boxc (F0.at 0 rfl))
  simp only [World.size_alloc] at HY0
  go_enter Try.func40, Try.ntmps40
  go_wp2_with fail
  refine (l02Ok_c w.heap.size 0 x _ HX0.out).mono ?_
  rintro e w' ⟨rfl, rfl⟩
  cases hx : x.ok
  · have HP := Lib.hid (show DiffP x y = ([], 1) by simp [DiffP, hx])
    clear hx
    go_wp2
    go_ret2
    refine ⟨none, 0, ?_, ?_, F0.below⟩ <;> rw [HP.out]
    · rfl
    · exact World.ownsRow_nil _ _ _ _
  have HX := Lib.hid hx
  clear hx
  go_wp2_with fail
  refine (l02Ok_c (w.heap.size + 1) 0 y _ HY0.out).mono ?_
  rintro e w' ⟨rfl, rfl⟩
  cases hy : y.ok
  · have HP := Lib.hid (show DiffP x y = ([], 1) by simp [DiffP, hy])
    clear hy
    go_wp2
    go_ret2
    refine ⟨none, 0, ?_, ?_, F0.below⟩ <;> rw [HP.out]
    · rfl
    · exact World.ownsRow_nil _ _ _ _
  have HP := Lib.hid (show DiffP x y = (diffK x y 9, 0) by simp [DiffP, HX.out, hy])
  clear hy
  go_wp2_with fail
  refine (l03Different_c w.heap.size 0 (w.heap.size + 1) 0 x y _ HX0.out HY0.out).mono ?_
  rintro e w3 ⟨ad, c, rfl, ho, hb3⟩
  go_wp2
  go_ret2
  refine ⟨ad, c, ?_, ?_, (F0.step hb3).below⟩ <;> rw [HP.out]
  · rfl
  · exact ownsRow_le ho F0.below.size

end Go.Proofs.Yteabheocbkcmnaa
