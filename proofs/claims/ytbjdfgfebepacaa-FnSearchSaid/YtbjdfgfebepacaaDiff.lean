/- Diff: the fields in which rules differ: both sides return the same. Each contract holds for every argument, under the premises that it states. -/
import Derived.Test.YtbjdfgfebepacaaStrs
import Derived.Test.YtbjdfgfebepacaaFrame
import Derived.Test.YtbjdfgfebepacaaHeld
namespace Go.Proofs.Ytbjdfgfebepacaa
set_option linter.unusedSimpArgs false
set_option linter.unusedVariables false
set_option linter.unnecessarySimpa false
open Go.RowKit Go.ChangeShapes Go.WideShapes Go.ChangeAt Go.Joins

/-- the names of the first k fields that differ -/
def diffK (a b : R) (k : Nat) : List ByteArray := ((List.range k).filter fun j => a.list.getD j 0 != b.list.getD j 0).map fun j => fieldNames.getD j ⟨#[]⟩
theorem diffK_succ (a b : R) (k : Nat) : diffK a b (k + 1) = diffK a b k ++ (if (a.list.getD k 0 != b.list.getD k 0) = true then [fieldNames.getD k ⟨#[]⟩] else []) := by
  simp only [diffK, List.range_succ, List.filter_append, List.map_append, List.filter_cons, List.filter_nil]
  split <;> rfl
theorem diffK_len (a b : R) (k : Nat) : (diffK a b k).length ≤ k := by
  simp only [diffK, List.length_map]
  exact Nat.le_trans (List.length_filter_le _ _) (by simp)
theorem idx_names : ∀ k, k < 9 → idxOf fieldNames (fieldNames.getD k ⟨#[]⟩) = k := by decide +kernel
theorem fieldV_at (r : R) {k : Nat} (h : k < 9) : fieldV r (fieldNames.getD k ⟨#[]⟩) = r.list.getD k 0 := by
  have := idx_names k h
  unfold fieldV
  rw [this, if_neg (by omega)]
  rfl
theorem infoS : (Try.prog.info? 9).map (fun i => (i.zero, i.size, i.bytes)) = some (some (.string ⟨#[]⟩), 1, 16) := by kernel_rfl
/-- a result that is a list of texts of the call's own -/
def StrRes (w : World) (ss : List ByteArray) (e : Ending) (w' : World) : Prop :=
  ∃ ad c, e = .returned (.slice ad ss.length c) ∧ w'.ownsRow w.heap.size 9 1 (.slice ad ss.length c) ss.length (ss.map Value.string) ∧ Below w.heap.size w w'

set_option maxRecDepth 100000 in
set_option maxHeartbeats 4000000 in
theorem different_c (x y : R) (w : World) : Calls Try.prog 105 #[x.val, y.val] w (StrRes w (diffK x y 9)) := by
  obtain ⟨i0, hi, hz0, hz1, hz2⟩ := info_parts infoS
  go_enter Try.func105, Try.ntmps105
  go_wp2_with fail
  have F0 := (((Fr.start w).alloc x.cells 25).alloc y.cells 25).alloc #[] 9
  have O0 : (((w.alloc (.cells x.cells 25)).alloc (.cells y.cells 25)).alloc (.cells #[] 9)).ownsRow (w.heap.size + 2) 9 1 (.slice (some ⟨w.heap.size + 2, 0, none⟩) 0 0) 0 [] := by
    have := World.ownsRow_lit (base := w.heap.size + 2) (e := 9) (size := 1) ((w.alloc (.cells x.cells 25)).alloc (.cells y.cells 25)) #[] 0 (by simp) (Nat.zero_le _) rfl
    simpa using this
  refine (iFieldNames_c _).mono ?_
  rintro e w1 ⟨rfl, hw1⟩
  obtain ⟨hb1, bx1, hz1⟩ := made hw1
  have O1 := own_below O0 hb1 (Nat.le_refl _)
  have F1 := (F0.step hb1).box bx1 (by omega)
  clear hw1 F0 O0 hb1 bx1
  simp only [World.size_alloc] at F1 hz1
  have s1 : w.heap.size + 1 + 1 + 1 < w1.heap.size := by omega
  have F2 := F1.add _ _ _ (OwnP.stab (w.heap.size + 2) w1.heap.size 9 1 _ _ _) ⟨O1, fun k hk => (O1.lt k hk).2⟩ (Nat.le_refl _)
  clear F1 O1 hz1
  go_wp2
  go_loopw [5, 15] (fun o i wr => ∃ (k : Nat) (ad : Option Addr) (c : Nat), k ≤ 9 ∧ i = .int .i64 k ∧ o = .slice ad (diffK x y k).length c ∧ wr.ownsRow (w.heap.size + 2) 9 1 (.slice ad (diffK x y k).length c) (diffK x y k).length ((diffK x y k).map Value.string) ∧
      Below w.heap.size w wr ∧ BoxP (w.heap.size + 1 + 1 + 1) (fieldNames.map Value.string) wr ∧ BoxP w.heap.size x.cells.toList wr ∧ BoxP (w.heap.size + 1) y.cells.toList wr ∧ (Value.slice ad (diffK x y k).length c).ownBlock ≠ some (w.heap.size + 1 + 1 + 1) ∧ w.heap.size + 1 + 1 + 1 < wr.heap.size) (fun _ i _ => 9 - (intOf i).toNat)
  case atStart =>
    exact ⟨0, _, _, Nat.zero_le _, rfl, rfl, (F2.at 0 rfl).1, F2.below, F2.at 1 rfl, F2.at 4 rfl, F2.at 3 rfl, by simp [Value.ownBlock], s1⟩
  case round =>
    clear F2 s1
    obtain ⟨k, ad, c, hk, rfl, rfl, hown, hbw, bn, bx, by', hne, hsz⟩ := hrel
    by_cases hlt : k < 9
    · obtain ⟨nm, hnm⟩ : ∃ nm, nm = fieldNames.getD k ⟨#[]⟩ := ⟨_, rfl⟩
      have hcn : wr.cell? ⟨w.heap.size + 1 + 1 + 1, k, none⟩ = some (.string nm) := by
        refine bn k _ ?_
        have h9 : k < fieldNames.length := by simp [fieldNames]; exact hlt
        rw [hnm]
        simp [h9]
      have HNM := Lib.hid hnm.symm
      have HX := Lib.hid (fieldV_at x hlt)
      have HY := Lib.hid (fieldV_at y hlt)
      have HD := Lib.hid (diffK_succ x y k)
      rw [← hnm] at HX HY HD
      have HN := Lib.hid hne
      have hl := diffK_len x y k
      clear hnm hne
      have F0 := (((((Fr.start wr).ownV hown).box bx (by omega)).box by' (by omega)).box bn (by omega))
      obtain ⟨c0, c1, c2, c3, c4, c5, c6, c7, c8⟩ := R.boxc bx
      have z0 : w.heap.size < wr.heap.size := by omega
      clear hown bx by' bn
      go_wp2_with fail
      refine (iField_c x nm _).mono ?_
      rintro e w2 ⟨rfl, hb2⟩
      have F1 := F0.step hb2
      clear c0 c1 c2 c3 c4 c5 c6 c7 c8 z0 F0 hb2
      obtain ⟨c0, c1, c2, c3, c4, c5, c6, c7, c8⟩ := R.boxc (F1.at 1 rfl)
      have z0 : w.heap.size + 1 < w2.heap.size := F1.le 1 rfl
      go_wp2_with fail
      refine (iField_c y nm _).mono ?_
      rintro e w3 ⟨rfl, hb3⟩
      have F2 := F1.step hb3
      have z2 : w.heap.size + 1 + 1 + 1 < w3.heap.size := F2.le 0 rfl
      clear c0 c1 c2 c3 c4 c5 c6 c7 c8 z0 F1 hb3
      cases hd : (fieldV x nm != fieldV y nm)
      · have e : Hid (diffK x y (k + 1) = diffK x y k) := by
          unfold Hid
          rw [HD.out, ← HX.out, ← HY.out, hd]
          simp
        go_wp2
        go_roundw
        case rel => exact ⟨k + 1, ad, c, by omega, by go_num, by rw [e.out], by rw [e.out]; exact (F2.at 3 rfl).1, below_next hbw F2.below, F2.at 0 rfl, F2.at 2 rfl, F2.at 1 rfl, by rw [e.out]; exact HN.out, z2⟩
        case measure => simp [intOf]; omega
      · have e : Hid (diffK x y (k + 1) = diffK x y k ++ [nm]) := by
          unfold Hid
          rw [HD.out, ← HX.out, ← HY.out, hd]
          simp
        have hown := (F2.at 3 rfl).1
        go_wp2_with (at_builtin; refine wpList_append_own2 _ rfl _ _ 32 rfl (w.heap.size + 2) 9 i0 (.string ⟨#[]⟩) 1 16 Try.underlying32 hi hz0 hz1 hz2 rfl (by decide) _ _ _ rfl (hown.alloc _) ⟨w3.heap.size, 0, none⟩ 1 1 [.string nm] rfl rfl ?c1 ?c2 ?c3 ?c4 ?c5 ?_)
        case c1 => intro j u hu; match j, hu with | 0, hu => (simp at hu; subst hu; simp [Addr.add])
        case c2 => intro u hu; simp at hu; subst hu; rfl
        case c3 => unfold maxLen; omega
        case c4 => omega
        case c5 => (simp; try omega)
        intro ad' c' w4 hown4 hg4 hn4
        have F3 := F2.alloc #[.string nm] 9
        have B3 := Lib.hid (below_next hbw F3.below)
        have HO4 := Lib.hid hown4
        have hgx : ∀ b, b < w.heap.size + 2 → (Value.slice ad (diffK x y k).length c).ownBlock ≠ some b := fun b hb e => by have := hown.lt b e; omega
        have BX := (F3.at 3 rfl : BoxP w.heap.size x.cells.toList _).grown hg4 (hgx _ (by omega)) (by simp; omega)
        have BY := (F3.at 2 rfl : BoxP (w.heap.size + 1) y.cells.toList _).grown hg4 (hgx _ (by omega)) (by simp; omega)
        have BN := (F3.at 1 rfl : BoxP (w.heap.size + 1 + 1 + 1) (fieldNames.map Value.string) _).grown hg4 HN.out (by simp; omega)
        have B4 := Lib.hid (below_grown B3.out hg4 (fun q hq => by have := hown.lt q hq; omega))
        have hne4 : (Value.slice ad' ((diffK x y k).length + 1) c').ownBlock ≠ some (w.heap.size + 1 + 1 + 1) := fun e => by
          rcases hn4 _ e with h5 | h5
          · exact HN.out h5
          · simp at h5; omega
        have HN4 := Lib.hid hne4
        have z4 : w.heap.size + 1 + 1 + 1 < w4.heap.size := by have := hg4.size; simp at this; omega
        clear hown4 hg4 hn4 hown F2 F3 hne4 hgx
        go_wp2
        go_roundw
        case rel => exact ⟨k + 1, ad', c', by omega, by go_num, by rw [e.out]; simp, by rw [e.out]; simpa using HO4.out, B4.out, BN, BX, BY, by rw [e.out]; simpa using HN4.out, z4⟩
        case measure => simp [intOf]; omega
    · obtain rfl : k = 9 := by omega
      go_wp2
      go_ret
      exact ⟨_, _, rfl, ownsRow_le hown (by omega), hbw⟩

set_option maxRecDepth 100000 in
set_option maxHeartbeats 4000000 in
theorem l03Different_c (xb xo yb yo : Nat) (x y : R) (w : World) (hx : R.At w xb xo x) (hy : R.At w yb yo y) : Calls Try.prog 106 #[.pointer (some ⟨xb, xo, none⟩), .pointer (some ⟨yb, yo, none⟩)] w (StrRes w (diffK x y 9)) := by
  obtain ⟨i0, hi, hz0, hz1, hz2⟩ := info_parts infoS
  have HY := Lib.hid hy
  have hyl : yb < w.heap.size := World.block_lt_of_cell? w _ hy.c0
  go_enter Try.func106, Try.ntmps106
  go_wp2_with fail
  refine (l03Values_c xb xo x _ hx).mono ?_
  rintro e w1 ⟨a1, c1, rfl, ho1, hb1⟩
  go_wp2_with fail
  refine (l03Values_c yb yo y _ (HY.out.below hb1 hyl)).mono ?_
  rintro e w2 ⟨a2, c2, rfl, ho2, hb2⟩
  go_wp2_with fail
  refine (sFieldNames_c _).mono ?_
  rintro e w3 ⟨rfl, hw3⟩
  obtain ⟨hb3, bx3, hz3⟩ := made hw3
  have F3 := ((((Fr.start w).step hb1).own ho1 |>.step hb2).own ho2 |>.step hb3).box bx3 (by omega)
  have s1 := hb1.size
  have s2 := hb2.size
  clear hw3 ho1 ho2 hb1 hb2 hb3 bx3
  go_wp2
  have F4 := F3.alloc #[] 9
  have O4 := World.ownsRow_lit (base := w3.heap.size) (e := 9) (size := 1) w3 #[] 0 (Nat.le_refl _) (Nat.zero_le _) rfl
  rw [hz3] at O4
  go_loopw [8, 9] (fun o i wr => ∃ (k : Nat) (ad : Option Addr) (c : Nat), k ≤ 9 ∧ i = .int .i64 k ∧ o = .slice ad (diffK x y k).length c ∧ wr.ownsRow (w2.heap.size + 1) 9 1 (.slice ad (diffK x y k).length c) (diffK x y k).length ((diffK x y k).map Value.string) ∧
      Fr w wr [⟨w2.heap.size, w2.heap.size + 1, BoxP w2.heap.size (fieldNames.map Value.string)⟩, ⟨w1.heap.size, w2.heap.size, RowP w1.heap.size w2.heap.size a2 c2 y.list⟩, ⟨w.heap.size, w1.heap.size, RowP w.heap.size w1.heap.size a1 c1 x.list⟩]) (fun _ i _ => 9 - (intOf i).toNat)
  case atStart =>
    refine ⟨0, _, _, Nat.zero_le _, rfl, rfl, O4, ?_⟩
    exact F3.step (below_alloc1 _ _)
  case round =>
    clear F3 F4 O4
    obtain ⟨k, ad, c, hk, rfl, rfl, hown, F⟩ := hrel
    by_cases hlt : k < 9
    · have HD := Lib.hid (diffK_succ x y k)
      have hl := diffK_len x y k
      have hx9 : k < x.list.length := by simp [R.list]; exact hlt
      have hy9 : k < y.list.length := by simp [R.list]; exact hlt
      have hf9 : k < fieldNames.length := by simp [fieldNames]; exact hlt
      obtain ⟨vx, hvx⟩ : ∃ v, v = x.list[k] := ⟨_, rfl⟩
      obtain ⟨vy, hvy⟩ : ∃ v, v = y.list[k] := ⟨_, rfl⟩
      obtain ⟨nm, hnm⟩ : ∃ v, v = fieldNames[k] := ⟨_, rfl⟩
      obtain ⟨b1, o1, rfl, hb1, hc1⟩ := Ints.at (own_row (F.at 2 rfl).1) hx9
      obtain ⟨b2, o2, rfl, hb2, hc2⟩ := Ints.at (own_row (F.at 1 rfl).1) hy9
      have hcn : wr.cell? ⟨w2.heap.size, k, none⟩ = some (.string nm) := (F.at 0 rfl) k _ (by rw [hnm]; simp [hf9])
      replace hc1 : wr.cell? ⟨b1, o1 + k, none⟩ = some (.int .i64 vx) := by rw [hvx]; exact hc1
      replace hc2 : wr.cell? ⟨b2, o2 + k, none⟩ = some (.int .i64 vy) := by rw [hvy]; exact hc2
      have hgx : (x.list.getD k 0 != y.list.getD k 0) = (vx != vy) := by rw [hvx, hvy]; simp [hx9, hy9]; rfl
      have hgn : fieldNames.getD k ⟨#[]⟩ = nm := by rw [hnm]; simp [hf9]
      rw [hgx, hgn] at HD
      have lx : (x.list.length : Int) = 9 := rfl
      have ly : (y.list.length : Int) = 9 := rfl
      clear hgx hgn hvx hvy hnm hx9 hy9 hf9
      cases hd : (vx != vy)
      · have e : Hid (diffK x y (k + 1) = diffK x y k) := by
          unfold Hid
          rw [HD.out, hd]
          simp
        go_wp2
        go_quiet (fail)
        go_wp2
        go_roundw
        case rel => exact ⟨k + 1, ad, c, by omega, by go_num, by rw [e.out], by rw [e.out]; exact hown, F.drawn _⟩
        case measure => simp [intOf]; omega
      · have e : Hid (diffK x y (k + 1) = diffK x y k ++ [nm]) := by
          unfold Hid
          rw [HD.out, hd]
          simp
        go_wp2
        go_quiet (fail)
        go_wp2_with (at_builtin; refine wpList_append_own2 _ rfl _ _ 32 rfl (w2.heap.size + 1) 9 i0 (.string ⟨#[]⟩) 1 16 Try.underlying32 hi hz0 hz1 hz2 rfl (by decide) _ _ _ rfl (World.ownsRow.alloc (w := wr.drewN _) hown _) ⟨wr.heap.size, 0, none⟩ 1 1 [.string nm] rfl rfl ?c1 ?c2 ?c3 ?c4 ?c5 ?_)
        case c1 => intro j u hu; match j, hu with | 0, hu => (simp at hu; subst hu; exact (made (w := World.drewN wr _) rfl).2.1 0 _ rfl)
        case c2 => intro u hu; simp at hu; subst hu; rfl
        case c3 => unfold maxLen; omega
        case c4 => omega
        case c5 => (have := F.le 0 rfl; simp at this; simp; omega)
        intro ad' c' w4 hown4 hg4 hn4
        have F5 : Fr w w4 [⟨w2.heap.size, w2.heap.size + 1, BoxP w2.heap.size (fieldNames.map Value.string)⟩, ⟨w1.heap.size, w2.heap.size, RowP w1.heap.size w2.heap.size (some ⟨b2, o2, none⟩) c2 y.list⟩, ⟨w.heap.size, w1.heap.size, RowP w.heap.size w1.heap.size (some ⟨b1, o1, none⟩) c1 x.list⟩] :=
          Fr.chgAt ((F.drawn _).alloc #[.string nm] 9) 0 (lo := w2.heap.size + 1) (hi := wr.heap.size + 1) (Chg.ofGrown hg4 (fun q hq => ⟨(hown.lt q hq).1, by have := (hown.lt q hq).2; omega⟩)) (by omega) (by simp [List.eraseIdx]; omega)
        have HO4 := Lib.hid hown4
        clear hown4 hg4 hn4 hown F
        go_wp2
        go_roundw
        case rel => exact ⟨k + 1, ad', c', by omega, by go_num, by rw [e.out]; simp, by rw [e.out]; simpa using HO4.out, F5⟩
        case measure => simp [intOf]; omega
    · obtain rfl : k = 9 := by omega
      go_wp2
      go_ret
      exact ⟨_, _, rfl, ownsRow_le hown (by omega), F.below⟩


def DiffP (x y : R) : List ByteArray × Int := if x.ok && y.ok then (diffK x y 9, 0) else ([], 1)
/-- two results, a list of texts of the call's own and a number -/
def StrRes2 (w : World) (y : List ByteArray × Int) (e : Ending) (w' : World) : Prop :=
  ∃ ad c, e = .returned (.tuple #[.slice ad y.1.length c, .int .i64 y.2]) ∧ w'.ownsRow w.heap.size 9 1 (.slice ad y.1.length c) y.1.length (y.1.map Value.string) ∧ Below w.heap.size w w'
set_option maxHeartbeats 2000000 in
theorem iDifferentFields_c (x y : R) (w : World) : Calls Try.prog 17 #[x.val, y.val] w (StrRes2 w (DiffP x y)) := by
  go_enter Try.func17, Try.ntmps17
  go_wp2_with fail
  refine (ValidRules_c x _).mono ?_
  rintro e w1 ⟨rfl, hb1⟩
  have F1 := (((Fr.start w).alloc x.cells 25).alloc y.cells 25).step hb1
  clear hb1
  cases hx : x.ok
  · have HP := Lib.hid (show DiffP x y = ([], 1) by simp [DiffP, hx])
    clear hx
    go_wp2
    go_ret2
    refine ⟨none, 0, ?_, ?_, F1.below⟩ <;> rw [HP.out]
    · rfl
    · exact World.ownsRow_nil _ _ _ _
  have HX := Lib.hid hx
  obtain ⟨c0, c1, c2, c3, c4, c5, c6, c7, c8⟩ := R.boxc (F1.at 0 rfl)
  simp only [World.size_alloc] at c0 c1 c2 c3 c4 c5 c6 c7 c8
  clear hx
  go_wp2_with fail
  refine (ValidRules_c y _).mono ?_
  rintro e w2 ⟨rfl, hb2⟩
  have F2 := F1.step hb2
  clear hb2 c0 c1 c2 c3 c4 c5 c6 c7 c8 F1
  cases hy : y.ok
  · have HP := Lib.hid (show DiffP x y = ([], 1) by simp [DiffP, hy])
    clear hy
    go_wp2
    go_ret2
    refine ⟨none, 0, ?_, ?_, F2.below⟩ <;> rw [HP.out]
    · rfl
    · exact World.ownsRow_nil _ _ _ _
  have HP := Lib.hid (show DiffP x y = (diffK x y 9, 0) by simp [DiffP, HX.out, hy])
  clear hy
  obtain ⟨c0, c1, c2, c3, c4, c5, c6, c7, c8⟩ := R.boxc (F2.at 0 rfl)
  obtain ⟨d0, d1, d2, d3, d4, d5, d6, d7, d8⟩ := R.boxc (F2.at 1 rfl)
  simp only [World.size_alloc] at c0 c1 c2 c3 c4 c5 c6 c7 c8
  go_wp2_with fail
  refine (different_c x y _).mono ?_
  rintro e w3 ⟨ad, c, rfl, ho, hb3⟩
  go_wp2
  go_ret2
  refine ⟨ad, c, ?_, ?_, (F2.step hb3).below⟩ <;> rw [HP.out]
  · rfl
  · exact ownsRow_le ho F2.below.size

set_option maxHeartbeats 2000000 in
theorem sDifferentFields_c (x y : R) (w : World) : Calls Try.prog 18 #[x.val, y.val] w (StrRes2 w (DiffP x y)) := by
  have F0 := ((Fr.start w).alloc x.cells 25).alloc y.cells 25
  have HX0 := Lib.hid (R.boxc (F0.at 1 rfl))
  have HY0 := Lib.hid (R.boxc (F0.at 0 rfl))
  simp only [World.size_alloc] at HY0
  go_enter Try.func18, Try.ntmps18
  go_wp2_with fail
  refine (l02Ok_c w.heap.size 0 x _ HX0.out).mono ?_
  rintro e w' ⟨rfl, rfl⟩
  cases hx : x.ok
  · have HP := Lib.hid (show DiffP x y = ([], 1) by simp [DiffP, hx])
    clear hx
    go_wp2
    go_ret2
    refine ⟨none, 0, ?_, ?_, F0.below⟩ <;> rw [HP.out]
    · rfl
    · exact World.ownsRow_nil _ _ _ _
  have HX := Lib.hid hx
  clear hx
  go_wp2_with fail
  refine (l02Ok_c (w.heap.size + 1) 0 y _ HY0.out).mono ?_
  rintro e w' ⟨rfl, rfl⟩
  cases hy : y.ok
  · have HP := Lib.hid (show DiffP x y = ([], 1) by simp [DiffP, hy])
    clear hy
    go_wp2
    go_ret2
    refine ⟨none, 0, ?_, ?_, F0.below⟩ <;> rw [HP.out]
    · rfl
    · exact World.ownsRow_nil _ _ _ _
  have HP := Lib.hid (show DiffP x y = (diffK x y 9, 0) by simp [DiffP, HX.out, hy])
  clear hy
  go_wp2_with fail
  refine (l03Different_c w.heap.size 0 (w.heap.size + 1) 0 x y _ HX0.out HY0.out).mono ?_
  rintro e w3 ⟨ad, c, rfl, ho, hb3⟩
  go_wp2
  go_ret2
  refine ⟨ad, c, ?_, ?_, (F0.step hb3).below⟩ <;> rw [HP.out]
  · rfl
  · exact ownsRow_le ho F0.below.size


/-! ### Near: the given game that is nearest to rules: both sides return the same. Each contract holds for every argument, under the premises that it states. -/
def stdNames : List ByteArray := [⟨#[107, 97, 108, 97, 104]⟩, ⟨#[109, 105, 110, 105]⟩, ⟨#[111, 119, 97, 114, 101]⟩, ⟨#[114, 101, 108, 97, 121]⟩]
def stdList : List R := [⟨6, 4, true, false, false, false, true, 2, 0⟩, ⟨3, 2, false, false, false, true, false, 1, 0⟩, ⟨6, 4, false, true, false, true, false, 1, 2⟩, ⟨4, 2, false, false, true, false, false, 2, 0⟩]
def stdR (k : Nat) : R := stdList.getD k ⟨0, 0, false, false, false, false, false, 0, 0⟩
def stdN (k : Nat) : ByteArray := stdNames.getD k ⟨#[]⟩
def nearN (r : R) (k : Nat) : Int := ((diffK (stdR k) r 9).length : Int)
theorem diffK_comm (a b : R) (k : Nat) : diffK a b k = diffK b a k := by
  unfold diffK
  have : (fun j => a.list.getD j 0 != b.list.getD j 0) = (fun j => b.list.getD j 0 != a.list.getD j 0) := by
    funext j
    exact bne_comm
  rw [this]
theorem nearN_bd (r : R) (k : Nat) : 0 ≤ nearN r k ∧ nearN r k ≤ 9 := by
  have := diffK_len (stdR k) r 9
  unfold nearN
  omega
/-- the nearest of the first k games -/
def nearK (r : R) : Nat → ByteArray × Int
  | 0 => (⟨#[]⟩, -1)
  | k + 1 => if k = 0 ∨ nearN r k < (nearK r k).2 then (stdN k, nearN r k) else nearK r k
def nearP (r : R) : ByteArray × Int × Int := if r.ok = true then ((nearK r 4).1, (nearK r 4).2, 0) else (⟨#[]⟩, 0, 1)
theorem nearK_pos (r : R) : ∀ k, 0 < k → 0 ≤ (nearK r k).2 ∧ (nearK r k).2 ≤ 9
  | 0, h => by omega
  | k + 1, h => by
    have h1 := nearN_bd r k
    simp only [nearK]
    split
    · exact h1
    · rename_i h2
      exact nearK_pos r k (by omega)

set_option maxHeartbeats 4000000 in
theorem standard_c (k : Nat) (hk : k < 4) (w : World) : Calls Try.prog 108 #[.string (stdN k)] w fun e w' => e = .returned (stdR k).val ∧ Below w.heap.size w w' := by
  have hB : ∀ (a b c d e f g i j : Value), Below w.heap.size w (w.alloc (.cells #[a, b, c, d, e, f, g, i, j] 25)) := fun _ _ _ _ _ _ _ _ _ => below_alloc1 _ _
  match k, hk with
  | 0, _ | 1, _ | 2, _ | 3, _ =>
    simp only [stdN, stdNames, stdR, stdList, List.getD_cons_zero, List.getD_cons_succ]
    go_enter Try.func108, Try.ntmps108
    go_wp2
    refine bodyPost_ret ?_ rfl ⟨rfl, hB _ _ _ _ _ _ _ _ _⟩
    simp [results, Try.results108, go_sem, R.val, R.cells]
set_option maxHeartbeats 4000000 in
theorem sStandardRules_c (k : Nat) (hk : k < 4) (w : World) : Calls Try.prog 110 #[.string (stdN k)] w fun e w' => e = .returned (.tuple #[(stdR k).val, .int .i64 0]) ∧ Below w.heap.size w w' := by
  have hB : ∀ (a b c d e f g i j : Value), Below w.heap.size w (w.alloc (.cells #[a, b, c, d, e, f, g, i, j] 25)) := fun _ _ _ _ _ _ _ _ _ => below_alloc1 _ _
  match k, hk with
  | 0, _ | 1, _ | 2, _ | 3, _ =>
    simp only [stdN, stdNames, stdR, stdList, List.getD_cons_zero, List.getD_cons_succ]
    go_enter Try.func110, Try.ntmps110
    go_wp2
    refine bodyPost_ret ?_ rfl ⟨rfl, hB _ _ _ _ _ _ _ _ _⟩
    simp [results, Try.results110, go_sem, R.val, R.cells]
set_option maxHeartbeats 1000000 in
theorem iStandardNames_c (w : World) : Calls Try.prog 107 #[] w fun e w' => e = .returned (.slice (some ⟨w.heap.size, 0, none⟩) 4 4) ∧ w' = w.alloc (.cells (stdNames.map Value.string).toArray 9) := by
  go_enter Try.func107, Try.ntmps107
  go_wp2
  go_ret
  exact ⟨rfl, rfl⟩
set_option maxHeartbeats 1000000 in
theorem sStandardNames_c (w : World) : Calls Try.prog 109 #[] w fun e w' => e = .returned (.slice (some ⟨w.heap.size, 0, none⟩) 4 4) ∧ w' = w.alloc (.cells (stdNames.map Value.string).toArray 9) := by
  go_enter Try.func109, Try.ntmps109
  go_wp2
  go_ret
  exact ⟨rfl, rfl⟩
theorem std_cell {w : World} {g : Nat} (h : BoxP g (stdNames.map Value.string) w) {k : Nat} (hk : k < 4) : w.cell? ⟨g, k, none⟩ = some (.string (stdN k)) := by
  refine h k _ ?_
  match k, hk with
  | 0, _ | 1, _ | 2, _ | 3, _ => rfl
/-- a round over the games -/
structure NrSt (w wr : World) (r : R) (g k : Nat) : Prop where
  kl : k ≤ 4
  nx : BoxP g (stdNames.map Value.string) wr
  rx : BoxP w.heap.size r.cells.toList wr
  below : Below w.heap.size w wr
theorem box_below {w w' : World} {g : Nat} {cs : List Value} (h : BoxP g cs w) (hb : Below w.heap.size w w') : BoxP g cs w' := fun j v hv =>
  (hb.cell (show (Addr.mk g j none).block < _ from World.block_lt_of_cell? w _ (h j v hv))).trans (h j v hv)
theorem NrSt.next {w wr W : World} {r : R} {g k : Nat} (h : NrSt w wr r g k) (hb : Below wr.heap.size wr W) (hk : k < 4) : NrSt w W r g (k + 1) := ⟨by omega, box_below h.nx hb, box_below h.rx hb, below_next h.below hb⟩

set_option maxRecDepth 100000 in
set_option maxHeartbeats 8000000 in
theorem iNearestGame_c (r : R) (w : World) : Calls Try.prog 19 #[r.val] w fun e w' => e = .returned (.tuple #[.string (nearP r).1, .int .i64 (nearP r).2.1, .int .i64 (nearP r).2.2]) ∧ Below w.heap.size w w' := by
  have F0 := (Fr.start w).alloc r.cells 25
  have HV := fun W => ValidRules_c r W
  obtain ⟨y, hy⟩ : ∃ y, y = nearP r := ⟨_, rfl⟩
  rw [← hy]
  cases hok : r.ok
  · rw [hok] at HV
    have HV := Lib.hid HV
    have HE : Hid (y = (⟨#[]⟩, 0, 1)) := by unfold Hid; rw [hy, nearP, hok]; rfl
    clear hok hy
    go_enter Try.func19, Try.ntmps19
    go_wp2_with fail
    refine (HV.out _).mono ?_
    rintro e w1 ⟨rfl, hb1⟩
    have F1 := F0.step hb1
    clear hb1
    go_wp2
    go_ret3
    rw [HE.out]
    exact ⟨rfl, F1.below⟩
  rw [hok] at HV
  have HV := Lib.hid HV
  have HE : Hid (y = ((nearK r 4).1, (nearK r 4).2, 0)) := by unfold Hid; rw [hy, nearP, hok]; rfl
  clear hok hy
  go_enter Try.func19, Try.ntmps19
  go_wp2_with fail
  refine (HV.out _).mono ?_
  rintro e w1 ⟨rfl, hb1⟩
  have F1 := F0.step hb1
  clear hb1 F0
  go_wp2_with fail
  refine (iStandardNames_c _).mono ?_
  rintro e w2 ⟨rfl, hw2⟩
  obtain ⟨hb2, bx2, hz2⟩ := made hw2
  have hst0 : Hid (NrSt w w2 r w1.heap.size 0) := ⟨by omega, by simpa using bx2, (F1.step hb2).at 0 rfl, (F1.step hb2).below⟩
  have hg0 : w.heap.size < w1.heap.size := F1.le 0 rfl
  obtain ⟨g, hg⟩ : ∃ g, g = w1.heap.size := ⟨_, rfl⟩
  rw [← hg] at hst0 hg0 ⊢
  clear hw2 hb2 bx2 hz2 F1 hg
  go_wp2_with fail
  go_loopw [5, 6, 15] (fun bs ls i wr => ∃ (k : Nat), i = .int .i64 k ∧ bs = .string (nearK r k).1 ∧ ls = .int .i64 (nearK r k).2 ∧ NrSt w wr r g k) (fun _ _ i _ => 4 - (intOf i).toNat)
  case atStart => exact ⟨0, rfl, rfl, rfl, hst0.out⟩
  case round =>
    clear hst0
    obtain ⟨k, rfl, rfl, rfl, hst⟩ := hrel
    have HST := Lib.hid hst
    have hkl := hst.kl
    clear hst
    by_cases hk : k < 4
    case neg =>
      have hki : ¬ (k : Int) < 4 := by omega
      have HT : Hid (y = ((nearK r k).1, (nearK r k).2, 0)) := by unfold Hid; rw [HE.out, show k = 4 by omega]
      go_wp2
      go_ret3
      rw [HT.out]
      exact ⟨rfl, HST.out.below⟩
    have hki : (k : Int) < 4 := by omega
    have q0 := std_cell HST.out.nx hk
    obtain ⟨c0, c1, c2, c3, c4, c5, c6, c7, c8⟩ := R.boxc HST.out.rx
    have hgl : g < wr.heap.size := World.block_lt_of_cell? wr _ q0
    have hrl : w.heap.size < wr.heap.size := World.block_lt_of_cell? wr _ c0
    obtain ⟨nb0, nb1⟩ := nearN_bd r k
    have HN : Hid (nearK r (k + 1) = if k = 0 ∨ nearN r k < (nearK r k).2 then (stdN k, nearN r k) else nearK r k) := rfl
    have HNN : Hid (((diffK (stdR k) r 9).length : Int) = nearN r k) := rfl
    have HPOS : Hid (0 < k → 0 ≤ (nearK r k).2) := fun h => (nearK_pos r k h).1
    have HZ : Hid (k = 0 → (nearK r k).2 = -1) := fun h => by subst h; rfl
    obtain ⟨s, hs⟩ : ∃ s, s = stdN k := ⟨_, rfl⟩
    obtain ⟨bst, hbst⟩ : ∃ bst, bst = nearK r k := ⟨_, rfl⟩
    have HSTD := Lib.hid (fun W => standard_c k hk W)
    rw [← hs] at HSTD q0 HN
    rw [← hbst] at HN HPOS HZ ⊢
    obtain ⟨b1, b2⟩ := bst
    clear hs hbst
    go_wp2_with fail
    refine heldH (S := fun W => W.cell? ⟨w.heap.size, 0, none⟩ = some (.int .i64 r.pits) ∧ W.cell? ⟨w.heap.size, 1, none⟩ = some (.int .i64 r.seeds) ∧ W.cell? ⟨w.heap.size, 2, none⟩ = some (.bool r.stores) ∧ W.cell? ⟨w.heap.size, 3, none⟩ = some (.bool r.skip) ∧ W.cell? ⟨w.heap.size, 4, none⟩ = some (.bool r.relay) ∧ W.cell? ⟨w.heap.size, 5, none⟩ = some (.bool r.feed) ∧ W.cell? ⟨w.heap.size, 6, none⟩ = some (.bool r.again) ∧ W.cell? ⟨w.heap.size, 7, none⟩ = some (.int .i64 r.capture) ∧ W.cell? ⟨w.heap.size, 8, none⟩ = some (.int .i64 r.slam)) (n := 6) (listed := #[false, false, false, false, false, false]) (by kernel_rfl) (by rfl) (by rfl) ?_ (fun hHeld => ?_)
    (focus ((try dsimp only); (first | done | ((first | exact ⟨(hcB _ _ hrl).trans c0, (hcB _ _ hrl).trans c1, (hcB _ _ hrl).trans c2, (hcB _ _ hrl).trans c3, (hcB _ _ hrl).trans c4, (hcB _ _ hrl).trans c5, (hcB _ _ hrl).trans c6, (hcB _ _ hrl).trans c7, (hcB _ _ hrl).trans c8⟩ | exact ⟨(hcA _ _ hrl).trans c0, (hcA _ _ hrl).trans c1, (hcA _ _ hrl).trans c2, (hcA _ _ hrl).trans c3, (hcA _ _ hrl).trans c4, (hcA _ _ hrl).trans c5, (hcA _ _ hrl).trans c6, (hcA _ _ hrl).trans c7, (hcA _ _ hrl).trans c8⟩ | exact ⟨c0, c1, c2, c3, c4, c5, c6, c7, c8⟩); done))))
    (refine takeH (i := 0) (v := ?_) (by decide +kernel) (by decide +kernel) (by kernel_rfl) (by rfl) (by exact fun _ _ _ h => h) (by rfl) ?_ (by assumption) ?_); rotate_left; (focus (intro w hSw; (try dsimp only at hSw); go_simp; (try with_reducible rfl); done)); (try simp only [Act.put, List.setIfInBounds_toArray, List.set_cons_zero, List.set_cons_succ])
    (refine takeH (i := 2) (v := ?_) (by decide +kernel) (by decide +kernel) (by kernel_rfl) (by rfl) (by exact fun _ _ _ h => h) (by rfl) ?_ (by assumption) ?_); rotate_left; (focus (intro w hSw; (try dsimp only at hSw); go_simp; (try with_reducible rfl); done)); (try simp only [Act.put, List.setIfInBounds_toArray, List.set_cons_zero, List.set_cons_succ])
    refine nextH (i := 1) (by decide +kernel) (by rfl) (by rfl) (fun K hK => ?_)
    go_simp
    (first | (go_at_call 105; (refine (different_c (stdR k) r _).mono ?_); (rintro e wB ⟨ad, cc, rfl, hoB, hbB⟩); (have hcB : ∀ b o, b < wr.heap.size → wB.cell? ⟨b, o, none⟩ = wr.cell? ⟨b, o, none⟩ := fun b o h => ((bcell hbB).1 b o (Nat.lt_of_lt_of_le h hbA.size)).trans (hcA b o h))) | (go_at_call 108; (refine (HSTD.out _).mono ?_); (rintro e wA ⟨rfl, hbA⟩); (have hcA : ∀ b o, b < wr.heap.size → wA.cell? ⟨b, o, none⟩ = wr.cell? ⟨b, o, none⟩ := fun b o h => (bcell hbA).1 b o h)))
    refine hK.out _ _ ?_ (fun hHeld' => ?_)
    (focus ((try dsimp only); (first | done | ((first | exact ⟨(hcB _ _ hrl).trans c0, (hcB _ _ hrl).trans c1, (hcB _ _ hrl).trans c2, (hcB _ _ hrl).trans c3, (hcB _ _ hrl).trans c4, (hcB _ _ hrl).trans c5, (hcB _ _ hrl).trans c6, (hcB _ _ hrl).trans c7, (hcB _ _ hrl).trans c8⟩ | exact ⟨(hcA _ _ hrl).trans c0, (hcA _ _ hrl).trans c1, (hcA _ _ hrl).trans c2, (hcA _ _ hrl).trans c3, (hcA _ _ hrl).trans c4, (hcA _ _ hrl).trans c5, (hcA _ _ hrl).trans c6, (hcA _ _ hrl).trans c7, (hcA _ _ hrl).trans c8⟩ | exact ⟨c0, c1, c2, c3, c4, c5, c6, c7, c8⟩); done))))
    clear hK K hHeld
    have hHeld := hHeld'
    clear hHeld'
    (try simp only [Act.put, List.setIfInBounds_toArray, List.set_cons_zero, List.set_cons_succ])
    refine nextH (i := 3) (by decide +kernel) (by rfl) (by rfl) (fun K hK => ?_)
    go_simp
    (first | (go_at_call 105; (refine (different_c (stdR k) r _).mono ?_); (rintro e wB ⟨ad, cc, rfl, hoB, hbB⟩); (have hcB : ∀ b o, b < wr.heap.size → wB.cell? ⟨b, o, none⟩ = wr.cell? ⟨b, o, none⟩ := fun b o h => ((bcell hbB).1 b o (Nat.lt_of_lt_of_le h hbA.size)).trans (hcA b o h))) | (go_at_call 108; (refine (HSTD.out _).mono ?_); (rintro e wA ⟨rfl, hbA⟩); (have hcA : ∀ b o, b < wr.heap.size → wA.cell? ⟨b, o, none⟩ = wr.cell? ⟨b, o, none⟩ := fun b o h => (bcell hbA).1 b o h)))
    refine hK.out _ _ ?_ (fun hHeld' => ?_)
    (focus ((try dsimp only); (first | done | ((first | exact ⟨(hcB _ _ hrl).trans c0, (hcB _ _ hrl).trans c1, (hcB _ _ hrl).trans c2, (hcB _ _ hrl).trans c3, (hcB _ _ hrl).trans c4, (hcB _ _ hrl).trans c5, (hcB _ _ hrl).trans c6, (hcB _ _ hrl).trans c7, (hcB _ _ hrl).trans c8⟩ | exact ⟨(hcA _ _ hrl).trans c0, (hcA _ _ hrl).trans c1, (hcA _ _ hrl).trans c2, (hcA _ _ hrl).trans c3, (hcA _ _ hrl).trans c4, (hcA _ _ hrl).trans c5, (hcA _ _ hrl).trans c6, (hcA _ _ hrl).trans c7, (hcA _ _ hrl).trans c8⟩ | exact ⟨c0, c1, c2, c3, c4, c5, c6, c7, c8⟩); done))))
    clear hK K hHeld
    have hHeld := hHeld'
    clear hHeld'
    (try simp only [Act.put, List.setIfInBounds_toArray, List.set_cons_zero, List.set_cons_succ])
    (refine takeH (i := 4) (v := ?_) (by decide +kernel) (by decide +kernel) (by kernel_rfl) (by rfl) (by exact fun _ _ _ h => h) (by rfl) ?_ (by assumption) ?_); rotate_left; (focus (intro w hSw; (try dsimp only at hSw); go_simp; (try with_reducible rfl); done)); (try simp only [Act.put, List.setIfInBounds_toArray, List.set_cons_zero, List.set_cons_succ])
    (refine takeH (i := 5) (v := ?_) (by decide +kernel) (by decide +kernel) (by kernel_rfl) (by rfl) (by exact fun _ _ _ h => h) (by rfl) ?_ (by assumption) ?_); rotate_left; (focus (intro w hSw; (try dsimp only at hSw); go_simp; (try with_reducible rfl); done)); (try simp only [Act.put, List.setIfInBounds_toArray, List.set_cons_zero, List.set_cons_succ])
    refine wpAnyH_done (by decide +kernel) ?_ _
    have HB : Hid (Below wr.heap.size wr wB) := below_next (below_next (Below.refl _ _).drew hbA) hbB
    have HNX := Lib.hid (HST.out.next HB.out hk)
    have hnn := HNN.out
    obtain ⟨n, hn⟩ : ∃ n, n = nearN r k := ⟨_, rfl⟩
    rw [← hn] at hnn HN nb0 nb1
    obtain ⟨len, hlen⟩ : ∃ len, len = (diffK (stdR k) r 9).length := ⟨_, rfl⟩
    rw [← hlen] at hnn ⊢
    have hln : (len : Int) = n := hnn
    clear hcA hcB hbA hbB hoB hn hlen hnn c0 c1 c2 c3 c4 c5 c6 c7 c8 q0
    subst hln
    by_cases hlt : b2 < 0
    · have HK : Hid (nearK r (k + 1) = (s, (len : Int))) := by
        unfold Hid
        rw [HN.out, if_pos (.inl (by rcases Nat.eq_zero_or_pos k with h | h; exact h; have := HPOS.out h; omega))]
      go_wp2
      go_roundw
      case rel => exact ⟨k + 1, by go_num, by rw [HK.out], by rw [HK.out], HNX.out⟩
      case measure => (simp [intOf]; omega)
    · have hk0 : ¬ k = 0 := fun e => by have := HZ.out e; omega
      by_cases hl2 : (len : Int) < b2
      · have HK : Hid (nearK r (k + 1) = (s, (len : Int))) := by unfold Hid; rw [HN.out, if_pos (.inr hl2)]
        clear hk0
        go_wp2
        go_roundw
        case rel => exact ⟨k + 1, by go_num, by rw [HK.out], by rw [HK.out], HNX.out⟩
        case measure => (simp [intOf]; omega)
      · have HK : Hid (nearK r (k + 1) = (b1, b2)) := by unfold Hid; rw [HN.out, if_neg (fun e => by rcases e with e | e; exact hk0 e; exact hl2 e)]
        clear hk0
        go_wp2
        go_roundw
        case rel => exact ⟨k + 1, by go_num, by rw [HK.out], by rw [HK.out], HNX.out⟩
        case measure => (simp [intOf]; omega)

set_option maxRecDepth 100000 in
set_option maxHeartbeats 8000000 in
theorem sNearestGame_c (r : R) (w : World) : Calls Try.prog 20 #[r.val] w fun e w' => e = .returned (.tuple #[.string (nearP r).1, .int .i64 (nearP r).2.1, .int .i64 (nearP r).2.2]) ∧ Below w.heap.size w w' := by
  have F0 := (Fr.start w).alloc r.cells 25
  have HV := l02Ok_c _ _ r _ (R.boxc (F0.at 0 rfl))
  obtain ⟨y, hy⟩ : ∃ y, y = nearP r := ⟨_, rfl⟩
  rw [← hy]
  cases hok : r.ok
  · rw [hok] at HV
    have HV := Lib.hid HV
    have HE : Hid (y = (⟨#[]⟩, 0, 1)) := by unfold Hid; rw [hy, nearP, hok]; rfl
    clear hok hy
    go_enter Try.func20, Try.ntmps20
    go_wp2_with fail
    refine HV.out.mono ?_
    rintro e w1 ⟨rfl, rfl⟩
    go_wp2
    go_ret3
    rw [HE.out]
    exact ⟨rfl, F0.below⟩
  rw [hok] at HV
  have HV := Lib.hid HV
  have HE : Hid (y = ((nearK r 4).1, (nearK r 4).2, 0)) := by unfold Hid; rw [hy, nearP, hok]; rfl
  clear hok hy
  go_enter Try.func20, Try.ntmps20
  go_wp2_with fail
  refine HV.out.mono ?_
  rintro e w1 ⟨rfl, rfl⟩
  go_wp2_with fail
  refine (sStandardNames_c _).mono ?_
  rintro e w2 ⟨rfl, hw2⟩
  obtain ⟨hb2, bx2, hz2⟩ := made hw2
  have hst0 : Hid (NrSt w w2 r (w.heap.size + 1) 0) := ⟨by omega, by simpa using bx2, (F0.step hb2).at 0 rfl, (F0.step hb2).below⟩
  clear hw2 hb2 bx2 hz2 F0
  go_wp2_with fail
  go_loopw [6, 7, 8] (fun bs ls i wr => ∃ (k : Nat), i = .int .i64 k ∧ bs = .string (nearK r k).1 ∧ ls = .int .i64 (if k = 0 then 0 else (nearK r k).2) ∧ NrSt w wr r (w.heap.size + 1) k) (fun _ _ i _ => 4 - (intOf i).toNat)
  case atStart => exact ⟨0, rfl, rfl, rfl, hst0.out⟩
  case round =>
    clear hst0
    obtain ⟨k, rfl, rfl, rfl, hst⟩ := hrel
    have HST := Lib.hid hst
    have hkl := hst.kl
    clear hst
    by_cases hk : k < 4
    case neg =>
      have hki : ¬ (k : Int) < 4 := by omega
      have HT : Hid (y = ((nearK r k).1, (if k = 0 then 0 else (nearK r k).2), 0)) := by unfold Hid; rw [HE.out, show k = 4 by omega]; rfl
      obtain ⟨ls, hls⟩ : ∃ ls, ls = (if k = 0 then 0 else (nearK r k).2) := ⟨_, rfl⟩
      rw [← hls] at HT ⊢
      clear hls
      go_wp2
      go_ret3
      rw [HT.out]
      exact ⟨rfl, HST.out.below⟩
    have hki : (k : Int) < 4 := by omega
    have q0 := std_cell HST.out.nx hk
    obtain ⟨c0, c1, c2, c3, c4, c5, c6, c7, c8⟩ := R.boxc HST.out.rx
    have hgl : w.heap.size + 1 < wr.heap.size := World.block_lt_of_cell? wr _ q0
    have hrl : w.heap.size < wr.heap.size := World.block_lt_of_cell? wr _ c0
    have HN : Hid (nearK r (k + 1) = if k = 0 ∨ nearN r k < (nearK r k).2 then (stdN k, nearN r k) else nearK r k) := rfl
    have HNN : Hid (((diffK r (stdR k) 9).length : Int) = nearN r k) := by unfold Hid nearN; rw [diffK_comm]
    obtain ⟨s, hs⟩ : ∃ s, s = stdN k := ⟨_, rfl⟩
    obtain ⟨bst, hbst⟩ : ∃ bst, bst = nearK r k := ⟨_, rfl⟩
    have HSTD := Lib.hid (sStandardRules_c k hk wr)
    have HCELL := Lib.hid (fun (W : World) (h : NrSt w W r (w.heap.size + 1) k) => std_cell h.nx hk)
    rw [← hs] at HSTD q0 HN HCELL
    rw [← hbst] at HN ⊢
    obtain ⟨b1, b2⟩ := bst
    obtain ⟨ls, hls⟩ : ∃ ls, ls = (if k = 0 then 0 else b2) := ⟨_, rfl⟩
    rw [← hls]
    have HLS := Lib.hid hls
    clear hs hbst hls
    go_wp2_with fail
    refine HSTD.out.mono ?_
    rintro e wA ⟨rfl, hbA⟩
    have F1 := (((Fr.from HST.out.below).box HST.out.rx hrl).step hbA).alloc (stdR k).cells 25
    have HDF := Lib.hid (l03Different_c w.heap.size 0 wA.heap.size 0 r (stdR k) _ (R.boxc (F1.at 1 rfl)) (R.boxc (F1.at 0 rfl)))
    have HB1 : Hid (Below wr.heap.size wr (wA.alloc (.cells (stdR k).cells 25))) := below_next hbA (below_alloc1 _ _)
    clear hbA F1 c0 c1 c2 c3 c4 c5 c6 c7 c8 q0
    go_wp2_with fail
    refine HDF.out.mono ?_
    rintro e wB ⟨ad, cc, rfl, hoB, hbB⟩
    have HB : Hid (Below wr.heap.size wr wB) := below_next HB1.out hbB
    have HNX := Lib.hid (HST.out.next HB.out hk)
    have q0 := HCELL.out wB ⟨HST.out.kl, HNX.out.nx, HNX.out.rx, HNX.out.below⟩
    have hgl2 : w.heap.size + 1 < wB.heap.size := World.block_lt_of_cell? wB _ q0
    have hnn := HNN.out
    obtain ⟨n, hn⟩ : ∃ n, n = nearN r k := ⟨_, rfl⟩
    rw [← hn] at hnn HN
    obtain ⟨len, hlen⟩ : ∃ len, len = (diffK r (stdR k) 9).length := ⟨_, rfl⟩
    rw [← hlen] at hnn ⊢
    have hln : (len : Int) = n := hnn
    clear hbB hoB hn hlen hnn HDF HB1
    subst hln
    by_cases hk0 : k = 0
    · have hk0' : ((k : Int) == 0) = true := by simp; omega
      have HK : Hid (nearK r (k + 1) = (s, (len : Int))) := by unfold Hid; rw [HN.out, if_pos (.inl hk0)]
      clear hk0
      go_wp2
      go_roundw
      case rel => exact ⟨k + 1, by go_num, by rw [HK.out], by rw [if_neg (by omega), HK.out], HNX.out⟩
      case measure => (simp [intOf]; omega)
    · have hk0' : ((k : Int) == 0) = false := by simp; omega
      have HLB : Hid (ls = b2) := HLS.out.trans (if_neg hk0)
      have hlb := HLB.out
      subst hlb
      by_cases hl2 : (len : Int) < ls
      · have HK : Hid (nearK r (k + 1) = (s, (len : Int))) := by unfold Hid; rw [HN.out, if_pos (.inr hl2)]
        clear hk0
        go_wp2
        go_roundw
        case rel => exact ⟨k + 1, by go_num, by rw [HK.out], by rw [if_neg (by omega), HK.out], HNX.out⟩
        case measure => (simp [intOf]; omega)
      · have HK : Hid (nearK r (k + 1) = (b1, ls)) := by unfold Hid; rw [HN.out, if_neg (fun e => by rcases e with e | e; exact hk0 e; exact hl2 e)]
        clear hk0
        go_wp2
        go_roundw
        case rel => exact ⟨k + 1, by go_num, by rw [HK.out], by rw [if_neg (by omega), HK.out], HNX.out⟩
        case measure => (simp [intOf]; omega)


end Go.Proofs.Ytbjdfgfebepacaa
