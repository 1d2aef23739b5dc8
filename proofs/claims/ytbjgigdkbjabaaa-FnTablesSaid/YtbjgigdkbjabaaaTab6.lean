/- Tab6: rows of a table, sorted: in plain terms, and the program's comparison. Each contract holds for every argument, under the premises that it states. -/
import Derived.Test.YtbjgigdkbjabaaaTab5
namespace Go.Proofs.Ytbjgigdkbjabaaa
set_option linter.unusedSimpArgs false
set_option linter.unusedVariables false
set_option linter.unnecessarySimpa false
open Go.RowKit Go.ChangeShapes Go.WideShapes Go.ChangeAt Go.Joins

/-! ### in plain terms -/
/-- the place in front of which a row is put, from place j on downward -/
def posGo (x : Rw) (S : List Rw) : Nat → Nat
  | 0 => 0
  | j + 1 => if betterR x (S.getD j Rw.nil) = true then posGo x S j else j + 1
def insR (x : Rw) (S : List Rw) : List Rw := S.take (posGo x S S.length) ++ x :: S.drop (posGo x S S.length)
def srtR (l : List Rw) : List Rw := l.foldl (fun S x => insR x S) []
theorem posGo_le (x : Rw) (S : List Rw) : ∀ j, posGo x S j ≤ j
  | 0 => Nat.le_refl _
  | j + 1 => by
    unfold posGo
    split
    · exact Nat.le_succ_of_le (posGo_le x S j)
    · exact Nat.le_refl _
theorem insR_len (x : Rw) (S : List Rw) : (insR x S).length = S.length + 1 := by
  have := posGo_le x S S.length
  simp [insR]
  omega
theorem srt_step {l : List Rw} {i : Nat} (hi : i < l.length) : srtR (l.take (i + 1)) = insR l[i] (srtR (l.take i)) := by
  rw [List.take_succ_eq_append_getElem hi]
  unfold srtR
  rw [List.foldl_append]
  rfl
theorem srt_len : ∀ (l : List Rw) (i : Nat), i ≤ l.length → (srtR (l.take i)).length = i
  | l, 0, _ => rfl
  | l, i + 1, h => by rw [srt_step (by omega), insR_len, srt_len l i (by omega)]
theorem insR_mem {x : Rw} {S : List Rw} : ∀ y ∈ insR x S, y = x ∨ y ∈ S := by
  intro y hy
  unfold insR at hy
  rcases List.mem_append.1 hy with h | h
  · exact .inr (List.mem_of_mem_take h)
  · rcases List.mem_cons.1 h with h | h
    · exact .inl h
    · exact .inr (List.mem_of_mem_drop h)
theorem srt_mem : ∀ (l : List Rw) (i : Nat), i ≤ l.length → ∀ y ∈ srtR (l.take i), y ∈ l
  | l, 0, _, y, hy => by simp [srtR] at hy
  | l, i + 1, h, y, hy => by
    rw [srt_step (by omega)] at hy
    rcases insR_mem y hy with rfl | hy
    · exact List.getElem_mem _
    · exact srt_mem l i (by omega) y hy
/-- a row on its way down -/
def midL (S : List Rw) (x : Rw) (j : Nat) (R : List Rw) : List Rw := (S.take j ++ x :: S.drop j) ++ R
theorem midL_len {S : List Rw} {x : Rw} {j : Nat} {R : List Rw} (hj : j ≤ S.length) : (midL S x j R).length = S.length + 1 + R.length := by
  simp [midL]
  omega
theorem midL_at {S : List Rw} {x : Rw} {j : Nat} {R : List Rw} (hj : j ≤ S.length) : (midL S x j R)[j]? = some x := by
  unfold midL
  rw [List.getElem?_append_left (by simp; omega), List.getElem?_append_right (by simp; omega)]
  simp
  rw [show j - min j S.length = 0 by omega]
  rfl
theorem midL_pred {S : List Rw} {x : Rw} {j : Nat} {R : List Rw} (hj : j < S.length) : (midL S x (j + 1) R)[j]? = some S[j] := by
  unfold midL
  rw [List.getElem?_append_left (by simp; omega), List.getElem?_append_left (by simp; omega), List.getElem?_take_of_lt (by omega), List.getElem?_eq_getElem hj]
theorem midL_swap {S : List Rw} {x : Rw} {j : Nat} {R : List Rw} (hj : j < S.length) : ((midL S x (j + 1) R).set (j + 1) S[j]).set j x = midL S x j R := by
  have e1 : S.take (j + 1) = S.take j ++ [S[j]] := List.take_succ_eq_append_getElem hj
  have e2 : S.drop j = S[j] :: S.drop (j + 1) := List.drop_eq_getElem_cons hj
  have hA : (S.take j).length = j := by simp; omega
  unfold midL
  rw [e1, e2]
  generalize S.take j = A at hA
  generalize S.drop (j + 1) = B
  generalize S[j] = b
  simp only [List.append_assoc, List.cons_append, List.nil_append]
  rw [List.set_append_right _ _ (by omega), hA, show j + 1 - j = 0 + 1 by omega, List.set_cons_succ, List.set_cons_zero, List.set_append_right _ _ (by omega), hA, Nat.sub_self, List.set_cons_zero]
theorem midL_start {l : List Rw} {i : Nat} (hi : i < l.length) : srtR (l.take i) ++ l.drop i = midL (srtR (l.take i)) l[i] i (l.drop (i + 1)) := by
  unfold midL
  have h := srt_len l i (by omega)
  rw [show (srtR (l.take i)).take i = srtR (l.take i) from List.take_of_length_le (by omega), show (srtR (l.take i)).drop i = [] from List.drop_eq_nil_of_le (by omega), List.drop_eq_getElem_cons hi]
  simp
theorem midL_done {l : List Rw} {i : Nat} (hi : i < l.length) : midL (srtR (l.take i)) l[i] (posGo l[i] (srtR (l.take i)) i) (l.drop (i + 1)) = srtR (l.take (i + 1)) ++ l.drop (i + 1) := by
  have h := srt_len l i (by omega)
  rw [srt_step hi]
  unfold midL insR
  rw [h]
theorem rw_store {w : World} {lo hi g c : Nat} {l : List Rw} (h : PcsP lo hi (rwRL.pcs (some ⟨g, 0, none⟩) c l) w) {k : Nat} (hk : k < l.length) (y : Rw) :
    PcsP lo hi (rwRL.pcs (some ⟨g, 0, none⟩) c (l.set k y)) (w.setCells g (k * 6) y.cells.toList) ∧ Chg lo hi w (w.setCells g (k * 6) y.cells.toList) := by
  obtain ⟨yi, yp, yw, yg, ya, ys⟩ := y
  obtain ⟨x, hx⟩ : ∃ x, l[k]? = some x := ⟨_, List.getElem?_eq_getElem hk⟩
  obtain ⟨xi, xp, xw, xg, xa, xs⟩ := x
  obtain ⟨h1, g1⟩ := rw_field h (i := 0) (v := .int .i64 yi) (x' := ⟨yi, xp, xw, xg, xa, xs⟩) hx (by decide) rfl
  obtain ⟨h2, g2⟩ := rw_field h1 (i := 1) (v := .int .i64 yp) (x' := ⟨yi, yp, xw, xg, xa, xs⟩) (List.getElem?_set_self hk) (by decide) rfl
  rw [List.set_set] at h2
  obtain ⟨h3, g3⟩ := rw_field h2 (i := 2) (v := .int .i64 yw) (x' := ⟨yi, yp, yw, xg, xa, xs⟩) (List.getElem?_set_self hk) (by decide) rfl
  rw [List.set_set] at h3
  obtain ⟨h4, g4⟩ := rw_field h3 (i := 3) (v := .int .i64 yg) (x' := ⟨yi, yp, yw, yg, xa, xs⟩) (List.getElem?_set_self hk) (by decide) rfl
  rw [List.set_set] at h4
  obtain ⟨h5, g5⟩ := rw_field h4 (i := 4) (v := .int .i64 ya) (x' := ⟨yi, yp, yw, yg, ya, xs⟩) (List.getElem?_set_self hk) (by decide) rfl
  rw [List.set_set] at h5
  obtain ⟨h6, g6⟩ := rw_field h5 (i := 5) (v := .int .i64 ys) (x' := ⟨yi, yp, yw, yg, ya, ys⟩) (List.getElem?_set_self hk) (by decide) rfl
  rw [List.set_set] at h6
  have e : w.setCells g (k * 6) (Rw.cells ⟨yi, yp, yw, yg, ya, ys⟩).toList = ((((((w.setCell ⟨g, k * 6 + 0, none⟩ (.int .i64 yi)).setCell ⟨g, k * 6 + 1, none⟩ (.int .i64 yp)).setCell ⟨g, k * 6 + 2, none⟩ (.int .i64 yw)).setCell ⟨g, k * 6 + 3, none⟩ (.int .i64 yg)).setCell ⟨g, k * 6 + 4, none⟩ (.int .i64 ya)).setCell ⟨g, k * 6 + 5, none⟩ (.int .i64 ys)) := by
    simp [World.setCells, Rw.cells, Nat.add_assoc]
  rw [e]
  exact ⟨h6, ((((g1.trans g2).trans g3).trans g4).trans g5).trans g6⟩

theorem lessC_keep {w w' : World} {ob g n c j k : Nat} {x y : Rw} (hb : Below w.heap.size w w') (h : w.cell? ⟨ob, 0, none⟩ = some (.slice (some ⟨g, 0, none⟩) n c) ∧ (w.cell? ⟨g, j * 6, none⟩ = some (.int .i64 x.player) ∧ w.cell? ⟨g, j * 6 + 1, none⟩ = some (.int .i64 x.points) ∧ w.cell? ⟨g, j * 6 + 2, none⟩ = some (.int .i64 x.wins) ∧ w.cell? ⟨g, j * 6 + 3, none⟩ = some (.int .i64 x.games) ∧ w.cell? ⟨g, j * 6 + 4, none⟩ = some (.int .i64 x.against) ∧ w.cell? ⟨g, j * 6 + 5, none⟩ = some (.int .i64 x.strength)) ∧ (w.cell? ⟨g, k * 6, none⟩ = some (.int .i64 y.player) ∧ w.cell? ⟨g, k * 6 + 1, none⟩ = some (.int .i64 y.points) ∧ w.cell? ⟨g, k * 6 + 2, none⟩ = some (.int .i64 y.wins) ∧ w.cell? ⟨g, k * 6 + 3, none⟩ = some (.int .i64 y.games) ∧ w.cell? ⟨g, k * 6 + 4, none⟩ = some (.int .i64 y.against) ∧ w.cell? ⟨g, k * 6 + 5, none⟩ = some (.int .i64 y.strength))) : w'.cell? ⟨ob, 0, none⟩ = some (.slice (some ⟨g, 0, none⟩) n c) ∧ (w'.cell? ⟨g, j * 6, none⟩ = some (.int .i64 x.player) ∧ w'.cell? ⟨g, j * 6 + 1, none⟩ = some (.int .i64 x.points) ∧ w'.cell? ⟨g, j * 6 + 2, none⟩ = some (.int .i64 x.wins) ∧ w'.cell? ⟨g, j * 6 + 3, none⟩ = some (.int .i64 x.games) ∧ w'.cell? ⟨g, j * 6 + 4, none⟩ = some (.int .i64 x.against) ∧ w'.cell? ⟨g, j * 6 + 5, none⟩ = some (.int .i64 x.strength)) ∧ (w'.cell? ⟨g, k * 6, none⟩ = some (.int .i64 y.player) ∧ w'.cell? ⟨g, k * 6 + 1, none⟩ = some (.int .i64 y.points) ∧ w'.cell? ⟨g, k * 6 + 2, none⟩ = some (.int .i64 y.wins) ∧ w'.cell? ⟨g, k * 6 + 3, none⟩ = some (.int .i64 y.games) ∧ w'.cell? ⟨g, k * 6 + 4, none⟩ = some (.int .i64 y.against) ∧ w'.cell? ⟨g, k * 6 + 5, none⟩ = some (.int .i64 y.strength)) := by
  have hob : ob < w.heap.size := World.block_lt_of_cell? w _ h.1
  have hg : g < w.heap.size := World.block_lt_of_cell? w _ h.2.1.1
  have hc := (bcell hb).1
  obtain ⟨h0, ⟨a0, a1, a2, a3, a4, a5⟩, b0, b1, b2, b3, b4, b5⟩ := h
  exact ⟨(hc _ _ hob).trans h0, ⟨(hc _ _ hg).trans a0, (hc _ _ hg).trans a1, (hc _ _ hg).trans a2, (hc _ _ hg).trans a3, (hc _ _ hg).trans a4, (hc _ _ hg).trans a5⟩, (hc _ _ hg).trans b0, (hc _ _ hg).trans b1, (hc _ _ hg).trans b2, (hc _ _ hg).trans b3, (hc _ _ hg).trans b4, (hc _ _ hg).trans b5⟩
set_option maxRecDepth 100000 in
set_option maxHeartbeats 8000000 in
theorem lessC_c (lo hi ob g c j k : Nat) (l : List Rw) (x y : Rw) (w : World) (h : RsSt w lo hi ob g c l) (hx : l[j]? = some x) (hy : l[k]? = some y) :
    Calls Try.prog 93 (#[.int .i64 j, .int .i64 k] ++ capR ob) w fun e w' => e = .returned (.bool (betterR x y)) ∧ Below w.heap.size w w' := by
  have hjl : j < l.length := (List.getElem?_eq_some_iff.1 hx).1
  have hkl : k < l.length := (List.getElem?_eq_some_iff.1 hy).1
  have hjI : (j : Int) < (l.length : Int) := by omega
  have hkI : (k : Int) < (l.length : Int) := by omega
  have hc := rw_cells h.pc hx
  have hd := rw_cells h.pc hy
  have HS := Lib.hid (And.intro h.c0 (And.intro hc hd))
  clear h hx hy hc hd hjl hkl
  show Calls Try.prog 93 #[.int .i64 j, .int .i64 k, .pointer (some ⟨ob, 0, none⟩)] w _
  go_enter Try.func93, Try.ntmps93
  go_wp2_with fail
  refine heldH (S := fun V => V.cell? ⟨ob, 0, none⟩ = some (.slice (some ⟨g, 0, none⟩) l.length c) ∧ (V.cell? ⟨g, j * 6, none⟩ = some (.int .i64 x.player) ∧ V.cell? ⟨g, j * 6 + 1, none⟩ = some (.int .i64 x.points) ∧ V.cell? ⟨g, j * 6 + 2, none⟩ = some (.int .i64 x.wins) ∧ V.cell? ⟨g, j * 6 + 3, none⟩ = some (.int .i64 x.games) ∧ V.cell? ⟨g, j * 6 + 4, none⟩ = some (.int .i64 x.against) ∧ V.cell? ⟨g, j * 6 + 5, none⟩ = some (.int .i64 x.strength)) ∧ (V.cell? ⟨g, k * 6, none⟩ = some (.int .i64 y.player) ∧ V.cell? ⟨g, k * 6 + 1, none⟩ = some (.int .i64 y.points) ∧ V.cell? ⟨g, k * 6 + 2, none⟩ = some (.int .i64 y.wins) ∧ V.cell? ⟨g, k * 6 + 3, none⟩ = some (.int .i64 y.games) ∧ V.cell? ⟨g, k * 6 + 4, none⟩ = some (.int .i64 y.against) ∧ V.cell? ⟨g, k * 6 + 5, none⟩ = some (.int .i64 y.strength))) (n := 10) (listed := #[false, false, false, false, false, false, false, false, false, false]) (by kernel_rfl) (by rfl) (by rfl) ?_ (fun hHeld => ?_)
  (focus ((try dsimp only); (first | done | ((first | exact HS3.out | exact HS.out); done))))
  (refine takeH (i := 0) (v := ?_) (by decide +kernel) (by decide +kernel) (by kernel_rfl) (by rfl) (by exact fun _ _ _ h => h) (by rfl) ?_ (by assumption) ?_); rotate_left; (focus (intro w hSw; (try dsimp only at hSw); go_simp; (try with_reducible rfl); done)); (try simp only [Act.put, List.setIfInBounds_toArray, List.set_cons_zero, List.set_cons_succ])
  (refine takeH (i := 1) (v := ?_) (by decide +kernel) (by decide +kernel) (by kernel_rfl) (by rfl) (by exact fun _ _ _ h => h) (by rfl) ?_ (by assumption) ?_); rotate_left; (focus (intro w hSw; (try dsimp only at hSw); go_simp; (try with_reducible rfl); done)); (try simp only [Act.put, List.setIfInBounds_toArray, List.set_cons_zero, List.set_cons_succ])
  (refine takeH (i := 2) (v := ?_) (by decide +kernel) (by decide +kernel) (by kernel_rfl) (by rfl) (by exact fun _ _ _ h => h) (by rfl) ?_ (by assumption) ?_); rotate_left; (focus (intro w hSw; (try dsimp only at hSw); go_simp; (try with_reducible rfl); done)); (try simp only [Act.put, List.setIfInBounds_toArray, List.set_cons_zero, List.set_cons_succ])
  (refine takeH (i := 3) (v := ?_) (by decide +kernel) (by decide +kernel) (by kernel_rfl) (by rfl) (by exact fun _ _ _ h => h) (by rfl) ?_ (by assumption) ?_); rotate_left; (focus (intro w hSw; (try dsimp only at hSw); go_simp; (try with_reducible rfl); done)); (try simp only [Act.put, List.setIfInBounds_toArray, List.set_cons_zero, List.set_cons_succ])
  (refine takeH (i := 4) (v := ?_) (by decide +kernel) (by decide +kernel) (by kernel_rfl) (by rfl) (by exact fun _ _ _ h => h) (by rfl) ?_ (by assumption) ?_); rotate_left; (focus (intro w hSw; (try dsimp only at hSw); go_simp; (try with_reducible rfl); done)); (try simp only [Act.put, List.setIfInBounds_toArray, List.set_cons_zero, List.set_cons_succ])
  (refine takeH (i := 5) (v := ?_) (by decide +kernel) (by decide +kernel) (by kernel_rfl) (by rfl) (by exact fun _ _ _ h => h) (by rfl) ?_ (by assumption) ?_); rotate_left; (focus (intro w hSw; (try dsimp only at hSw); go_simp; (try with_reducible rfl); done)); (try simp only [Act.put, List.setIfInBounds_toArray, List.set_cons_zero, List.set_cons_succ])
  (refine takeH (i := 6) (v := ?_) (by decide +kernel) (by decide +kernel) (by kernel_rfl) (by rfl) (by exact fun _ _ _ h => h) (by rfl) ?_ (by assumption) ?_); rotate_left; (focus (intro w hSw; (try dsimp only at hSw); go_simp; (try with_reducible rfl); done)); (try simp only [Act.put, List.setIfInBounds_toArray, List.set_cons_zero, List.set_cons_succ])
  (refine takeH (i := 7) (v := ?_) (by decide +kernel) (by decide +kernel) (by kernel_rfl) (by rfl) (by exact fun _ _ _ h => h) (by rfl) ?_ (by assumption) ?_); rotate_left; (focus (intro w hSw; (try dsimp only at hSw); go_simp; (try with_reducible rfl); done)); (try simp only [Act.put, List.setIfInBounds_toArray, List.set_cons_zero, List.set_cons_succ])
  refine nextH (i := 8) (by decide +kernel) (by rfl) (by rfl) (fun K hK => ?_)
  (go_simp; go_at_call 94; (refine (better_c x y _).mono ?_); (rintro e w3 ⟨rfl, hb3⟩); (have HB3 := Lib.hid (below_next (Below.refl w.heap.size w).drew hb3)); (have HS3 := Lib.hid (lessC_keep HB3.out HS.out)))
  refine hK.out _ _ ?_ (fun hHeld' => ?_)
  (focus ((try dsimp only); (first | done | ((first | exact HS3.out | exact HS.out); done))))
  clear hK K hHeld
  have hHeld := hHeld'
  clear hHeld'
  (try simp only [Act.put, List.setIfInBounds_toArray, List.set_cons_zero, List.set_cons_succ])
  (refine takeH (i := 9) (v := ?_) (by decide +kernel) (by decide +kernel) (by kernel_rfl) (by rfl) (by exact fun _ _ _ h => h) (by rfl) ?_ (by assumption) ?_); rotate_left; (focus (intro w hSw; (try dsimp only at hSw); go_simp; (try with_reducible rfl); done)); (try simp only [Act.put, List.setIfInBounds_toArray, List.set_cons_zero, List.set_cons_succ])
  refine wpAnyH_done (by decide +kernel) ?_ _
  clear hHeld
  go_wp2
  go_ret
  exact ⟨rfl, HB3.out⟩

end Go.Proofs.Ytbjgigdkbjabaaa
