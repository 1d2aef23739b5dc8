/- SlimD: rules and positions that are drawn (printed by gen/slimd.py out of other texts). Each contract holds for every argument, under the premises that it states. -/
import Derived.Test.YtenjffoboiohnaaDoorSets
import Derived.Test.YtenjffoboiohnaaDoorStart
import Derived.Test.YtenjffoboiohnaaDoorSlimT
import Derived.Test.YtenjffoboiohnaaDoorOwn
namespace Go.Proofs.YtenjffoboiohnaaDoor
set_option linter.unusedSimpArgs false
set_option linter.unusedVariables false
set_option linter.unnecessarySimpa false
open Go.RowKit Go.ChangeShapes Go.WideShapes Go.ChangeAt Go.Joins

def stdNames : List ByteArray := [⟨#[107, 97, 108, 97, 104]⟩, ⟨#[109, 105, 110, 105]⟩, ⟨#[111, 119, 97, 114, 101]⟩, ⟨#[114, 101, 108, 97, 121]⟩]
def stdList : List R := [⟨6, 4, true, false, false, false, true, 2, 0⟩, ⟨3, 2, false, false, false, true, false, 1, 0⟩, ⟨6, 4, false, true, false, true, false, 1, 2⟩, ⟨4, 2, false, false, true, false, false, 2, 0⟩]
def stdR (k : Nat) : R := stdList.getD k ⟨0, 0, false, false, false, false, false, 0, 0⟩
def stdN (k : Nat) : ByteArray := stdNames.getD k ⟨#[]⟩
set_option maxHeartbeats 4000000 in
theorem sStandardRules_c (k : Nat) (hk : k < 4) (w : World) : Calls Tryd.prog 32 #[.string (stdN k)] w fun e w' => e = .returned (.tuple #[(stdR k).val, .int .i64 0]) ∧ Below w.heap.size w w' := by
  have hB : ∀ (a b c d e f g i j : Value), Below w.heap.size w (w.alloc (.cells #[a, b, c, d, e, f, g, i, j] 25)) := fun _ _ _ _ _ _ _ _ _ => below_alloc1 _ _
  match k, hk with
  | 0, _ | 1, _ | 2, _ | 3, _ =>
    simp only [stdN, stdNames, stdR, stdList, List.getD_cons_zero, List.getD_cons_succ]
    go_enter Tryd.func32, Tryd.ntmps32
    go_wp2
    refine bodyPost_ret ?_ rfl ⟨rfl, hB _ _ _ _ _ _ _ _ _⟩
    simp [results, Tryd.results32, go_sem, R.val, R.cells]
set_option maxHeartbeats 1000000 in
theorem sStandardNames_c (w : World) : Calls Tryd.prog 34 #[] w fun e w' => e = .returned (.slice (some ⟨w.heap.size, 0, none⟩) 4 4) ∧ w' = w.alloc (.cells (stdNames.map Value.string).toArray 9) := by
  go_enter Tryd.func34, Tryd.ntmps34
  go_wp2
  go_ret
  exact ⟨rfl, rfl⟩
theorem Chg.setNew {lo hi : Nat} {w w' : World} (h : Chg lo hi w w') (p : Addr) (hp : w.heap.size ≤ p.block) (v : Value) : Chg lo hi w (w'.setCell p v) :=
  ⟨h.os, h.tape, h.output, by simpa using h.size, fun k hk hn => (Below.heap_setCell _ _ _ k (by omega)).trans (h.block k hk hn)⟩
theorem Chg.step {lo hi : Nat} {a b c : World} (h : Chg lo hi a b) (hb : Below b.heap.size b c) : Chg lo hi a c := h.trans (Chg.ofBelow hb)
theorem SrcP.set {base b m : Nat} {w : World} (h : SrcP base b m w) (p : Addr) (hp : base ≤ p.block) (hne : p.block ≠ b) (ho : p.spot = none) (v : Value) : SrcP base b m (w.setCell p v) :=
  h.chg (lo := p.block) (hi := p.block + 1) ⟨rfl, rfl, rfl, by simp, fun k hk hn => Below.heap_setCell _ _ _ k (by omega)⟩ hp (by omega)
theorem SrcP.allocN {base b m : Nat} {w : World} (h : SrcP base b m w) (xs : Array Value) (t : TypeId) : SrcP base b m (w.alloc (.cells xs t)) := h.below (below_alloc1 _ _)
theorem Chg.allocN {lo hi : Nat} {w w' : World} (h : Chg lo hi w w') (xs : Array Value) (t : TypeId) : Chg lo hi w (w'.alloc (.cells xs t)) := h.step (below_alloc1 _ _)
theorem cell_chg {lo hi g : Nat} {w w' : World} (h : Chg lo hi w w') (hg : g < w.heap.size) (hn : g < lo ∨ hi ≤ g) : (∀ o, w'.cell? ⟨g, o, none⟩ = w.cell? ⟨g, o, none⟩) ∧ (∀ o, w'.frozen? ⟨g, o, none⟩ = w.frozen? ⟨g, o, none⟩) :=
  ⟨fun o => World.cell?_of_block (w := w) (h.block g hg hn), fun o => World.frozen?_of_block (w := w) (h.block g hg hn)⟩

theorem l00From_c (base : Nat) (ca : Option Addr) (cc : Nat) (bs : List Int) (w : World) (h : ByteP base ca bs w) (hb : base ≤ w.heap.size) :
    Calls Tryd.prog 14 #[.slice ca bs.length cc] w fun e w' => e = .returned (.pointer (some ⟨w.heap.size, 0, none⟩)) ∧ SrcP base w.heap.size 0 w' ∧ Below w.heap.size w w' := by
  go_enter Tryd.func14, Tryd.ntmps14
  go_wp2
  go_ret
  have hB := below_alloc1 w (.cells #[.slice ca bs.length cc, .int .i64 0, .int .u64 0] 66)
  exact ⟨rfl, ⟨ca, cc, bs, 0, 0, h.keep (fun k hk => hB.block k (by omega)), Bx.alloc w _ _ rfl, by omega, by omega, hb⟩, hB⟩

/-- rules as they are drawn -/
def R.drawn (r : R) : Prop := r.ok = true ∧ r.pits ≤ 6 ∧ r.seeds ≤ 4
theorem std_drawn (k : Nat) (hk : k < 4) : (stdR k).drawn := by
  match k, hk with
  | 0, _ | 1, _ | 2, _ | 3, _ => exact ⟨by decide, by decide, by decide⟩
set_option maxRecDepth 100000 in
set_option maxHeartbeats 16000000 in
theorem l02Draw_c (base b m : Nat) (w : World) (h : SrcP base b m w) (hm : m ≤ 10000000) (hB : base ≤ b) (hbl : b < w.heap.size) :
    Calls Tryd.prog 15 #[.pointer (some ⟨b, 0, none⟩)] w fun e w' => ∃ r : R, e = .returned r.val ∧ r.drawn ∧ SrcP base b (m + 40) w' ∧ Chg b (b + 1) w w' := by
  have S0 := Lib.hid (h.below (below_alloc1 w (.cells #[.int .i64 0, .int .i64 0, .bool false, .bool false, .bool false, .bool false, .bool false, .int .i64 0, .int .i64 0] 25)))
  clear h
  go_enter Tryd.func15, Tryd.ntmps15
  go_wp2_with fail
  refine (one_c base b m 3 _ S0.out (by omega) (by omega)).mono ?_
  rintro e w1 ⟨v1, rfl, hs1, hc1⟩
  have S1 := Lib.hid hs1
  have z1 : w.heap.size < w1.heap.size := by have := hc1.size; simp at this; omega
  obtain ⟨hc, hf⟩ := cell_chg (g := w.heap.size) hc1 (by simp) (by omega)
  have C1 := Lib.hid ((Chg.ofBelow (lo := b) (hi := b + 1) (below_alloc1 w _)).trans hc1)
  clear hs1 hc1
  cases v1
  ·
    go_wp2_with fail
    refine (pick_c base b _ 4 _ S1.out (by omega) (by omega)).mono ?_
    rintro e w2 ⟨va, rfl, a0, a1, hs2, hc2⟩
    have S2 := Lib.hid hs2
    have C2 := Lib.hid (C1.out.trans hc2)
    have z2 : w.heap.size < w2.heap.size := Nat.lt_of_lt_of_le z1 hc2.size
    obtain ⟨hc', hf'⟩ := cell_chg (g := w.heap.size) hc2 (by omega) (by omega)
    clear hs2 hc2 S1 C1
    go_wp2_with fail
    refine (pick_c base b _ 4 _ S2.out (by omega) (by omega)).mono ?_
    rintro e w3 ⟨vb, rfl, b0, b1, hs3, hc3⟩
    have S3 := Lib.hid hs3
    have C3 := Lib.hid (C2.out.trans hc3)
    have z3 : w.heap.size < w3.heap.size := Nat.lt_of_lt_of_le z2 hc3.size
    obtain ⟨hd', hg'⟩ := cell_chg (g := w.heap.size) hc3 (by omega) (by omega)
    clear hs3 hc3 S2 C2
    have S3 : Hid (SrcP base b (m + 6) w3) := S3
    have n1 : ¬ w.heap.size = w3.heap.size := by omega
    have n2 : ¬ w3.heap.size = w.heap.size := by omega
    have nb : ¬ w3.heap.size = b := by omega
    go_wp2_with fail
    go_wp2_with fail
    refine (one_c base b (m + 6) 2 _ (by (have k0 := S3.out; repeat (first | (with_reducible exact k0) | ((with_reducible refine SrcP.set ?_ _ ?_ ?_ rfl _); rotate_left; (simp; omega); (simp; omega)) | (with_reducible refine SrcP.allocN ?_ _ _)))) (by omega) (by omega)).mono ?_
    rintro e w4 ⟨v2, rfl, hs4, hc4⟩
    have S4 : Hid (SrcP base b (m + 8) w4) := Lib.hid hs4
    have zz := hc4.size
    (try simp only [World.size_setCell, World.size_alloc] at zz)
    have C4 := Lib.hid (Chg.trans (a := w) (by (have k0 := C3.out; repeat (first | (with_reducible exact k0) | ((with_reducible refine Chg.setNew ?_ _ ?_ _); rotate_left; (simp <;> omega)) | (with_reducible refine Chg.allocN ?_ _ _)))) hc4)
    have y4 : w3.heap.size < w4.heap.size := by omega
    have x4 : w.heap.size < w4.heap.size := by omega
    obtain ⟨pc4, pf4⟩ := cell_chg (g := w3.heap.size) hc4 (by simp <;> omega) (by omega)
    obtain ⟨qc4, qf4⟩ := cell_chg (g := w.heap.size) hc4 (by simp <;> omega) (by omega)
    clear hs4 hc4 zz
    go_wp2_with fail
    refine (one_c base b (m + 8) 2 _ (by (have k0 := S4.out; repeat (first | (with_reducible exact k0) | ((with_reducible refine SrcP.set ?_ _ ?_ ?_ rfl _); rotate_left; (simp; omega); (simp; omega)) | (with_reducible refine SrcP.allocN ?_ _ _)))) (by omega) (by omega)).mono ?_
    rintro e w5 ⟨v3, rfl, hs5, hc5⟩
    have S5 : Hid (SrcP base b (m + 10) w5) := Lib.hid hs5
    have zz := hc5.size
    (try simp only [World.size_setCell, World.size_alloc] at zz)
    have C5 := Lib.hid (Chg.trans (a := w) (by (have k0 := C4.out; repeat (first | (with_reducible exact k0) | ((with_reducible refine Chg.setNew ?_ _ ?_ _); rotate_left; (simp <;> omega)) | (with_reducible refine Chg.allocN ?_ _ _)))) hc5)
    have y5 : w3.heap.size < w5.heap.size := by omega
    have x5 : w.heap.size < w5.heap.size := by omega
    obtain ⟨pc5, pf5⟩ := cell_chg (g := w3.heap.size) hc5 (by simp <;> omega) (by omega)
    obtain ⟨qc5, qf5⟩ := cell_chg (g := w.heap.size) hc5 (by simp <;> omega) (by omega)
    clear hs5 hc5 zz
    go_wp2_with fail
    refine (one_c base b (m + 10) 4 _ (by (have k0 := S5.out; repeat (first | (with_reducible exact k0) | ((with_reducible refine SrcP.set ?_ _ ?_ ?_ rfl _); rotate_left; (simp; omega); (simp; omega)) | (with_reducible refine SrcP.allocN ?_ _ _)))) (by omega) (by omega)).mono ?_
    rintro e w6 ⟨v4, rfl, hs6, hc6⟩
    have S6 : Hid (SrcP base b (m + 12) w6) := Lib.hid hs6
    have zz := hc6.size
    (try simp only [World.size_setCell, World.size_alloc] at zz)
    have C6 := Lib.hid (Chg.trans (a := w) (by (have k0 := C5.out; repeat (first | (with_reducible exact k0) | ((with_reducible refine Chg.setNew ?_ _ ?_ _); rotate_left; (simp <;> omega)) | (with_reducible refine Chg.allocN ?_ _ _)))) hc6)
    have y6 : w3.heap.size < w6.heap.size := by omega
    have x6 : w.heap.size < w6.heap.size := by omega
    obtain ⟨pc6, pf6⟩ := cell_chg (g := w3.heap.size) hc6 (by simp <;> omega) (by omega)
    obtain ⟨qc6, qf6⟩ := cell_chg (g := w.heap.size) hc6 (by simp <;> omega) (by omega)
    clear hs6 hc6 zz
    go_wp2_with fail
    refine (one_c base b (m + 12) 2 _ (by (have k0 := S6.out; repeat (first | (with_reducible exact k0) | ((with_reducible refine SrcP.set ?_ _ ?_ ?_ rfl _); rotate_left; (simp; omega); (simp; omega)) | (with_reducible refine SrcP.allocN ?_ _ _)))) (by omega) (by omega)).mono ?_
    rintro e w7 ⟨v5, rfl, hs7, hc7⟩
    have S7 : Hid (SrcP base b (m + 14) w7) := Lib.hid hs7
    have zz := hc7.size
    (try simp only [World.size_setCell, World.size_alloc] at zz)
    have C7 := Lib.hid (Chg.trans (a := w) (by (have k0 := C6.out; repeat (first | (with_reducible exact k0) | ((with_reducible refine Chg.setNew ?_ _ ?_ _); rotate_left; (simp <;> omega)) | (with_reducible refine Chg.allocN ?_ _ _)))) hc7)
    have y7 : w3.heap.size < w7.heap.size := by omega
    have x7 : w.heap.size < w7.heap.size := by omega
    obtain ⟨pc7, pf7⟩ := cell_chg (g := w3.heap.size) hc7 (by simp <;> omega) (by omega)
    obtain ⟨qc7, qf7⟩ := cell_chg (g := w.heap.size) hc7 (by simp <;> omega) (by omega)
    clear hs7 hc7 zz
    cases v2
    ·
      go_wp2_with fail
      refine (pick_c base b (m + 14) 4 _ (by (have k0 := S7.out; repeat (first | (with_reducible exact k0) | ((with_reducible refine SrcP.set ?_ _ ?_ ?_ rfl _); rotate_left; (simp; omega); (simp; omega)) | (with_reducible refine SrcP.allocN ?_ _ _)))) (by omega) (by omega)).mono ?_
      rintro e w8 ⟨v7, rfl, v70, v71, hs8, hc8⟩
      have S8 : Hid (SrcP base b (m + 16) w8) := Lib.hid hs8
      have zz := hc8.size
      (try simp only [World.size_setCell, World.size_alloc] at zz)
      have C8 := Lib.hid (Chg.trans (a := w) (by (have k0 := C7.out; repeat (first | (with_reducible exact k0) | ((with_reducible refine Chg.setNew ?_ _ ?_ _); rotate_left; (simp <;> omega)) | (with_reducible refine Chg.allocN ?_ _ _)))) hc8)
      have y8 : w3.heap.size < w8.heap.size := by omega
      have x8 : w.heap.size < w8.heap.size := by omega
      obtain ⟨pc8, pf8⟩ := cell_chg (g := w3.heap.size) hc8 (by simp <;> omega) (by omega)
      obtain ⟨qc8, qf8⟩ := cell_chg (g := w.heap.size) hc8 (by simp <;> omega) (by omega)
      clear hs8 hc8 zz
      go_wp2_with fail
      refine (pick_c base b (m + 16) 3 _ (by (have k0 := S8.out; repeat (first | (with_reducible exact k0) | ((with_reducible refine SrcP.set ?_ _ ?_ ?_ rfl _); rotate_left; (simp; omega); (simp; omega)) | (with_reducible refine SrcP.allocN ?_ _ _)))) (by omega) (by omega)).mono ?_
      rintro e w9 ⟨v8, rfl, v80, v81, hs9, hc9⟩
      have S9 : Hid (SrcP base b (m + 18) w9) := Lib.hid hs9
      have zz := hc9.size
      (try simp only [World.size_setCell, World.size_alloc] at zz)
      have C9 := Lib.hid (Chg.trans (a := w) (by (have k0 := C8.out; repeat (first | (with_reducible exact k0) | ((with_reducible refine Chg.setNew ?_ _ ?_ _); rotate_left; (simp <;> omega)) | (with_reducible refine Chg.allocN ?_ _ _)))) hc9)
      have y9 : w3.heap.size < w9.heap.size := by omega
      have x9 : w.heap.size < w9.heap.size := by omega
      obtain ⟨pc9, pf9⟩ := cell_chg (g := w3.heap.size) hc9 (by simp <;> omega) (by omega)
      obtain ⟨qc9, qf9⟩ := cell_chg (g := w.heap.size) hc9 (by simp <;> omega) (by omega)
      clear hs9 hc9 zz
      go_wp2_with fail
      refine bodyPost_ret (v := R.val ⟨2 + va, 1 + vb, false, v3, v4, v5, false, v7, v8⟩) (by simp [results, Tryd.results15, go_sem, hc, hf, hc', hf', hd', hg', z1, z2, z3, n1, n2, pc4, pf4, qc4, qf4, x4, y4, pc5, pf5, qc5, qf5, x5, y5, pc6, pf6, qc6, qf6, x6, y6, pc7, pf7, qc7, qf7, x7, y7, pc8, pf8, qc8, qf8, x8, y8, pc9, pf9, qc9, qf9, x9, y9]) rfl ⟨⟨2 + va, 1 + vb, false, v3, v4, v5, false, v7, v8⟩, rfl, ?_, ?_, ?_⟩
      · refine ⟨R.ok_iff.2 ⟨⟨?_, ?_⟩, ⟨?_, ?_⟩, ⟨?_, ?_⟩, ⟨?_, ?_⟩, ?_⟩, ?_, ?_⟩ <;> dsimp only <;> first | omega | rfl | simp
      · have k0 := S9.out.mono (show _ ≤ m + 40 by omega)
        repeat (first | (with_reducible exact k0) | ((with_reducible refine SrcP.set ?_ _ ?_ ?_ rfl _); rotate_left; (simp; omega); (simp; omega)) | (with_reducible refine SrcP.allocN ?_ _ _))
      · have k0 := C9.out
        repeat (first | (with_reducible exact k0) | ((with_reducible refine Chg.setNew ?_ _ ?_ _); rotate_left; (simp <;> omega)) | (with_reducible refine Chg.allocN ?_ _ _))
    ·
      go_wp2_with fail
      refine (one_c base b (m + 14) 2 _ (by (have k0 := S7.out; repeat (first | (with_reducible exact k0) | ((with_reducible refine SrcP.set ?_ _ ?_ ?_ rfl _); rotate_left; (simp; omega); (simp; omega)) | (with_reducible refine SrcP.allocN ?_ _ _)))) (by omega) (by omega)).mono ?_
      rintro e w8 ⟨v6, rfl, hs8, hc8⟩
      have S8 : Hid (SrcP base b (m + 16) w8) := Lib.hid hs8
      have zz := hc8.size
      (try simp only [World.size_setCell, World.size_alloc] at zz)
      have C8 := Lib.hid (Chg.trans (a := w) (by (have k0 := C7.out; repeat (first | (with_reducible exact k0) | ((with_reducible refine Chg.setNew ?_ _ ?_ _); rotate_left; (simp <;> omega)) | (with_reducible refine Chg.allocN ?_ _ _)))) hc8)
      have y8 : w3.heap.size < w8.heap.size := by omega
      have x8 : w.heap.size < w8.heap.size := by omega
      obtain ⟨pc8, pf8⟩ := cell_chg (g := w3.heap.size) hc8 (by simp <;> omega) (by omega)
      obtain ⟨qc8, qf8⟩ := cell_chg (g := w.heap.size) hc8 (by simp <;> omega) (by omega)
      clear hs8 hc8 zz
      go_wp2_with fail
      refine (pick_c base b (m + 16) 4 _ (by (have k0 := S8.out; repeat (first | (with_reducible exact k0) | ((with_reducible refine SrcP.set ?_ _ ?_ ?_ rfl _); rotate_left; (simp; omega); (simp; omega)) | (with_reducible refine SrcP.allocN ?_ _ _)))) (by omega) (by omega)).mono ?_
      rintro e w9 ⟨v7, rfl, v70, v71, hs9, hc9⟩
      have S9 : Hid (SrcP base b (m + 18) w9) := Lib.hid hs9
      have zz := hc9.size
      (try simp only [World.size_setCell, World.size_alloc] at zz)
      have C9 := Lib.hid (Chg.trans (a := w) (by (have k0 := C8.out; repeat (first | (with_reducible exact k0) | ((with_reducible refine Chg.setNew ?_ _ ?_ _); rotate_left; (simp <;> omega)) | (with_reducible refine Chg.allocN ?_ _ _)))) hc9)
      have y9 : w3.heap.size < w9.heap.size := by omega
      have x9 : w.heap.size < w9.heap.size := by omega
      obtain ⟨pc9, pf9⟩ := cell_chg (g := w3.heap.size) hc9 (by simp <;> omega) (by omega)
      obtain ⟨qc9, qf9⟩ := cell_chg (g := w.heap.size) hc9 (by simp <;> omega) (by omega)
      clear hs9 hc9 zz
      go_wp2_with fail
      refine (pick_c base b (m + 18) 3 _ (by (have k0 := S9.out; repeat (first | (with_reducible exact k0) | ((with_reducible refine SrcP.set ?_ _ ?_ ?_ rfl _); rotate_left; (simp; omega); (simp; omega)) | (with_reducible refine SrcP.allocN ?_ _ _)))) (by omega) (by omega)).mono ?_
      rintro e w10 ⟨v8, rfl, v80, v81, hs10, hc10⟩
      have S10 : Hid (SrcP base b (m + 20) w10) := Lib.hid hs10
      have zz := hc10.size
      (try simp only [World.size_setCell, World.size_alloc] at zz)
      have C10 := Lib.hid (Chg.trans (a := w) (by (have k0 := C9.out; repeat (first | (with_reducible exact k0) | ((with_reducible refine Chg.setNew ?_ _ ?_ _); rotate_left; (simp <;> omega)) | (with_reducible refine Chg.allocN ?_ _ _)))) hc10)
      have y10 : w3.heap.size < w10.heap.size := by omega
      have x10 : w.heap.size < w10.heap.size := by omega
      obtain ⟨pc10, pf10⟩ := cell_chg (g := w3.heap.size) hc10 (by simp <;> omega) (by omega)
      obtain ⟨qc10, qf10⟩ := cell_chg (g := w.heap.size) hc10 (by simp <;> omega) (by omega)
      clear hs10 hc10 zz
      go_wp2_with fail
      refine bodyPost_ret (v := R.val ⟨2 + va, 1 + vb, true, v3, v4, v5, v6, v7, v8⟩) (by simp [results, Tryd.results15, go_sem, hc, hf, hc', hf', hd', hg', z1, z2, z3, n1, n2, pc4, pf4, qc4, qf4, x4, y4, pc5, pf5, qc5, qf5, x5, y5, pc6, pf6, qc6, qf6, x6, y6, pc7, pf7, qc7, qf7, x7, y7, pc8, pf8, qc8, qf8, x8, y8, pc9, pf9, qc9, qf9, x9, y9, pc10, pf10, qc10, qf10, x10, y10]) rfl ⟨⟨2 + va, 1 + vb, true, v3, v4, v5, v6, v7, v8⟩, rfl, ?_, ?_, ?_⟩
      · refine ⟨R.ok_iff.2 ⟨⟨?_, ?_⟩, ⟨?_, ?_⟩, ⟨?_, ?_⟩, ⟨?_, ?_⟩, ?_⟩, ?_, ?_⟩ <;> dsimp only <;> first | omega | rfl | simp
      · have k0 := S10.out.mono (show _ ≤ m + 40 by omega)
        repeat (first | (with_reducible exact k0) | ((with_reducible refine SrcP.set ?_ _ ?_ ?_ rfl _); rotate_left; (simp; omega); (simp; omega)) | (with_reducible refine SrcP.allocN ?_ _ _))
      · have k0 := C10.out
        repeat (first | (with_reducible exact k0) | ((with_reducible refine Chg.setNew ?_ _ ?_ _); rotate_left; (simp <;> omega)) | (with_reducible refine Chg.allocN ?_ _ _))
  · go_wp2_with fail
    refine (sStandardNames_c _).mono ?_
    rintro e w2 ⟨rfl, hw2⟩
    have hb2 : Below w1.heap.size w1 w2 := hw2 ▸ below_alloc1 _ _
    have G2 : BoxP w1.heap.size (stdNames.map Value.string) w2 := by rw [hw2]; exact fun j v hv => by simpa using hv
    have S2 := Lib.hid (S1.out.below hb2)
    have z2 : w1.heap.size < w2.heap.size := by rw [hw2]; simp
    have C2 := Lib.hid (C1.out.step hb2)
    obtain ⟨hc2, hf2⟩ := bcell hb2
    have G2 := Lib.hid G2
    clear hw2 hb2
    go_wp2_with fail
    refine (text_c base b _ w1.heap.size stdNames _ S2.out (by omega) G2.out (by omega) (by decide) (by decide)).mono ?_
    rintro e w3 ⟨k, x, hk, rfl, hs3, hc3⟩
    have hk4 : k < 4 := (List.getElem?_eq_some_iff.1 hk).1
    have hx : x = stdN k := by unfold stdN; rw [List.getD_eq_getElem?_getD, hk]; rfl
    subst hx
    have S3 := Lib.hid hs3
    have C3 := Lib.hid (C2.out.trans hc3)
    obtain ⟨hc3', hf3⟩ := cell_chg (g := w.heap.size) hc3 (by omega) (by omega)
    have z3 : w2.heap.size ≤ w3.heap.size := hc3.size
    clear hk hs3 hc3 G2 S2
    go_wp2_with fail
    refine (sStandardRules_c k hk4 _).mono ?_
    rintro e w4 ⟨rfl, hb4⟩
    have S4 := Lib.hid (S3.out.below hb4)
    have C4 := Lib.hid (C3.out.step hb4)
    have z4 : w3.heap.size ≤ w4.heap.size := hb4.size
    obtain ⟨hc4, hf4⟩ := bcell hb4
    obtain ⟨y, hy⟩ : ∃ y, y = stdR k := ⟨_, rfl⟩
    rw [← hy]
    have HY := Lib.hid hy
    have zw : w.heap.size < w2.heap.size := by omega
    have zx : w.heap.size < w3.heap.size := by omega
    have zy : w.heap.size < w4.heap.size := by omega
    have zn : ¬ w.heap.size = w4.heap.size := by omega
    have zm : ¬ w4.heap.size = w.heap.size := by omega
    clear hb4 hy
    go_wp2_with fail
    refine bodyPost_ret (v := y.val) (by simp [results, Tryd.results15, go_sem, hc, hf, hc2, hf2, hc3', hf3, hc4, hf4, z1, z2, zw, zx, zy, zn, zm]) rfl ⟨y, rfl, ?_, ?_, ?_⟩
    · rw [HY.out]
      exact std_drawn k hk4
    · have k0 := S4.out.mono (show _ ≤ m + 40 by omega)
      repeat (first | (with_reducible exact k0) | ((with_reducible refine SrcP.set ?_ _ ?_ ?_ rfl _); rotate_left; (simp; omega); (simp; omega)) | (with_reducible refine SrcP.allocN ?_ _ _))
    · have k0 := C4.out
      repeat (first | (with_reducible exact k0) | ((with_reducible refine Chg.setNew ?_ _ ?_ _); rotate_left; (simp <;> omega)) | (with_reducible refine Chg.allocN ?_ _ _))


/-! ### Draw2: rules drawn from bytes; the laws' own small functions. Each contract holds for every argument, under the premises that it states. -/
set_option maxHeartbeats 2000000 in
theorem a2Long_c (ca da : Option Addr) (n m cc dc : Nat) (w : World) (hn : n ≤ maxLen) (hm : m ≤ maxLen) :
    Calls Tryd.prog 4 #[.slice ca n cc, .slice da m dc] w fun e w' => e = .returned (.bool (decide (3000 < (n : Int)) || decide (3000 < (m : Int)))) ∧ w = w' := by
  unfold maxLen at hn hm
  by_cases h1 : 3000 < (n : Int)
  · go_enter Tryd.func4, Tryd.ntmps4
    go_wp2
    go_ret
    exact ⟨by first | rfl | (rw [decide_eq_true h1]; rfl), rfl⟩
  · by_cases h2 : 3000 < (m : Int)
    · go_enter Tryd.func4, Tryd.ntmps4
      go_wp2
      go_ret
      exact ⟨by first | rfl | (rw [decide_eq_false (Int.not_lt.2 h1), decide_eq_true h2]; rfl), rfl⟩
    · go_enter Tryd.func4, Tryd.ntmps4
      go_wp2
      go_ret
      exact ⟨by first | rfl | (rw [decide_eq_false (Int.not_lt.2 h1), decide_eq_false (Int.not_lt.2 h2)]; rfl), rfl⟩

/-! ### the laws' argument -/
set_option maxRecDepth 100000 in
theorem arg_bytes {H : Type} {enc : TypeId × Value → H} {W : World} {base : Nat} {v : Value} {d : DataW H} {q : List MemPlace}
    (hval : Value.okWide Tryd.prog W .any base 22 v) (h : DataW.Trod enc Tryd.prog W 0 (fun _ => true) true 22 v d q) :
    ∃ (a : Option Addr) (c : Nat) (xs : List Int), v = .slice a xs.length c ∧ Bytes W a xs ∧ xs.length ≤ maxLen ∧ (∀ x ∈ xs, 0 ≤ x ∧ x ≤ 255) ∧ (xs.length ≤ 4096 → ByteP W.heap.size a xs W) := by
  obtain ⟨a0, len0, cap0, rfl⟩ := okWide_slice Tryd.underlying22 hval
  obtain ⟨fuel, hf⟩ := h
  have K : ∃ (a : Option Addr) (c : Nat) (xs : List Int), (Value.slice a0 len0 cap0).cells.toList = [.slice a xs.length c] ∧ Bytes W a xs ∧ xs.length ≤ maxLen ∧ (∀ x ∈ xs, 0 ≤ x ∧ x ≤ 255) := by
    rcases open_ints Tryd.underlying22 Tryd.underlying5 (by kernel_rfl) hf with ⟨hcs, hx⟩ | ⟨a, len, cap, zs, hcs, _, hl, hm, hz, hx, hcell, hwz⟩
    · exact ⟨none, 0, [], by simpa using hcs, by intro j v hv; simp at hv, by simp, by simp⟩
    · have hz' : zs.length = cap := by simpa using hz
      have hlen : (zs.take len).length = len := by simp; omega
      refine ⟨some a, cap, zs.take len, by rw [hlen]; exact hcs, ?_, by omega, fun n hn => ?_⟩
      · intro j v hv
        simp only [List.getElem?_map, Option.map_eq_some_iff] at hv
        obtain ⟨n, hn, rfl⟩ := hv
        rw [List.getElem?_take] at hn
        split at hn
        · rename_i hj
          obtain ⟨b, off, ha, hc⟩ := ints_at hcell (by omega)
          refine ⟨b, off, by rw [ha], ?_⟩
          rw [hc j (by omega)]
          simp [List.getD_eq_getElem?_getD, hn]
        · simp at hn
      · have := hwz n (List.mem_of_mem_take hn)
        simpa [Lit.wf, IntKind.min, IntKind.max, IntKind.signed, IntKind.bits] using this
  obtain ⟨a, c, xs, hcs, hb, hl, hr⟩ := K
  refine ⟨a, c, xs, ?_, hb, hl, hr, fun h3 => ⟨hb, hr, h3, fun cb co s hs hp => ?_⟩⟩
  · simp [Value.cells] at hcs
    obtain ⟨rfl, rfl, rfl⟩ := hcs
    rfl
  · obtain ⟨b, off, ha, hc⟩ := hb 0 (.int .u8 xs[0]) (by simp [hp])
    rw [hs] at ha
    cases ha
    exact World.block_lt_of_cell? W _ hc


/-! ### Draw3: positions that are drawn: the state of the drawing. Each fact holds under the premises that it states. -/
theorem POwn.setD {w : World} {base : Nat} {p : P} {pa sa : Option Addr} {pc sc : Nat} (h : POwn w base p pa pc sa sc) (b o : Nat) (u : Value) (hp : b < base) : POwn (w.setCell ⟨b, o, none⟩ u) base p pa pc sa sc := ⟨ownsRow_setCell_below h.pits hp u, ownsRow_setCell_below h.stores hp u, h.apart⟩
structure DrS (rs : List Value) (w wr : World) (base b m B : Nat) (p : P) (A : A2) : Prop where
  box : Bx B [.slice A.pa p.pits.length A.pc, .slice A.sa p.stores.length A.sc, .int .i64 p.player] wr
  rows : PosP (w.heap.size + 1) B p A.pa A.pc A.sa A.sc wr
  res : Bx w.heap.size rs wr
  rl : 0 < rs.length
  src : SrcP base b m wr
  chg : Chg b (b + 1) w wr
  hS : w.heap.size < B
  hb : b < w.heap.size
  hbase : base ≤ b
/-- the same, with an empty position for the result -/
abbrev DrSt (w wr : World) (base b m B : Nat) (p : P) (A : A2) : Prop := DrS [.slice none 0 0, .slice none 0 0, .int .i64 0] w wr base b m B p A
theorem DrS.step {rs : List Value} {w wr wn : World} {base b m m' B : Nat} {p : P} {A : A2} (h : DrS rs w wr base b m B p A) (hc : Chg b (b + 1) wr wn) (hs : SrcP base b m' wn) : DrS rs w wn base b m' B p A := by
  have hl := h.box.lt (by simp)
  have hl2 := h.res.lt h.rl
  have h1 := h.hS
  have h2 := h.hb
  exact ⟨h.box.chg hc hl (by omega), PosP.stab _ _ _ _ _ _ _ wr wn h.rows (fun k k1 k2 => hc.block k (by omega) (by omega)), h.res.chg hc hl2 (by omega), h.rl, hs, h.chg.trans hc, h1, h2, h.hbase⟩
theorem DrS.mono {rs : List Value} {w wr : World} {base b m m' B : Nat} {p : P} {A : A2} (h : DrS rs w wr base b m B p A) (hm : m ≤ m') : DrS rs w wr base b m' B p A := h.step (Chg.refl _ _ _) (h.src.mono hm)
theorem DrS.drew {rs : List Value} {w wr : World} {base b m B : Nat} {p : P} {A : A2} (h : DrS rs w wr base b m B p A) : DrS rs w wr.drew base b m B p A := h.step (Chg.ofBelow (Below.refl _ _).drew) (h.src.below (Below.refl _ _).drew)
theorem DrS.pit {rs : List Value} {w wr : World} {base b m B g : Nat} {p : P} {A : A2} (h : DrS rs w wr base b m B p A) (hg : A.pa = some ⟨g, 0, none⟩) (hp : 0 < p.pits.length) (j : Nat) (v : Int) :
    DrS rs w (wr.setCell ⟨g, j, none⟩ (.int .i64 v)) base b m B ⟨p.pits.set j v, p.stores, p.player⟩ A := by
  obtain ⟨pa, pc, sa, sc⟩ := A
  cases hg
  obtain ⟨h1, h2, h3, h3l, h4, h5, h6, h7, h8⟩ := h
  obtain ⟨⟨k1, k2, k3⟩, k4, k5⟩ := h2
  dsimp only at *
  have hb : (Value.slice (some ⟨g, 0, none⟩) p.pits.length pc).ownBlock = some g := by
    rcases own_lt_n k1 hp with ⟨g', e, _⟩
    simp [Value.ownBlock] at e ⊢
  have hgl := (k1.lt g hb)
  have hgB := k4 g hb
  have hst := (k1.stored j (.int .i64 v)).1
  refine ⟨?_, ⟨⟨?_, ?_, ?_⟩, ?_, k5⟩, h3.other _ (by simp; omega) _, h3l, h4.set _ (by simp; omega) (by simp; omega) rfl _, h5.setNew _ (by simp; omega) _, h6, h7, h8⟩
  · have := h1.other (p := ⟨g, j, none⟩) (by simp; omega) (.int .i64 v)
    simpa using this
  · dsimp only
    rw [List.length_set, List.map_set]
    exact hst
  · exact ownsRow_setCell_other k2 (by rw [hb] at k3; rcases k3 with k3 | k3; cases k3; exact fun e => k3 e.symm) _
  · dsimp only
    rw [List.length_set]
    exact k3
  · dsimp only
    rw [List.length_set]
    exact k4
theorem DrS.sto {rs : List Value} {w wr : World} {base b m B g : Nat} {p : P} {A : A2} (h : DrS rs w wr base b m B p A) (hg : A.sa = some ⟨g, 0, none⟩) (hp : 0 < p.stores.length) (j : Nat) (v : Int) :
    DrS rs w (wr.setCell ⟨g, j, none⟩ (.int .i64 v)) base b m B ⟨p.pits, p.stores.set j v, p.player⟩ A := by
  obtain ⟨pa, pc, sa, sc⟩ := A
  cases hg
  obtain ⟨h1, h2, h3, h3l, h4, h5, h6, h7, h8⟩ := h
  obtain ⟨⟨k1, k2, k3⟩, k4, k5⟩ := h2
  dsimp only at *
  have hb : (Value.slice (some ⟨g, 0, none⟩) p.stores.length sc).ownBlock = some g := by
    rcases own_lt_n k2 hp with ⟨g', e, _⟩
    simp [Value.ownBlock] at e ⊢
  have hgl := (k2.lt g hb)
  have hgB := k5 g hb
  have hst := (k2.stored j (.int .i64 v)).1
  refine ⟨?_, ⟨⟨?_, ?_, ?_⟩, k4, ?_⟩, h3.other _ (by simp; omega) _, h3l, h4.set _ (by simp; omega) (by simp; omega) rfl _, h5.setNew _ (by simp; omega) _, h6, h7, h8⟩
  · have := h1.other (p := ⟨g, j, none⟩) (by simp; omega) (.int .i64 v)
    simpa using this
  · exact ownsRow_setCell_other k1 (by rw [hb] at k3; rcases k3 with k3 | k3; (rw [k3]; simp); exact k3) _
  · dsimp only
    rw [List.length_set, List.map_set]
    exact hst
  · dsimp only
    rw [List.length_set]
    exact k3
  · dsimp only
    rw [List.length_set]
    exact k5
theorem DrS.turn {rs : List Value} {w wr : World} {base b m B : Nat} {p : P} {A : A2} (h : DrS rs w wr base b m B p A) (v : Int) :
    DrS rs w (wr.setCell ⟨B, 2, none⟩ (.int .i64 v)) base b m B ⟨p.pits, p.stores, v⟩ A := by
  obtain ⟨h1, h2, h3, h3l, h4, h5, h6, h7, h8⟩ := h
  exact ⟨h1.set (o := 2) (by simp) _, ⟨⟨ownsRow_setCell_other h2.1.pits (fun e => by have := h2.2.1 _ e; simp at this) _, ownsRow_setCell_other h2.1.stores (fun e => by have := h2.2.2 _ e; simp at this) _, h2.1.apart⟩, h2.2.1, h2.2.2⟩,
    h3.other _ (by simp; omega) _, h3l, h4.set _ (by simp; omega) (by simp; omega) rfl _, h5.setNew _ (by simp; omega) _, h6, h7, h8⟩
/-- where the rows of a drawn position lie, and what is known of their cells -/
theorem DrS.pitAt {rs : List Value} {w wr : World} {base b m B : Nat} {p : P} {A : A2} (h : DrS rs w wr base b m B p A) (hp : 0 < p.pits.length) : ∃ g, A.pa = some ⟨g, 0, none⟩ ∧ w.heap.size + 1 ≤ g ∧ g < B ∧ g < wr.heap.size ∧ (∀ j, wr.frozen? ⟨g, j, none⟩ = false) ∧ ∀ (j : Nat) (hj : j < p.pits.length), wr.cell? ⟨g, j, none⟩ = some (.int .i64 p.pits[j]) := by
  obtain ⟨g, e, h1, h2⟩ := own_lt_n h.rows.1.pits hp
  have hb : (Value.slice A.pa p.pits.length A.pc).ownBlock = some g := by rw [e]; rfl
  have h3 := h.rows.2.1 g hb
  have ho := h.rows.1.pits
  rw [e] at ho
  exact ⟨g, e, h1, h3, h2, fun j => ho.frozenAt j, fun j hj => by
    have := ho.cellAt j (by omega)
    simpa [hj] using this⟩
theorem DrS.stoAt {rs : List Value} {w wr : World} {base b m B : Nat} {p : P} {A : A2} (h : DrS rs w wr base b m B p A) (hp : 0 < p.stores.length) : ∃ g, A.sa = some ⟨g, 0, none⟩ ∧ w.heap.size + 1 ≤ g ∧ g < B ∧ g < wr.heap.size ∧ (∀ j, wr.frozen? ⟨g, j, none⟩ = false) ∧ ∀ (j : Nat) (hj : j < p.stores.length), wr.cell? ⟨g, j, none⟩ = some (.int .i64 p.stores[j]) := by
  obtain ⟨g, e, h1, h2⟩ := own_lt_n h.rows.1.stores hp
  have hb : (Value.slice A.sa p.stores.length A.sc).ownBlock = some g := by rw [e]; rfl
  have h3 := h.rows.2.2 g hb
  have ho := h.rows.1.stores
  rw [e] at ho
  exact ⟨g, e, h1, h3, h2, fun j => ho.frozenAt j, fun j hj => by
    have := ho.cellAt j (by omega)
    simpa [hj] using this⟩

/-! ### Draw4: positions that are drawn: the reference's function. The contract holds for every argument, under the premises that it states. -/
/-- numbers of pits as they are drawn, the first k of them -/
def low5 (xs : List Int) (k : Nat) : Prop := ∀ (j : Nat) (h : j < xs.length), j < k → 0 ≤ xs[j] ∧ xs[j] ≤ 5
theorem low5.set {xs : List Int} {k : Nat} {v : Int} (h : low5 xs k) (hv : 0 ≤ v ∧ v ≤ 5) (i : Nat) : low5 (xs.set i v) k := fun j hj hk => by
  rw [List.getElem_set]
  split
  · exact hv
  · exact h j (by simpa using hj) hk
theorem low5.next {xs : List Int} {k : Nat} {v : Int} (h : low5 xs k) (hv : 0 ≤ v ∧ v ≤ 5) : low5 (xs.set k v) (k + 1) := fun j hj hk => by
  rw [List.getElem_set]
  split
  · exact hv
  · exact h j (by simpa using hj) (by omega)
/-- a position as it is drawn -/
structure P.drawn (p : P) (r : R) : Prop where
  len : (p.pits.length : Int) = 2 * r.pits
  two : p.stores.length = 2
  pit : ∀ x ∈ p.pits, 0 ≤ x ∧ x ≤ 5
  sto : ∀ x ∈ p.stores, 0 ≤ x ∧ x ≤ 7
  pl : 0 ≤ p.player ∧ p.player ≤ 1
theorem sum_le {l : List Int} {m : Int} (h : ∀ x ∈ l, 0 ≤ x ∧ x ≤ m) : l.sum ≤ m * (l.length : Int) := by
  induction l with
  | nil => simp
  | cons x l ih =>
    have h1 := h x (by simp)
    have h2 := ih (fun y hy => h y (by simp [hy]))
    simp only [List.sum_cons, List.length_cons]
    have : m * ((l.length + 1 : Nat) : Int) = m * (l.length : Int) + m := by push_cast; rw [Int.mul_add]; omega
    omega
theorem P.drawn.ok {p : P} {r : R} (h : p.drawn r) (hr : r.drawn) : p.ok r = true := by
  have h1 := sum_le h.pit
  have h2 := sum_le h.sto
  have h3 := h.len
  have h4 := h.two
  obtain ⟨hok, h6, _⟩ := hr
  simp only [P.ok, Bool.and_eq_true, decide_eq_true_eq]
  refine ⟨⟨⟨⟨⟨⟨hok, h3⟩, h4⟩, inB_iff.2 h.pl⟩, ?_⟩, ?_⟩, ?_⟩
  · exact List.all_eq_true.2 (fun x hx => inB_iff.2 (by have := h.pit x hx; omega))
  · exact List.all_eq_true.2 (fun x hx => inB_iff.2 (by have := h.sto x hx; omega))
  · omega
theorem low5.mem {xs : List Int} {k : Nat} (h : low5 xs k) (hk : xs.length ≤ k) : ∀ x ∈ xs, 0 ≤ x ∧ x ≤ 5 := fun x hx => by
  obtain ⟨j, hj, rfl⟩ := List.mem_iff_getElem.1 hx
  exact h j hj (by omega)

set_option maxRecDepth 100000 in
set_option maxHeartbeats 16000000 in
theorem l04Draw_c (base b m rb ro : Nat) (r : R) (w : World) (h : SrcP base b m w) (hm : m ≤ 1000000) (hB : base ≤ b) (hbl : b < w.heap.size) (hat : R.At w rb ro r) (hrb : rb ≠ b) (hlo : 2 ≤ r.pits) (hhi : r.pits ≤ 8) :
    Calls Tryd.prog 16 #[.pointer (some ⟨b, 0, none⟩), .pointer (some ⟨rb, ro, none⟩)] w fun e w' => ∃ (p : P) (A : A2), e = .returned (p.val A.pa A.pc A.sa A.sc) ∧ p.drawn r ∧ POwn w' w.heap.size p A.pa A.pc A.sa A.sc ∧ SrcP base b (m + 100) w' ∧ Chg b (b + 1) w w' := by
  have hrl : rb < w.heap.size := World.block_lt_of_cell? w _ hat.c0
  have B0 := below_alloc1 w (.cells #[.slice none 0 0, .slice none 0 0, .int .i64 0] 28)
  have S0 := Lib.hid (h.below B0)
  have HA := Lib.hid hat
  obtain ⟨p0, hp0⟩ : ∃ p, p = startP r := ⟨_, rfl⟩
  have HS := Lib.hid (l04Start_c rb ro r _ (hat.below B0 hrl) (by omega) (by omega))
  rw [← hp0] at HS
  have hsl : p0.pits.length = (2 * r.pits).toNat := by rw [hp0]; simp [startP]
  have hp2 : p0.stores = [0, 0] := by rw [hp0]; rfl
  have hpl : p0.player = 0 := by rw [hp0]; rfl
  have R0 : Bx w.heap.size [.slice none 0 0, .slice none 0 0, .int .i64 0] (w.alloc (.cells #[.slice none 0 0, .slice none 0 0, .int .i64 0] 28)) := Bx.alloc w _ _ rfl
  have HSL : Hid (p0.pits.length = (2 * r.pits).toNat ∧ p0.stores = [0, 0] ∧ p0.player = 0) := ⟨hsl, hp2, hpl⟩
  clear h hat hp0 hsl hp2 hpl
  go_enter Tryd.func16, Tryd.ntmps16
  go_upto_region 1 with fail
  go_cut [5] from 6 to 75 (fun s5 wx => ∃ (B : Nat) (A : A2), s5 = .pointer (some ⟨B, 0, none⟩) ∧ DrSt w wx base b m B p0 A)
  case first =>
    go_wp2_with fail
    refine HS.out.mono ?_
    rintro e w1 ⟨pa, pc, sa, sc, rfl, ho, hb1⟩
    have z1 : w.heap.size + 1 ≤ w1.heap.size := by have := hb1.size; simpa using this
    have D1 : DrSt w (w1.alloc (.cells #[.slice pa p0.pits.length pc, .slice sa p0.stores.length sc, .int .i64 p0.player] 28)) base b m w1.heap.size p0 ⟨pa, pc, sa, sc⟩ := by
      simp only [World.size_alloc] at ho
      refine ⟨Bx.alloc _ _ _ rfl, ⟨ho.below (below_alloc1 _ _) (Nat.le_refl _), fun k hk => (ho.pits.lt k hk).2, fun k hk => (ho.stores.lt k hk).2⟩, (R0.below hb1 (by simp)).allocO (by omega) _ _, by simp, (S0.out.below hb1).allocN _ _, ?_, by omega, hbl, hB⟩
      exact ((Chg.ofBelow B0).trans (Chg.ofBelow hb1)).allocN _ _
    have D1 := Lib.hid D1
    clear ho hb1 S0 R0 HS
    go_wp2_with fail
    go_meet
    exact ⟨_, _, rfl, D1.out⟩
  case rest =>
  obtain ⟨B, A0, rfl, D1⟩ := hcut
  clear HS S0 R0 B0
  go_wp2_with fail
  refine (one_c base b m 2 _ D1.src (by omega) (by omega)).mono ?_
  rintro e w2 ⟨few, rfl, hs2, hc2⟩
  have D2 := D1.step hc2 hs2
  clear D1 hs2 hc2
  go_wp2_with fail
  go_loopw [7] (fun i wr => ∃ (j : Nat) (xs : List Int) (A : A2), i = .int .i64 j ∧ j ≤ xs.length ∧ xs.length = (2 * r.pits).toNat ∧ low5 xs j ∧ DrSt w wr base b (m + 2 + 4 * j) B ⟨xs, [0, 0], 0⟩ A) (fun i _ => (2 * r.pits).toNat - (intOf i).toNat)
  case atStart =>
    obtain ⟨xs, ys, pl⟩ := p0
    obtain ⟨hsl, hp2, hpl⟩ := HSL.out
    dsimp only at hsl hp2 hpl
    subst hp2 hpl
    exact ⟨0, xs, A0, rfl, Nat.zero_le _, hsl, fun j _ h => absurd h (by omega), D2⟩
  case round =>
    clear D2
    obtain ⟨j, xs, A, rfl, hj, hxl, hlow, D⟩ := hrel
    have HLOW := Lib.hid hlow
    have HXL := Lib.hid hxl
    clear hlow hxl
    by_cases hlt : j < xs.length
    · obtain ⟨pa, pc, sa, sc⟩ := A
      obtain ⟨g, hg, hg1, hg2, hg3, _, _⟩ := D.pitAt (by omega : 0 < xs.length)
      dsimp only at hg
      subst hg
      have hgB : ¬ B = g := by omega
      have k0 := D.box.box 0 _ rfl
      dsimp only at k0
      have DD := Lib.hid D.drew
      have hmj : m + 2 + 4 * j ≤ 2000000 := by have := HXL.out; omega
      clear D
      go_upto_region 6 with fail
      refine heldH (S := fun W => W.cell? ⟨B, 0, none⟩ = some (.slice (some ⟨g, 0, none⟩) xs.length pc)) (n := 7) (listed := #[false, false, false, false, false, false, false]) (by kernel_rfl) (by rfl) (by rfl) ?_ (fun hHeld => ?_)
      (focus ((try dsimp only); (first | done | ((first | exact k3 | exact k0 | (rw [cell_other hgB]; exact k3)); done))))
      (refine takeH (i := 0) (v := ?_) (by decide +kernel) (by decide +kernel) (by kernel_rfl) (by rfl) (by exact fun _ _ _ h => h) (by rfl) ?_ (by assumption) ?_); rotate_left; (focus (intro w hSw; (try dsimp only at hSw); go_simp; (try with_reducible rfl); done)); (try simp only [Act.put, List.setIfInBounds_toArray, List.set_cons_zero, List.set_cons_succ])
      (refine takeH (i := 1) (v := ?_) (by decide +kernel) (by decide +kernel) (by kernel_rfl) (by rfl) (by exact fun _ _ _ h => h) (by rfl) ?_ (by assumption) ?_); rotate_left; (focus (intro w hSw; (try dsimp only at hSw); go_simp; (try with_reducible rfl); done)); (try simp only [Act.put, List.setIfInBounds_toArray, List.set_cons_zero, List.set_cons_succ])
      (refine takeH (i := 2) (v := ?_) (by decide +kernel) (by decide +kernel) (by kernel_rfl) (by rfl) (by exact fun _ _ _ h => h) (by rfl) ?_ (by assumption) ?_); rotate_left; (focus (intro w hSw; (try dsimp only at hSw); go_simp; (try with_reducible rfl); done)); (try simp only [Act.put, List.setIfInBounds_toArray, List.set_cons_zero, List.set_cons_succ])
      (refine takeH (i := 3) (v := ?_) (by decide +kernel) (by decide +kernel) (by kernel_rfl) (by rfl) (by exact fun _ _ _ h => h) (by rfl) ?_ (by assumption) ?_); rotate_left; (focus (intro w hSw; (try dsimp only at hSw); go_simp; (try with_reducible rfl); done)); (try simp only [Act.put, List.setIfInBounds_toArray, List.set_cons_zero, List.set_cons_succ])
      refine nextH (i := 4) (by decide +kernel) (by rfl) (by rfl) (fun K hK => ?_)
      go_simp
      (first | (go_at_call 35; (refine (pick_c base b _ 6 _ DD.out.src (by omega) (by omega)).mono ?_); (rintro e w3 ⟨v, rfl, v0, v1, hs3, hc3⟩); (have D3 := DD.out.step hc3 hs3); (have k3 := D3.box.box 0 _ rfl); (dsimp only at k3); (obtain ⟨g3, e3, _, _, l3, fz3, cl3⟩ := D3.pitAt (by omega : 0 < xs.length)); (dsimp only at e3); cases e3; (have cl3 := cl3 j hlt); (dsimp only at cl3); (have hv5 : Hid (0 ≤ v ∧ v ≤ 5) := ⟨v0, by omega⟩); (have D3 := Lib.hid D3); clear hs3 hc3) | skip)
      refine hK.out _ _ ?_ (fun hHeld' => ?_)
      (focus ((try dsimp only); (first | done | ((first | exact k3 | exact k0 | (rw [cell_other hgB]; exact k3)); done))))
      clear hK K hHeld
      have hHeld := hHeld'
      clear hHeld'
      (try simp only [Act.put, List.setIfInBounds_toArray, List.set_cons_zero, List.set_cons_succ])
      refine nextH (i := 5) (by decide +kernel) (by rfl) (by rfl) (fun K hK => ?_)
      go_simp
      (first | (go_at_call 35; (refine (pick_c base b _ 6 _ DD.out.src (by omega) (by omega)).mono ?_); (rintro e w3 ⟨v, rfl, v0, v1, hs3, hc3⟩); (have D3 := DD.out.step hc3 hs3); (have k3 := D3.box.box 0 _ rfl); (dsimp only at k3); (obtain ⟨g3, e3, _, _, l3, fz3, cl3⟩ := D3.pitAt (by omega : 0 < xs.length)); (dsimp only at e3); cases e3; (have cl3 := cl3 j hlt); (dsimp only at cl3); (have hv5 : Hid (0 ≤ v ∧ v ≤ 5) := ⟨v0, by omega⟩); (have D3 := Lib.hid D3); clear hs3 hc3) | skip)
      refine hK.out _ _ ?_ (fun hHeld' => ?_)
      (focus ((try dsimp only); (first | done | ((first | exact k3 | exact k0 | (rw [cell_other hgB]; exact k3)); done))))
      clear hK K hHeld
      have hHeld := hHeld'
      clear hHeld'
      (try simp only [Act.put, List.setIfInBounds_toArray, List.set_cons_zero, List.set_cons_succ])
      refine nextH (i := 6) (by decide +kernel) (by rfl) (by rfl) (fun K hK => ?_)
      go_simp
      (first | (go_at_call 35; (refine (pick_c base b _ 6 _ DD.out.src (by omega) (by omega)).mono ?_); (rintro e w3 ⟨v, rfl, v0, v1, hs3, hc3⟩); (have D3 := DD.out.step hc3 hs3); (have k3 := D3.box.box 0 _ rfl); (dsimp only at k3); (obtain ⟨g3, e3, _, _, l3, fz3, cl3⟩ := D3.pitAt (by omega : 0 < xs.length)); (dsimp only at e3); cases e3; (have cl3 := cl3 j hlt); (dsimp only at cl3); (have hv5 : Hid (0 ≤ v ∧ v ≤ 5) := ⟨v0, by omega⟩); (have D3 := Lib.hid D3); clear hs3 hc3) | skip)
      refine hK.out _ _ ?_ (fun hHeld' => ?_)
      (focus ((try dsimp only); (first | done | ((first | exact k3 | exact k0 | (rw [cell_other hgB]; exact k3)); done))))
      clear hK K hHeld
      have hHeld := hHeld'
      clear hHeld'
      (try simp only [Act.put, List.setIfInBounds_toArray, List.set_cons_zero, List.set_cons_succ])
      refine wpAnyH_done (by decide +kernel) ?_ _
      have D4 := Lib.hid (D3.out.pit rfl (by omega : 0 < xs.length) j v)
      have HL4 := Lib.hid (HLOW.out.next (v := v) hv5.out)
      have HX4 : Hid ((xs.set j v).length = (2 * r.pits).toNat) := by unfold Hid; rw [List.length_set]; exact HXL.out
      clear hHeld k3 k0 DD D3 fz3 cl3 v0 v1
      dsimp only at D4
      cases few
      · go_wp2
        go_roundw
        case rel => exact ⟨j + 1, xs.set j v, ⟨some ⟨g, 0, none⟩, pc, sa, sc⟩, by go_num, by rw [List.length_set]; omega, HX4.out, HL4.out, D4.out.mono (by omega)⟩
        case measure => simp [intOf]; have := HXL.out; omega
      · go_wp2_with fail
        refine (one_c base b _ 3 _ D4.out.src (by omega) (by omega)).mono ?_
        rintro e w5 ⟨nz, rfl, hs5, hc5⟩
        have D5 := D4.out.step hc5 hs5
        have k5 := D5.box.box 0 _ rfl
        dsimp only at k5
        rw [List.length_set] at k5
        obtain ⟨g5, e5, _, _, l5, fz5, cl5⟩ := D5.pitAt (by rw [List.length_set]; omega : 0 < (xs.set j v).length)
        dsimp only at e5
        cases e5
        have cl5 := cl5 j (by rw [List.length_set]; omega)
        have D6 := Lib.hid (D5.pit rfl (by rw [List.length_set]; omega : 0 < (xs.set j v).length) j 0)
        have HL6 := Lib.hid (HL4.out.set (v := 0) (by omega) j)
        have D5 := Lib.hid D5
        clear hs5 hc5 D4
        dsimp only at D6
        cases nz
        · go_wp2
          go_roundw
          case rel => exact ⟨j + 1, (xs.set j v).set j 0, ⟨some ⟨g, 0, none⟩, pc, sa, sc⟩, by go_num, by rw [List.length_set, List.length_set]; omega, by rw [List.length_set]; exact HX4.out, HL6.out, D6.out.mono (by omega)⟩
          case measure => simp [intOf]; have := HXL.out; omega
        · clear D6 HL6
          go_wp2
          go_roundw
          case rel => exact ⟨j + 1, xs.set j v, ⟨some ⟨g, 0, none⟩, pc, sa, sc⟩, by go_num, by rw [List.length_set]; omega, HX4.out, HL4.out, D5.out.mono (by omega)⟩
          case measure => simp [intOf]; have := HXL.out; omega
    · obtain rfl : j = xs.length := by omega
      have k0 := D.box.box 0 _ rfl
      dsimp only at k0
      go_wp2_with fail
      clear k0
      refine (one_c base b _ 8 _ D.src (by have := HXL.out; omega) (by omega)).mono ?_
      rintro e w3 ⟨side, rfl, hs3, hc3⟩
      have hq : xs.length ≤ 16 := by have := HXL.out; omega
      have D3 := Lib.hid ((D.step hc3 hs3).mono (show _ ≤ m + 70 by omega))
      clear D hs3 hc3
      go_upto_if 38 with fail
      go_cut [] from 39 to 75 (fun wx => ∃ (xs2 : List Int) (A2 : A2), xs2.length = (2 * r.pits).toNat ∧ low5 xs2 xs2.length ∧ DrSt w wx base b (m + 72) B ⟨xs2, [0, 0], 0⟩ A2)
      case first =>
        cases side
        · go_wp2_with fail
          go_meet
          exact ⟨xs, A, HXL.out, HLOW.out, D3.out.mono (by omega)⟩
        · go_wp2_with fail
          refine (pick_c base b _ 2 _ D3.out.src (by omega) (by omega)).mono ?_
          rintro e w4 ⟨v, rfl, v0, v1, hs4, hc4⟩
          have D4 := D3.out.step hc4 hs4
          have hrr := HA.out
          have hr0 := (cell_chg D4.chg hrl (by omega)).1 ro
          rw [hrr.c0] at hr0
          clear hs4 hc4 D3 hrr
          obtain ⟨lo, hlo⟩ : ∃ lo : Nat, (lo : Int) = v * r.pits ∧ (lo = 0 ∨ (lo : Int) = r.pits) ∧ (v + 1) * r.pits = lo + r.pits := by
            have : v = 0 ∨ v = 1 := by omega
            rcases this with rfl | rfl
            · exact ⟨0, by simp, .inl rfl, by simp⟩
            · exact ⟨r.pits.toNat, by omega, .inr (by omega), by omega⟩
          obtain ⟨e1, e2, e3⟩ := hlo
          have HV := Lib.hid e3
          have hv1 : IntKind.i64.wrap (v + 1) = v + 1 := IntWalk.i64_in _ (by omega)
          have hvr : v * r.pits = lo := e1.symm
          have hvr2 : (v + 1) * r.pits = lo + r.pits := e3
          clear e1 e3 HV
          have D4 := Lib.hid D4
          go_wp2_with fail
          go_loopw [9] (fun i wr => ∃ (q : Nat) (xs2 : List Int) (A2 : A2), i = .int .i64 q ∧ lo ≤ q ∧ (q : Int) ≤ lo + r.pits ∧ xs2.length = (2 * r.pits).toNat ∧ low5 xs2 xs2.length ∧ DrSt w wr base b (m + 72) B ⟨xs2, [0, 0], 0⟩ A2) (fun i _ => (lo + r.pits).toNat - (intOf i).toNat)
          case atStart => exact ⟨lo, xs, A, rfl, Nat.le_refl _, by omega, HXL.out, HLOW.out, D4.out⟩
          case round =>
            obtain ⟨q, xs2, A2, rfl, q0, q1, hx2, hl2, D⟩ := hrel
            have HX2 := Lib.hid hx2
            have HL2 := Lib.hid hl2
            have hr0 := (cell_chg D.chg hrl (by omega)).1 ro
            rw [HA.out.c0] at hr0
            have k0 := D.box.box 0 _ rfl
            dsimp only at k0
            by_cases hlt : (q : Int) < lo + r.pits
            · have hql : q < xs2.length := by omega
              obtain ⟨pa, pc, sa, sc⟩ := A2
              obtain ⟨g, hg, _, _, hg3, gf, gc⟩ := D.pitAt (by omega : 0 < xs2.length)
              dsimp only at hg gc
              subst hg
              have gc := gc q hql
              have D5 := Lib.hid (D.pit rfl (by omega : 0 < xs2.length) q 0)
              have HL5 : Hid (low5 (xs2.set q 0) (xs2.set q 0).length) := by unfold Hid; rw [List.length_set]; exact HL2.out.set (by omega) q
              clear hx2 hl2 D
              dsimp only at D5
              go_wp2
              go_roundw
              case rel => exact ⟨q + 1, xs2.set q 0, _, by go_num, by omega, by omega, by rw [List.length_set]; exact HX2.out, HL5.out, D5.out⟩
              case measure => simp [intOf]; omega
            · have D := Lib.hid D
              clear hx2 hl2
              go_wp2_with fail
              go_meet
              exact ⟨xs2, A2, HX2.out, HL2.out, D.out⟩
      case rest =>
        obtain ⟨xs2, A2, hx2, hl2, D⟩ := hcut
        have HX2 := Lib.hid hx2
        have HL2 := Lib.hid hl2
        obtain ⟨pa, pc, sa, sc⟩ := A2
        obtain ⟨g, hg, hg1, hg2, hg3, _, _⟩ := D.stoAt (by decide : 0 < ([0, 0] : List Int).length)
        dsimp only at hg
        subst hg
        have hgB : ¬ B = g := by omega
        have k1 := D.box.box 1 _ rfl
        dsimp only at k1
        have DD := Lib.hid D.drew
        clear D hx2 hl2 HLOW HXL
        go_upto_region 15 with fail
        refine heldH (S := fun W => W.cell? ⟨B, 1, none⟩ = some (.slice (some ⟨g, 0, none⟩) 2 sc)) (n := 6) (listed := #[false, false, false, false, false, false]) (by kernel_rfl) (by rfl) (by rfl) ?_ (fun hHeld => ?_)
        (focus ((try dsimp only); (first | done | ((first | exact k3 | exact k1 | (rw [cell_other hgB]; exact k3)); done))))
        (refine takeH (i := 0) (v := ?_) (by decide +kernel) (by decide +kernel) (by kernel_rfl) (by rfl) (by exact fun _ _ _ h => h) (by rfl) ?_ (by assumption) ?_); rotate_left; (focus (intro w hSw; (try dsimp only at hSw); go_simp; (try with_reducible rfl); done)); (try simp only [Act.put, List.setIfInBounds_toArray, List.set_cons_zero, List.set_cons_succ])
        (refine takeH (i := 1) (v := ?_) (by decide +kernel) (by decide +kernel) (by kernel_rfl) (by rfl) (by exact fun _ _ _ h => h) (by rfl) ?_ (by assumption) ?_); rotate_left; (focus (intro w hSw; (try dsimp only at hSw); go_simp; (try with_reducible rfl); done)); (try simp only [Act.put, List.setIfInBounds_toArray, List.set_cons_zero, List.set_cons_succ])
        (refine takeH (i := 2) (v := ?_) (by decide +kernel) (by decide +kernel) (by kernel_rfl) (by rfl) (by exact fun _ _ _ h => h) (by rfl) ?_ (by assumption) ?_); rotate_left; (focus (intro w hSw; (try dsimp only at hSw); go_simp; (try with_reducible rfl); done)); (try simp only [Act.put, List.setIfInBounds_toArray, List.set_cons_zero, List.set_cons_succ])
        refine nextH (i := 3) (by decide +kernel) (by rfl) (by rfl) (fun K hK => ?_)
        go_simp
        (first | (go_at_call 35; (refine (pick_c base b _ 8 _ DD.out.src (by omega) (by omega)).mono ?_); (rintro e w3 ⟨v, rfl, v0, v1, hs3, hc3⟩); (have D3 := DD.out.step hc3 hs3); (have k3 := D3.box.box 1 _ rfl); (dsimp only at k3); (obtain ⟨g3, e3, _, _, l3, fz3, cl3⟩ := D3.stoAt (by decide : 0 < ([0, 0] : List Int).length)); (dsimp only at e3); cases e3; (have cl3 := cl3 0 (by simp)); (dsimp only at cl3); (have hv7 : Hid (0 ≤ v ∧ v ≤ 7) := ⟨v0, by omega⟩); (have D3 := Lib.hid D3); clear hs3 hc3) | skip)
        refine hK.out _ _ ?_ (fun hHeld' => ?_)
        (focus ((try dsimp only); (first | done | ((first | exact k3 | exact k1 | (rw [cell_other hgB]; exact k3)); done))))
        clear hK K hHeld
        have hHeld := hHeld'
        clear hHeld'
        (try simp only [Act.put, List.setIfInBounds_toArray, List.set_cons_zero, List.set_cons_succ])
        refine nextH (i := 4) (by decide +kernel) (by rfl) (by rfl) (fun K hK => ?_)
        go_simp
        (first | (go_at_call 35; (refine (pick_c base b _ 8 _ DD.out.src (by omega) (by omega)).mono ?_); (rintro e w3 ⟨v, rfl, v0, v1, hs3, hc3⟩); (have D3 := DD.out.step hc3 hs3); (have k3 := D3.box.box 1 _ rfl); (dsimp only at k3); (obtain ⟨g3, e3, _, _, l3, fz3, cl3⟩ := D3.stoAt (by decide : 0 < ([0, 0] : List Int).length)); (dsimp only at e3); cases e3; (have cl3 := cl3 0 (by simp)); (dsimp only at cl3); (have hv7 : Hid (0 ≤ v ∧ v ≤ 7) := ⟨v0, by omega⟩); (have D3 := Lib.hid D3); clear hs3 hc3) | skip)
        refine hK.out _ _ ?_ (fun hHeld' => ?_)
        (focus ((try dsimp only); (first | done | ((first | exact k3 | exact k1 | (rw [cell_other hgB]; exact k3)); done))))
        clear hK K hHeld
        have hHeld := hHeld'
        clear hHeld'
        (try simp only [Act.put, List.setIfInBounds_toArray, List.set_cons_zero, List.set_cons_succ])
        refine nextH (i := 5) (by decide +kernel) (by rfl) (by rfl) (fun K hK => ?_)
        go_simp
        (first | (go_at_call 35; (refine (pick_c base b _ 8 _ DD.out.src (by omega) (by omega)).mono ?_); (rintro e w3 ⟨v, rfl, v0, v1, hs3, hc3⟩); (have D3 := DD.out.step hc3 hs3); (have k3 := D3.box.box 1 _ rfl); (dsimp only at k3); (obtain ⟨g3, e3, _, _, l3, fz3, cl3⟩ := D3.stoAt (by decide : 0 < ([0, 0] : List Int).length)); (dsimp only at e3); cases e3; (have cl3 := cl3 0 (by simp)); (dsimp only at cl3); (have hv7 : Hid (0 ≤ v ∧ v ≤ 7) := ⟨v0, by omega⟩); (have D3 := Lib.hid D3); clear hs3 hc3) | skip)
        refine hK.out _ _ ?_ (fun hHeld' => ?_)
        (focus ((try dsimp only); (first | done | ((first | exact k3 | exact k1 | (rw [cell_other hgB]; exact k3)); done))))
        clear hK K hHeld
        have hHeld := hHeld'
        clear hHeld'
        (try simp only [Act.put, List.setIfInBounds_toArray, List.set_cons_zero, List.set_cons_succ])
        refine wpAnyH_done (by decide +kernel) ?_ _
        have D4 := Lib.hid (D3.out.sto rfl (by decide : 0 < ([0, 0] : List Int).length) 0 v).drew
        have q1 : (w3.setCell ⟨g, 0, none⟩ (.int .i64 v)).cell? ⟨B, 1, none⟩ = some (.slice (some ⟨g, 0, none⟩) 2 sc) := by rw [cell_other hgB]; exact k3
        clear hHeld k3 k1 DD D3 fz3 cl3 v0 v1
        dsimp only [List.set_cons_zero] at D4
        go_upto_region 16 with fail
        refine heldH (S := fun W => W.cell? ⟨B, 1, none⟩ = some (.slice (some ⟨g, 0, none⟩) 2 sc)) (n := 6) (listed := #[false, false, false, false, false, false]) (by kernel_rfl) (by rfl) (by rfl) ?_ (fun hHeld => ?_)
        (focus ((try dsimp only); (first | done | ((first | exact k5 | exact q1 | (rw [cell_other hgB]; exact k5)); done))))
        (refine takeH (i := 0) (v := ?_) (by decide +kernel) (by decide +kernel) (by kernel_rfl) (by rfl) (by exact fun _ _ _ h => h) (by rfl) ?_ (by assumption) ?_); rotate_left; (focus (intro w hSw; (try dsimp only at hSw); go_simp; (try with_reducible rfl); done)); (try simp only [Act.put, List.setIfInBounds_toArray, List.set_cons_zero, List.set_cons_succ])
        (refine takeH (i := 1) (v := ?_) (by decide +kernel) (by decide +kernel) (by kernel_rfl) (by rfl) (by exact fun _ _ _ h => h) (by rfl) ?_ (by assumption) ?_); rotate_left; (focus (intro w hSw; (try dsimp only at hSw); go_simp; (try with_reducible rfl); done)); (try simp only [Act.put, List.setIfInBounds_toArray, List.set_cons_zero, List.set_cons_succ])
        (refine takeH (i := 2) (v := ?_) (by decide +kernel) (by decide +kernel) (by kernel_rfl) (by rfl) (by exact fun _ _ _ h => h) (by rfl) ?_ (by assumption) ?_); rotate_left; (focus (intro w hSw; (try dsimp only at hSw); go_simp; (try with_reducible rfl); done)); (try simp only [Act.put, List.setIfInBounds_toArray, List.set_cons_zero, List.set_cons_succ])
        refine nextH (i := 3) (by decide +kernel) (by rfl) (by rfl) (fun K hK => ?_)
        go_simp
        (first | (go_at_call 35; (refine (pick_c base b _ 8 _ D4.out.src (by omega) (by omega)).mono ?_); (rintro e w5 ⟨u, rfl, u0, u1, hs5, hc5⟩); (have D5 := D4.out.step hc5 hs5); (have k5 := D5.box.box 1 _ rfl); (dsimp only at k5); (obtain ⟨g5, e5, _, _, l5, fz5, cl5⟩ := D5.stoAt (by simp : 0 < ([v, 0] : List Int).length)); (dsimp only at e5); cases e5; (have cl5 := cl5 1 (by simp)); (dsimp only at cl5); (have hu7 : Hid (0 ≤ u ∧ u ≤ 7) := ⟨u0, by omega⟩); (have D5 := Lib.hid D5); clear hs5 hc5) | skip)
        refine hK.out _ _ ?_ (fun hHeld' => ?_)
        (focus ((try dsimp only); (first | done | ((first | exact k5 | exact q1 | (rw [cell_other hgB]; exact k5)); done))))
        clear hK K hHeld
        have hHeld := hHeld'
        clear hHeld'
        (try simp only [Act.put, List.setIfInBounds_toArray, List.set_cons_zero, List.set_cons_succ])
        refine nextH (i := 4) (by decide +kernel) (by rfl) (by rfl) (fun K hK => ?_)
        go_simp
        (first | (go_at_call 35; (refine (pick_c base b _ 8 _ D4.out.src (by omega) (by omega)).mono ?_); (rintro e w5 ⟨u, rfl, u0, u1, hs5, hc5⟩); (have D5 := D4.out.step hc5 hs5); (have k5 := D5.box.box 1 _ rfl); (dsimp only at k5); (obtain ⟨g5, e5, _, _, l5, fz5, cl5⟩ := D5.stoAt (by simp : 0 < ([v, 0] : List Int).length)); (dsimp only at e5); cases e5; (have cl5 := cl5 1 (by simp)); (dsimp only at cl5); (have hu7 : Hid (0 ≤ u ∧ u ≤ 7) := ⟨u0, by omega⟩); (have D5 := Lib.hid D5); clear hs5 hc5) | skip)
        refine hK.out _ _ ?_ (fun hHeld' => ?_)
        (focus ((try dsimp only); (first | done | ((first | exact k5 | exact q1 | (rw [cell_other hgB]; exact k5)); done))))
        clear hK K hHeld
        have hHeld := hHeld'
        clear hHeld'
        (try simp only [Act.put, List.setIfInBounds_toArray, List.set_cons_zero, List.set_cons_succ])
        refine nextH (i := 5) (by decide +kernel) (by rfl) (by rfl) (fun K hK => ?_)
        go_simp
        (first | (go_at_call 35; (refine (pick_c base b _ 8 _ D4.out.src (by omega) (by omega)).mono ?_); (rintro e w5 ⟨u, rfl, u0, u1, hs5, hc5⟩); (have D5 := D4.out.step hc5 hs5); (have k5 := D5.box.box 1 _ rfl); (dsimp only at k5); (obtain ⟨g5, e5, _, _, l5, fz5, cl5⟩ := D5.stoAt (by simp : 0 < ([v, 0] : List Int).length)); (dsimp only at e5); cases e5; (have cl5 := cl5 1 (by simp)); (dsimp only at cl5); (have hu7 : Hid (0 ≤ u ∧ u ≤ 7) := ⟨u0, by omega⟩); (have D5 := Lib.hid D5); clear hs5 hc5) | skip)
        refine hK.out _ _ ?_ (fun hHeld' => ?_)
        (focus ((try dsimp only); (first | done | ((first | exact k5 | exact q1 | (rw [cell_other hgB]; exact k5)); done))))
        clear hK K hHeld
        have hHeld := hHeld'
        clear hHeld'
        (try simp only [Act.put, List.setIfInBounds_toArray, List.set_cons_zero, List.set_cons_succ])
        refine wpAnyH_done (by decide +kernel) ?_ _
        have D6 := Lib.hid (D5.out.sto rfl (by simp : 0 < ([v, 0] : List Int).length) 1 u)
        clear hHeld k5 q1 D4 D5 fz5 cl5 u0 u1
        dsimp only [List.set_cons_zero, List.set_cons_succ] at D6
        go_wp2_with fail
        refine (pick_c base b _ 2 _ D6.out.src (by omega) (by omega)).mono ?_
        rintro e w7 ⟨pl, rfl, pl0, pl1, hs7, hc7⟩
        have D7 := D6.out.step hc7 hs7
        have D8 := D7.turn pl
        dsimp only at D8
        have c0 := D8.box.box 0 _ rfl
        have c1 := D8.box.box 1 _ rfl
        have c2 := D8.box.box 2 _ rfl
        have d2 := D7.box.box 2 _ rfl
        have df := D7.box.free
        have cr0 := D8.res.box 0 _ rfl
        have cr1 := D8.res.box 1 _ rfl
        have cr2 := D8.res.box 2 _ rfl
        have crf := D8.res.free
        have lB := D8.box.lt (by simp)
        have lR := D8.res.lt (by simp)
        have hRB : ¬ w.heap.size = B := by have := D8.hS; omega
        have hBR : ¬ B = w.heap.size := by omega
        dsimp only at c0 c1 c2 d2 cr0 cr1 cr2
        have D8 := Lib.hid D8
        clear D6 D7 hs7 hc7
        go_upto_region 18 with fail
        generalize hwx : w7.setCell ⟨B, 2, none⟩ (.int .i64 pl) = wx at *
        clear d2 df hwx
        go_wp2_with fail
        refine bodyPost_ret (v := P.val ⟨xs2, [v, u], pl⟩ pa pc (some ⟨g, 0, none⟩) sc) (by simp [results, Tryd.results16, go_sem, c0, c1, c2, cr0, cr1, cr2, crf, lR, P.val, P.cells]) rfl ⟨⟨xs2, [v, u], pl⟩, ⟨pa, pc, some ⟨g, 0, none⟩, sc⟩, rfl, ?_, ?_, ?_, ?_⟩
        · exact ⟨by show ((xs2.length : Nat) : Int) = _; rw [HX2.out]; omega, rfl, HL2.out.mem (Nat.le_refl _), fun x hx => by simp at hx; rcases hx with rfl | rfl; exact hv7.out; exact hu7.out, by show 0 ≤ pl ∧ pl ≤ 1; omega⟩
        · have k9 := D8.out.rows.1
          refine POwn.le' (base := w.heap.size + 1) ?_ (by omega)
          exact POwn.setD (POwn.setD (POwn.setD k9 _ _ _ (by omega)) _ _ _ (by omega)) _ _ _ (by omega)
        · have k9 := D8.out.src.mono (show _ ≤ m + 100 by omega)
          repeat (first | (with_reducible exact k9) | ((with_reducible refine SrcP.set ?_ _ ?_ ?_ rfl _); rotate_left; (simp; omega); (simp; omega)))
        · have k9 := D8.out.chg
          repeat (first | (with_reducible exact k9) | ((with_reducible refine Chg.setNew ?_ _ ?_ _); rotate_left; (simp <;> omega)))

set_option maxRecDepth 100000 in
set_option maxHeartbeats 16000000 in
theorem A2Position_c (ca : Option Addr) (cc : Nat) (bs : List Int) (w : World) (h : ByteP w.heap.size ca bs w) :
    Calls Tryd.prog 5 #[.slice ca bs.length cc] w fun e w' => ∃ (r : R) (p : P) (A : A2), e = .returned (.tuple #[r.val, p.val A.pa A.pc A.sa A.sc]) ∧ r.drawn ∧ p.drawn r ∧ POwn w' w.heap.size p A.pa A.pc A.sa A.sc ∧ Below w.heap.size w w' := by
  have B0 := (below_alloc1 w (.cells #[.int .i64 0, .int .i64 0, .bool false, .bool false, .bool false, .bool false, .bool false, .int .i64 0, .int .i64 0] 25)).trans ((below_alloc1 (w.alloc (.cells #[.int .i64 0, .int .i64 0, .bool false, .bool false, .bool false, .bool false, .bool false, .int .i64 0, .int .i64 0] 25)) (.cells #[.slice none 0 0, .slice none 0 0, .int .i64 0] 28)).mono (by simp))
  have h1 := h.keep (fun k hk => B0.block k hk)
  have R0 : Bx w.heap.size #[.int .i64 0, .int .i64 0, .bool false, .bool false, .bool false, .bool false, .bool false, .int .i64 0, .int .i64 0].toList ((w.alloc (.cells #[.int .i64 0, .int .i64 0, .bool false, .bool false, .bool false, .bool false, .bool false, .int .i64 0, .int .i64 0] 25)).alloc (.cells #[.slice none 0 0, .slice none 0 0, .int .i64 0] 28)) := (Bx.alloc w _ _ rfl).allocO (by simp) _ _
  have P0 : Bx (w.heap.size + 1) #[.slice none 0 0, .slice none 0 0, .int .i64 0].toList ((w.alloc (.cells #[.int .i64 0, .int .i64 0, .bool false, .bool false, .bool false, .bool false, .bool false, .int .i64 0, .int .i64 0] 25)).alloc (.cells #[.slice none 0 0, .slice none 0 0, .int .i64 0] 28)) := Bx.alloc _ _ _ (by simp)
  go_enter Tryd.func5, Tryd.ntmps5
  go_wp2_with fail
  refine (l00From_c w.heap.size ca cc bs _ h1 (by simp; omega)).mono ?_
  rintro e w1 ⟨rfl, hs1, hb1⟩
  have B1 := B0.trans (hb1.mono (by simp; omega))
  have R1 := R0.below hb1 (by simp; omega)
  have P1 := P0.below hb1 (by simp)
  have z1 := hs1.lt
  simp only [World.size_alloc] at z1 hs1
  clear hb1 h h1 B0 R0 P0
  go_wp2_with fail
  (try simp only [World.size_alloc])
  refine (l02Draw_c w.heap.size (w.heap.size + 1 + 1) 0 _ hs1 (by omega) (by omega) z1.1).mono ?_
  rintro e w2 ⟨r, rfl, hd, hs2, hc2⟩
  have B2 := hc2.below B1 (by omega)
  have R2 := R1.chg hc2 (by omega) (by omega)
  have P2 := P1.chg hc2 (by omega) (by omega)
  have z2 : w.heap.size + 1 + 1 < w2.heap.size := by have := hc2.size; omega
  have HD := Lib.hid hd
  have K3 : Bx w2.heap.size r.cells.toList (w2.alloc (.cells r.cells 25)) := Bx.alloc w2 _ _ rfl
  have R3 := R2.allocO (by omega) r.cells 25
  have P3 := P2.allocO (by omega) r.cells 25
  have S3 := (hs2.allocN r.cells 25).below (Below.refl _ _).drew
  have B3 := (B2.alloc (by omega) (.cells r.cells 25)).drew
  obtain ⟨hok, h6, _⟩ := hd
  obtain ⟨⟨hlo, _⟩, _⟩ := R.ok_iff.1 hok
  have HK := Lib.hid K3
  have HAT : Hid (R.At (w2.alloc (.cells r.cells 25)).drew w2.heap.size 0 r) := R.boxc K3.drew.box
  have HR3 := Lib.hid R3.drew
  have HP3 := Lib.hid P3.drew
  have HS3 := Lib.hid S3
  have HB3 := Lib.hid B3
  have HSK : Hid (∀ W, Bx w2.heap.size r.cells.toList W → (W.cell? ⟨w2.heap.size, 0, none⟩ = some (.int .i64 r.pits) ∧ W.cell? ⟨w2.heap.size, 1, none⟩ = some (.int .i64 r.seeds) ∧ W.cell? ⟨w2.heap.size, 2, none⟩ = some (.bool r.stores) ∧ W.cell? ⟨w2.heap.size, 3, none⟩ = some (.bool r.skip) ∧ W.cell? ⟨w2.heap.size, 4, none⟩ = some (.bool r.relay) ∧ W.cell? ⟨w2.heap.size, 5, none⟩ = some (.bool r.feed) ∧ W.cell? ⟨w2.heap.size, 6, none⟩ = some (.bool r.again) ∧ W.cell? ⟨w2.heap.size, 7, none⟩ = some (.int .i64 r.capture) ∧ W.cell? ⟨w2.heap.size, 8, none⟩ = some (.int .i64 r.slam))) := fun W hW => ⟨hW.box 0 _ rfl, hW.box 1 _ rfl, hW.box 2 _ rfl, hW.box 3 _ rfl, hW.box 4 _ rfl, hW.box 5 _ rfl, hW.box 6 _ rfl, hW.box 7 _ rfl, hW.box 8 _ rfl⟩
  have q0 := HSK.out _ HK.out.drew
  clear K3 R3 P3 S3 B3 hs2 hc2 R2 P2 B2 R1 P1 B1 hs1 hok
  go_upto_region 3 with fail
  refine heldH (S := fun W => W.cell? ⟨w2.heap.size, 0, none⟩ = some (.int .i64 r.pits) ∧ W.cell? ⟨w2.heap.size, 1, none⟩ = some (.int .i64 r.seeds) ∧ W.cell? ⟨w2.heap.size, 2, none⟩ = some (.bool r.stores) ∧ W.cell? ⟨w2.heap.size, 3, none⟩ = some (.bool r.skip) ∧ W.cell? ⟨w2.heap.size, 4, none⟩ = some (.bool r.relay) ∧ W.cell? ⟨w2.heap.size, 5, none⟩ = some (.bool r.feed) ∧ W.cell? ⟨w2.heap.size, 6, none⟩ = some (.bool r.again) ∧ W.cell? ⟨w2.heap.size, 7, none⟩ = some (.int .i64 r.capture) ∧ W.cell? ⟨w2.heap.size, 8, none⟩ = some (.int .i64 r.slam)) (n := 5) (listed := #[false, false, false, false, false]) (by kernel_rfl) (by rfl) (by rfl) ?_ (fun hHeld => ?_)
  (focus ((try dsimp only); (first | done | ((first | (with_reducible exact q0) | (refine HSK.out _ ?_; (repeat (first | (with_reducible exact K3x.out) | ((with_reducible refine Bx.other ?_ _ ?_ _); rotate_left; (simp; omega)))); done) | exact q0); done))))
  (refine takeH (i := 0) (v := ?_) (by decide +kernel) (by decide +kernel) (by kernel_rfl) (by rfl) (by exact fun _ _ _ h => h) (by rfl) ?_ (by assumption) ?_); rotate_left; (focus (intro w hSw; (try dsimp only at hSw); go_simp; (try with_reducible rfl); done)); (try simp only [Act.put, List.setIfInBounds_toArray, List.set_cons_zero, List.set_cons_succ])
  (refine takeH (i := 1) (v := ?_) (by decide +kernel) (by decide +kernel) (by kernel_rfl) (by rfl) (by exact fun _ _ _ h => h) (by rfl) ?_ (by assumption) ?_); rotate_left; (focus (intro w hSw; (try dsimp only at hSw); go_simp; (try with_reducible rfl); done)); (try simp only [Act.put, List.setIfInBounds_toArray, List.set_cons_zero, List.set_cons_succ])
  refine nextH (i := 2) (by decide +kernel) (by rfl) (by rfl) (fun K hK => ?_)
  go_simp
  (first | (go_at_call 16; (refine (l04Draw_c w.heap.size (w.heap.size + 1 + 1) _ w2.heap.size 0 r _ HS3.out (by omega) (by omega) (by simp; omega) HAT.out (by omega) hlo (by omega)).mono ?_); (rintro e w3 ⟨p, A, rfl, hp, ho, hs3, hc3⟩); (have z3 : w2.heap.size + 1 ≤ w3.heap.size := by have := hc3.size; simpa using this); (have RX := HR3.out.chg hc3 (by simp; omega) (by omega)); (have PX := HP3.out.chg hc3 (by simp; omega) (by omega)); (have K3x := Lib.hid (HK.out.drew.chg hc3 (by simp) (by omega))); (have x0 := RX.box 0 _ rfl); (have x1 := RX.box 1 _ rfl); (have x2 := RX.box 2 _ rfl); (have x3 := RX.box 3 _ rfl); (have x4 := RX.box 4 _ rfl); (have x5 := RX.box 5 _ rfl); (have x6 := RX.box 6 _ rfl); (have x7 := RX.box 7 _ rfl); (have x8 := RX.box 8 _ rfl); (have y0 := PX.box 0 _ rfl); (have y1 := PX.box 1 _ rfl); (have y2 := PX.box 2 _ rfl); (have xf := RX.free); (have yf := PX.free); (have zr := RX.lt (by simp)); (have zp := PX.lt (by simp)); (have HB4 := Lib.hid (hc3.below HB3.out (by omega))); (have HO := Lib.hid ho); (have HPD := Lib.hid hp); clear hp ho hs3 hc3 RX PX HS3 HR3 HP3 HAT) | skip)
  refine hK.out _ _ ?_ (fun hHeld' => ?_)
  (focus ((try dsimp only); (first | done | ((first | (with_reducible exact q0) | (refine HSK.out _ ?_; (repeat (first | (with_reducible exact K3x.out) | ((with_reducible refine Bx.other ?_ _ ?_ _); rotate_left; (simp; omega)))); done) | exact q0); done))))
  clear hK K hHeld
  have hHeld := hHeld'
  clear hHeld'
  (try simp only [Act.put, List.setIfInBounds_toArray, List.set_cons_zero, List.set_cons_succ])
  refine nextH (i := 3) (by decide +kernel) (by rfl) (by rfl) (fun K hK => ?_)
  go_simp
  (first | (go_at_call 16; (refine (l04Draw_c w.heap.size (w.heap.size + 1 + 1) _ w2.heap.size 0 r _ HS3.out (by omega) (by omega) (by simp; omega) HAT.out (by omega) hlo (by omega)).mono ?_); (rintro e w3 ⟨p, A, rfl, hp, ho, hs3, hc3⟩); (have z3 : w2.heap.size + 1 ≤ w3.heap.size := by have := hc3.size; simpa using this); (have RX := HR3.out.chg hc3 (by simp; omega) (by omega)); (have PX := HP3.out.chg hc3 (by simp; omega) (by omega)); (have K3x := Lib.hid (HK.out.drew.chg hc3 (by simp) (by omega))); (have x0 := RX.box 0 _ rfl); (have x1 := RX.box 1 _ rfl); (have x2 := RX.box 2 _ rfl); (have x3 := RX.box 3 _ rfl); (have x4 := RX.box 4 _ rfl); (have x5 := RX.box 5 _ rfl); (have x6 := RX.box 6 _ rfl); (have x7 := RX.box 7 _ rfl); (have x8 := RX.box 8 _ rfl); (have y0 := PX.box 0 _ rfl); (have y1 := PX.box 1 _ rfl); (have y2 := PX.box 2 _ rfl); (have xf := RX.free); (have yf := PX.free); (have zr := RX.lt (by simp)); (have zp := PX.lt (by simp)); (have HB4 := Lib.hid (hc3.below HB3.out (by omega))); (have HO := Lib.hid ho); (have HPD := Lib.hid hp); clear hp ho hs3 hc3 RX PX HS3 HR3 HP3 HAT) | skip)
  refine hK.out _ _ ?_ (fun hHeld' => ?_)
  (focus ((try dsimp only); (first | done | ((first | (with_reducible exact q0) | (refine HSK.out _ ?_; (repeat (first | (with_reducible exact K3x.out) | ((with_reducible refine Bx.other ?_ _ ?_ _); rotate_left; (simp; omega)))); done) | exact q0); done))))
  clear hK K hHeld
  have hHeld := hHeld'
  clear hHeld'
  (try simp only [Act.put, List.setIfInBounds_toArray, List.set_cons_zero, List.set_cons_succ])
  refine nextH (i := 4) (by decide +kernel) (by rfl) (by rfl) (fun K hK => ?_)
  go_simp
  (first | (go_at_call 16; (refine (l04Draw_c w.heap.size (w.heap.size + 1 + 1) _ w2.heap.size 0 r _ HS3.out (by omega) (by omega) (by simp; omega) HAT.out (by omega) hlo (by omega)).mono ?_); (rintro e w3 ⟨p, A, rfl, hp, ho, hs3, hc3⟩); (have z3 : w2.heap.size + 1 ≤ w3.heap.size := by have := hc3.size; simpa using this); (have RX := HR3.out.chg hc3 (by simp; omega) (by omega)); (have PX := HP3.out.chg hc3 (by simp; omega) (by omega)); (have K3x := Lib.hid (HK.out.drew.chg hc3 (by simp) (by omega))); (have x0 := RX.box 0 _ rfl); (have x1 := RX.box 1 _ rfl); (have x2 := RX.box 2 _ rfl); (have x3 := RX.box 3 _ rfl); (have x4 := RX.box 4 _ rfl); (have x5 := RX.box 5 _ rfl); (have x6 := RX.box 6 _ rfl); (have x7 := RX.box 7 _ rfl); (have x8 := RX.box 8 _ rfl); (have y0 := PX.box 0 _ rfl); (have y1 := PX.box 1 _ rfl); (have y2 := PX.box 2 _ rfl); (have xf := RX.free); (have yf := PX.free); (have zr := RX.lt (by simp)); (have zp := PX.lt (by simp)); (have HB4 := Lib.hid (hc3.below HB3.out (by omega))); (have HO := Lib.hid ho); (have HPD := Lib.hid hp); clear hp ho hs3 hc3 RX PX HS3 HR3 HP3 HAT) | skip)
  refine hK.out _ _ ?_ (fun hHeld' => ?_)
  (focus ((try dsimp only); (first | done | ((first | (with_reducible exact q0) | (refine HSK.out _ ?_; (repeat (first | (with_reducible exact K3x.out) | ((with_reducible refine Bx.other ?_ _ ?_ _); rotate_left; (simp; omega)))); done) | exact q0); done))))
  clear hK K hHeld
  have hHeld := hHeld'
  clear hHeld'
  (try simp only [Act.put, List.setIfInBounds_toArray, List.set_cons_zero, List.set_cons_succ])
  refine wpAnyH_done (by decide +kernel) ?_ _
  clear hHeld q0
  go_wp2
  refine bodyPost_ret (v := .tuple #[r.val, p.val A.pa A.pc A.sa A.sc]) (by simp [results, Tryd.results5, go_sem, x0, x1, x2, x3, x4, x5, x6, x7, x8, y0, y1, y2, xf, yf, zr, zp, P.val, P.cells, R.val, R.cells]) rfl ⟨r, p, A, rfl, HD.out, HPD.out, ?_, ?_⟩
  · have k9 := HO.out.le' (show w2.heap.size + 1 ≤ _ by simp)
    refine POwn.le' (base := w2.heap.size + 1) ?_ (by omega)
    repeat (first | (with_reducible exact k9) | ((with_reducible refine POwn.setD ?_ _ _ _ ?_); rotate_left; omega))
  · have k9 := HB4.out
    repeat (first | (with_reducible exact k9) | ((with_reducible refine Below.setCell ?_ ?_ _); rotate_left; (simp <;> omega)))


theorem sValidPosition_c (r : R) (p : P) (pa sa : Option Addr) (pc sc : Nat) (w : World) (h : PRow w p pa sa) (m1 : p.pits.length ≤ 16777216) (m2 : p.stores.length ≤ 16777216) :
    Calls Tryd.prog 7 #[r.val, p.val pa pc sa sc] w fun e w' => e = .returned (.bool (p.ok r)) ∧ Below w.heap.size w w' := by
  have F0 := ((Fr.start w).alloc r.cells 25).alloc (p.cells pa pc sa sc) 28
  have hr := R.boxc (F0.at 1 rfl)
  obtain ⟨d0, d1, d2⟩ := P.boxc (F0.at 0 rfl)
  simp only [World.size_alloc] at d0 d1 d2
  have HV := Lib.hid (l04Ok_c _ _ _ _ r p pa sa pc sc _ hr ⟨d0, d1, d2⟩ (h.below F0.below (Nat.le_refl _)) m1 m2)
  have HB := Lib.hid F0.below
  clear hr d0 d1 d2 F0
  go_enter Tryd.func7, Tryd.ntmps7
  go_wp2_with fail
  refine HV.out.mono ?_
  rintro e w1 ⟨rfl, m, hm⟩
  have B1 : Hid (Below w.heap.size w w1) := below_next HB.out (hm ▸ below_draws _ _ m)
  clear hm
  go_wp2
  go_ret
  exact ⟨rfl, B1.out⟩

theorem sSamePosition_c (x y : P) (pa sa qa ta : Option Addr) (pc sc qc tc : Nat) (w : World) (hx : PRow w x pa sa) (hy : PRow w y qa ta) (m1 : x.pits.length ≤ maxLen) (m2 : x.stores.length ≤ maxLen) (m3 : y.pits.length ≤ maxLen) (m4 : y.stores.length ≤ maxLen) :
    Calls Tryd.prog 13 #[x.val pa pc sa sc, y.val qa qc ta tc] w fun e w' => e = .returned (.bool (decide (x = y))) ∧ Below w.heap.size w w' := by
  have F0 := ((Fr.start w).alloc (x.cells pa pc sa sc) 28).alloc (y.cells qa qc ta tc) 28
  obtain ⟨c0, c1, c2⟩ := P.boxc (F0.at 1 rfl)
  obtain ⟨d0, d1, d2⟩ := P.boxc (F0.at 0 rfl)
  simp only [World.size_alloc] at d0 d1 d2
  have HV := Lib.hid (l04Same_c _ _ _ _ x y pa sa qa ta pc sc qc tc _ ⟨c0, c1, c2⟩ ⟨d0, d1, d2⟩ (hx.below F0.below (Nat.le_refl _)) (hy.below F0.below (Nat.le_refl _)) m1 m2 m3 m4)
  have HB := Lib.hid F0.below
  clear c0 c1 c2 d0 d1 d2 F0
  go_enter Tryd.func13, Tryd.ntmps13
  go_wp2_with fail
  refine HV.out.mono ?_
  rintro e w1 ⟨rfl, m, hm⟩
  have B1 : Hid (Below w.heap.size w w1) := below_next HB.out (hm ▸ below_draws _ _ m)
  clear hm
  go_wp2
  go_ret
  exact ⟨rfl, B1.out⟩


end Go.Proofs.YtenjffoboiohnaaDoor
