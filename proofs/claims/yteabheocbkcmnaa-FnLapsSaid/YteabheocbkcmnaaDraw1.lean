/- Draw1: rules that are drawn: the contracts. Each holds for every argument, under the premises that it states. -/
import Derived.Test.YteabheocbkcmnaaSrc
import Derived.Test.YteabheocbkcmnaaNear
namespace Go.Proofs.Yteabheocbkcmnaa
set_option linter.unusedSimpArgs false
set_option linter.unusedVariables false
set_option linter.unnecessarySimpa false
open Go.RowKit Go.ChangeShapes Go.WideShapes Go.ChangeAt Go.Joins

theorem Chg.setNew {lo hi : Nat} {w w' : World} (h : Chg lo hi w w') (p : Addr) (hp : w.heap.size ≤ p.block) (v : Value) : Chg lo hi w (w'.setCell p v) :=
  ⟨h.os, h.tape, h.output, by simpa using h.size, fun k hk hn => (Below.heap_setCell _ _ _ k (by omega)).trans (h.block k hk hn)⟩
theorem Chg.step {lo hi : Nat} {a b c : World} (h : Chg lo hi a b) (hb : Below b.heap.size b c) : Chg lo hi a c := h.trans (Chg.ofBelow hb)
theorem SrcP.set {base b m : Nat} {w : World} (h : SrcP base b m w) (p : Addr) (hp : base ≤ p.block) (hne : p.block ≠ b) (ho : p.spot = none) (v : Value) : SrcP base b m (w.setCell p v) :=
  h.chg (lo := p.block) (hi := p.block + 1) ⟨rfl, rfl, rfl, by simp, fun k hk hn => Below.heap_setCell _ _ _ k (by omega)⟩ hp (by omega)
theorem SrcP.allocN {base b m : Nat} {w : World} (h : SrcP base b m w) (xs : Array Value) (t : TypeId) : SrcP base b m (w.alloc (.cells xs t)) := h.below (below_alloc1 _ _)
theorem Chg.allocN {lo hi : Nat} {w w' : World} (h : Chg lo hi w w') (xs : Array Value) (t : TypeId) : Chg lo hi w (w'.alloc (.cells xs t)) := h.step (below_alloc1 _ _)
theorem cell_chg {lo hi g : Nat} {w w' : World} (h : Chg lo hi w w') (hg : g < w.heap.size) (hn : g < lo ∨ hi ≤ g) : (∀ o, w'.cell? ⟨g, o, none⟩ = w.cell? ⟨g, o, none⟩) ∧ (∀ o, w'.frozen? ⟨g, o, none⟩ = w.frozen? ⟨g, o, none⟩) :=
  ⟨fun o => World.cell?_of_block (w := w) (h.block g hg hn), fun o => World.frozen?_of_block (w := w) (h.block g hg hn)⟩

theorem l00From_c (base : Nat) (ca : Option Addr) (cc : Nat) (bs : List Int) (w : World) (h : ByteP base ca bs w) (hb : base ≤ w.heap.size) :
    Calls Try.prog 104 #[.slice ca bs.length cc] w fun e w' => e = .returned (.pointer (some ⟨w.heap.size, 0, none⟩)) ∧ SrcP base w.heap.size 0 w' ∧ Below w.heap.size w w' := by
  go_enter Try.func104, Try.ntmps104
  go_wp2
  go_ret
  have hB := below_alloc1 w (.cells #[.slice ca bs.length cc, .int .i64 0, .int .u64 0] 186)
  exact ⟨rfl, ⟨ca, cc, bs, 0, 0, h.keep (fun k hk => hB.block k (by omega)), Bx.alloc w _ _ rfl, by omega, by omega, hb⟩, hB⟩

/-- rules as they are drawn -/
def R.drawn (r : R) : Prop := r.ok = true ∧ r.pits ≤ 6 ∧ r.seeds ≤ 4
theorem std_drawn (k : Nat) (hk : k < 4) : (stdR k).drawn := by
  match k, hk with
  | 0, _ | 1, _ | 2, _ | 3, _ => exact ⟨by decide, by decide, by decide⟩
set_option maxRecDepth 100000 in
set_option maxHeartbeats 16000000 in
theorem l02Draw_c (base b m : Nat) (w : World) (h : SrcP base b m w) (hm : m ≤ 10000000) (hB : base ≤ b) (hbl : b < w.heap.size) :
    Calls Try.prog 120 #[.pointer (some ⟨b, 0, none⟩)] w fun e w' => ∃ r : R, e = .returned r.val ∧ r.drawn ∧ SrcP base b (m + 40) w' ∧ Chg b (b + 1) w w' := by
  have S0 := Lib.hid (h.below (below_alloc1 w (.cells #[.int .i64 0, .int .i64 0, .bool false, .bool false, .bool false, .bool false, .bool false, .int .i64 0, .int .i64 0] 24)))
  clear h
  go_enter Try.func120, Try.ntmps120
  go_wp2_with fail
  refine (one_c base b m 3 _ S0.out (by omega) (by omega)).mono ?_
  rintro e w1 ⟨v1, rfl, hs1, hc1⟩
  have S1 := Lib.hid hs1
  have z1 : w.heap.size < w1.heap.size := by have := hc1.size; simp at this; omega
  obtain ⟨hc, hf⟩ := cell_chg (g := w.heap.size) hc1 (by simp) (by omega)
  have C1 := Lib.hid ((Chg.ofBelow (lo := b) (hi := b + 1) (below_alloc1 w _)).trans hc1)
  clear hs1 hc1
  cases v1
  ·
    go_wp2_with fail
    refine (pick_c base b _ 4 _ S1.out (by omega) (by omega)).mono ?_
    rintro e w2 ⟨va, rfl, a0, a1, hs2, hc2⟩
    have S2 := Lib.hid hs2
    have C2 := Lib.hid (C1.out.trans hc2)
    have z2 : w.heap.size < w2.heap.size := Nat.lt_of_lt_of_le z1 hc2.size
    obtain ⟨hc', hf'⟩ := cell_chg (g := w.heap.size) hc2 (by omega) (by omega)
    clear hs2 hc2 S1 C1
    go_wp2_with fail
    refine (pick_c base b _ 4 _ S2.out (by omega) (by omega)).mono ?_
    rintro e w3 ⟨vb, rfl, b0, b1, hs3, hc3⟩
    have S3 := Lib.hid hs3
    have C3 := Lib.hid (C2.out.trans hc3)
    have z3 : w.heap.size < w3.heap.size := Nat.lt_of_lt_of_le z2 hc3.size
    obtain ⟨hd', hg'⟩ := cell_chg (g := w.heap.size) hc3 (by omega) (by omega)
    clear hs3 hc3 S2 C2
    have S3 : Hid (SrcP base b (m + 6) w3) := S3
    have n1 : ¬ w.heap.size = w3.heap.size := by omega
    have n2 : ¬ w3.heap.size = w.heap.size := by omega
    have nb : ¬ w3.heap.size = b := by omega
    go_wp2_with fail
    go_wp2_with fail
    refine (one_c base b (m + 6) 2 _ (by (have k0 := S3.out; repeat (first | (with_reducible exact k0) | ((with_reducible refine SrcP.set ?_ _ ?_ ?_ rfl _); rotate_left; (simp; omega); (simp; omega)) | (with_reducible refine SrcP.allocN ?_ _ _)))) (by omega) (by omega)).mono ?_
    rintro e w4 ⟨v2, rfl, hs4, hc4⟩
    have S4 : Hid (SrcP base b (m + 8) w4) := Lib.hid hs4
    have zz := hc4.size
    (try simp only [World.size_setCell, World.size_alloc] at zz)
    have C4 := Lib.hid (Chg.trans (a := w) (by (have k0 := C3.out; repeat (first | (with_reducible exact k0) | ((with_reducible refine Chg.setNew ?_ _ ?_ _); rotate_left; (simp <;> omega)) | (with_reducible refine Chg.allocN ?_ _ _)))) hc4)
    have y4 : w3.heap.size < w4.heap.size := by omega
    have x4 : w.heap.size < w4.heap.size := by omega
    obtain ⟨pc4, pf4⟩ := cell_chg (g := w3.heap.size) hc4 (by simp <;> omega) (by omega)
    obtain ⟨qc4, qf4⟩ := cell_chg (g := w.heap.size) hc4 (by simp <;> omega) (by omega)
    clear hs4 hc4 zz
    go_wp2_with fail
    refine (one_c base b (m + 8) 2 _ (by (have k0 := S4.out; repeat (first | (with_reducible exact k0) | ((with_reducible refine SrcP.set ?_ _ ?_ ?_ rfl _); rotate_left; (simp; omega); (simp; omega)) | (with_reducible refine SrcP.allocN ?_ _ _)))) (by omega) (by omega)).mono ?_
    rintro e w5 ⟨v3, rfl, hs5, hc5⟩
    have S5 : Hid (SrcP base b (m + 10) w5) := Lib.hid hs5
    have zz := hc5.size
    (try simp only [World.size_setCell, World.size_alloc] at zz)
    have C5 := Lib.hid (Chg.trans (a := w) (by (have k0 := C4.out; repeat (first | (with_reducible exact k0) | ((with_reducible refine Chg.setNew ?_ _ ?_ _); rotate_left; (simp <;> omega)) | (with_reducible refine Chg.allocN ?_ _ _)))) hc5)
    have y5 : w3.heap.size < w5.heap.size := by omega
    have x5 : w.heap.size < w5.heap.size := by omega
    obtain ⟨pc5, pf5⟩ := cell_chg (g := w3.heap.size) hc5 (by simp <;> omega) (by omega)
    obtain ⟨qc5, qf5⟩ := cell_chg (g := w.heap.size) hc5 (by simp <;> omega) (by omega)
    clear hs5 hc5 zz
    go_wp2_with fail
    refine (one_c base b (m + 10) 4 _ (by (have k0 := S5.out; repeat (first | (with_reducible exact k0) | ((with_reducible refine SrcP.set ?_ _ ?_ ?_ rfl _); rotate_left; (simp; omega); (simp; omega)) | (with_reducible refine SrcP.allocN ?_ _ _)))) (by omega) (by omega)).mono ?_
    rintro e w6 ⟨v4, rfl, hs6, hc6⟩
    have S6 : Hid (SrcP base b (m + 12) w6) := Lib.hid hs6
    have zz := hc6.size
    (try simp only [World.size_setCell, World.size_alloc] at zz)
    have C6 := Lib.hid (Chg.trans (a := w) (by (have k0 := C5.out; repeat (first | (with_reducible exact k0) | ((with_reducible refine Chg.setNew ?_ _ ?_ _); rotate_left; (simp <;> omega)) | (with_reducible refine Chg.allocN ?_ _ _)))) hc6)
    have y6 : w3.heap.size < w6.heap.size := by omega
    have x6 : w.heap.size < w6.heap.size := by omega
    obtain ⟨pc6, pf6⟩ := cell_chg (g := w3.heap.size) hc6 (by simp <;> omega) (by omega)
    obtain ⟨qc6, qf6⟩ := cell_chg (g := w.heap.size) hc6 (by simp <;> omega) (by omega)
    clear hs6 hc6 zz
    go_wp2_with fail
    refine (one_c base b (m + 12) 2 _ (by (have k0 := S6.out; repeat (first | (with_reducible exact k0) | ((with_reducible refine SrcP.set ?_ _ ?_ ?_ rfl _); rotate_left; (simp; omega); (simp; omega)) | (with_reducible refine SrcP.allocN ?_ _ _)))) (by omega) (by omega)).mono ?_
    rintro e w7 ⟨v5, rfl, hs7, hc7⟩
    have S7 : Hid (SrcP base b (m + 14) w7) := Lib.hid hs7
    have zz := hc7.size
    (try simp only [World.size_setCell, World.size_alloc] at zz)
    have C7 := Lib.hid (Chg.trans (a := w) (by (have k0 := C6.out; repeat (first | (with_reducible exact k0) | ((with_reducible refine Chg.setNew ?_ _ ?_ _); rotate_left; (simp <;> omega)) | (with_reducible refine Chg.allocN ?_ _ _)))) hc7)
    have y7 : w3.heap.size < w7.heap.size := by omega
    have x7 : w.heap.size < w7.heap.size := by omega
    obtain ⟨pc7, pf7⟩ := cell_chg (g := w3.heap.size) hc7 (by simp <;> omega) (by omega)
    obtain ⟨qc7, qf7⟩ := cell_chg (g := w.heap.size) hc7 (by simp <;> omega) (by omega)
    clear hs7 hc7 zz
    cases v2
    ·
      go_wp2_with fail
      refine (pick_c base b (m + 14) 4 _ (by (have k0 := S7.out; repeat (first | (with_reducible exact k0) | ((with_reducible refine SrcP.set ?_ _ ?_ ?_ rfl _); rotate_left; (simp; omega); (simp; omega)) | (with_reducible refine SrcP.allocN ?_ _ _)))) (by omega) (by omega)).mono ?_
      rintro e w8 ⟨v7, rfl, v70, v71, hs8, hc8⟩
      have S8 : Hid (SrcP base b (m + 16) w8) := Lib.hid hs8
      have zz := hc8.size
      (try simp only [World.size_setCell, World.size_alloc] at zz)
      have C8 := Lib.hid (Chg.trans (a := w) (by (have k0 := C7.out; repeat (first | (with_reducible exact k0) | ((with_reducible refine Chg.setNew ?_ _ ?_ _); rotate_left; (simp <;> omega)) | (with_reducible refine Chg.allocN ?_ _ _)))) hc8)
      have y8 : w3.heap.size < w8.heap.size := by omega
      have x8 : w.heap.size < w8.heap.size := by omega
      obtain ⟨pc8, pf8⟩ := cell_chg (g := w3.heap.size) hc8 (by simp <;> omega) (by omega)
      obtain ⟨qc8, qf8⟩ := cell_chg (g := w.heap.size) hc8 (by simp <;> omega) (by omega)
      clear hs8 hc8 zz
      go_wp2_with fail
      refine (pick_c base b (m + 16) 3 _ (by (have k0 := S8.out; repeat (first | (with_reducible exact k0) | ((with_reducible refine SrcP.set ?_ _ ?_ ?_ rfl _); rotate_left; (simp; omega); (simp; omega)) | (with_reducible refine SrcP.allocN ?_ _ _)))) (by omega) (by omega)).mono ?_
      rintro e w9 ⟨v8, rfl, v80, v81, hs9, hc9⟩
      have S9 : Hid (SrcP base b (m + 18) w9) := Lib.hid hs9
      have zz := hc9.size
      (try simp only [World.size_setCell, World.size_alloc] at zz)
      have C9 := Lib.hid (Chg.trans (a := w) (by (have k0 := C8.out; repeat (first | (with_reducible exact k0) | ((with_reducible refine Chg.setNew ?_ _ ?_ _); rotate_left; (simp <;> omega)) | (with_reducible refine Chg.allocN ?_ _ _)))) hc9)
      have y9 : w3.heap.size < w9.heap.size := by omega
      have x9 : w.heap.size < w9.heap.size := by omega
      obtain ⟨pc9, pf9⟩ := cell_chg (g := w3.heap.size) hc9 (by simp <;> omega) (by omega)
      obtain ⟨qc9, qf9⟩ := cell_chg (g := w.heap.size) hc9 (by simp <;> omega) (by omega)
      clear hs9 hc9 zz
      go_wp2_with fail
      refine bodyPost_ret (v := R.val ⟨2 + va, 1 + vb, false, v3, v4, v5, false, v7, v8⟩) (by simp [results, Try.results120, go_sem, hc, hf, hc', hf', hd', hg', z1, z2, z3, n1, n2, pc4, pf4, qc4, qf4, x4, y4, pc5, pf5, qc5, qf5, x5, y5, pc6, pf6, qc6, qf6, x6, y6, pc7, pf7, qc7, qf7, x7, y7, pc8, pf8, qc8, qf8, x8, y8, pc9, pf9, qc9, qf9, x9, y9]) rfl ⟨⟨2 + va, 1 + vb, false, v3, v4, v5, false, v7, v8⟩, rfl, ?_, ?_, ?_⟩
      · refine ⟨R.ok_iff.2 ⟨⟨?_, ?_⟩, ⟨?_, ?_⟩, ⟨?_, ?_⟩, ⟨?_, ?_⟩, ?_⟩, ?_, ?_⟩ <;> dsimp only <;> first | omega | rfl | simp
      · have k0 := S9.out.mono (show _ ≤ m + 40 by omega)
        repeat (first | (with_reducible exact k0) | ((with_reducible refine SrcP.set ?_ _ ?_ ?_ rfl _); rotate_left; (simp; omega); (simp; omega)) | (with_reducible refine SrcP.allocN ?_ _ _))
      · have k0 := C9.out
        repeat (first | (with_reducible exact k0) | ((with_reducible refine Chg.setNew ?_ _ ?_ _); rotate_left; (simp <;> omega)) | (with_reducible refine Chg.allocN ?_ _ _))
    ·
      go_wp2_with fail
      refine (one_c base b (m + 14) 2 _ (by (have k0 := S7.out; repeat (first | (with_reducible exact k0) | ((with_reducible refine SrcP.set ?_ _ ?_ ?_ rfl _); rotate_left; (simp; omega); (simp; omega)) | (with_reducible refine SrcP.allocN ?_ _ _)))) (by omega) (by omega)).mono ?_
      rintro e w8 ⟨v6, rfl, hs8, hc8⟩
      have S8 : Hid (SrcP base b (m + 16) w8) := Lib.hid hs8
      have zz := hc8.size
      (try simp only [World.size_setCell, World.size_alloc] at zz)
      have C8 := Lib.hid (Chg.trans (a := w) (by (have k0 := C7.out; repeat (first | (with_reducible exact k0) | ((with_reducible refine Chg.setNew ?_ _ ?_ _); rotate_left; (simp <;> omega)) | (with_reducible refine Chg.allocN ?_ _ _)))) hc8)
      have y8 : w3.heap.size < w8.heap.size := by omega
      have x8 : w.heap.size < w8.heap.size := by omega
      obtain ⟨pc8, pf8⟩ := cell_chg (g := w3.heap.size) hc8 (by simp <;> omega) (by omega)
      obtain ⟨qc8, qf8⟩ := cell_chg (g := w.heap.size) hc8 (by simp <;> omega) (by omega)
      clear hs8 hc8 zz
      go_wp2_with fail
      refine (pick_c base b (m + 16) 4 _ (by (have k0 := S8.out; repeat (first | (with_reducible exact k0) | ((with_reducible refine SrcP.set ?_ _ ?_ ?_ rfl _); rotate_left; (simp; omega); (simp; omega)) | (with_reducible refine SrcP.allocN ?_ _ _)))) (by omega) (by omega)).mono ?_
      rintro e w9 ⟨v7, rfl, v70, v71, hs9, hc9⟩
      have S9 : Hid (SrcP base b (m + 18) w9) := Lib.hid hs9
      have zz := hc9.size
      (try simp only [World.size_setCell, World.size_alloc] at zz)
      have C9 := Lib.hid (Chg.trans (a := w) (by (have k0 := C8.out; repeat (first | (with_reducible exact k0) | ((with_reducible refine Chg.setNew ?_ _ ?_ _); rotate_left; (simp <;> omega)) | (with_reducible refine Chg.allocN ?_ _ _)))) hc9)
      have y9 : w3.heap.size < w9.heap.size := by omega
      have x9 : w.heap.size < w9.heap.size := by omega
      obtain ⟨pc9, pf9⟩ := cell_chg (g := w3.heap.size) hc9 (by simp <;> omega) (by omega)
      obtain ⟨qc9, qf9⟩ := cell_chg (g := w.heap.size) hc9 (by simp <;> omega) (by omega)
      clear hs9 hc9 zz
      go_wp2_with fail
      refine (pick_c base b (m + 18) 3 _ (by (have k0 := S9.out; repeat (first | (with_reducible exact k0) | ((with_reducible refine SrcP.set ?_ _ ?_ ?_ rfl _); rotate_left; (simp; omega); (simp; omega)) | (with_reducible refine SrcP.allocN ?_ _ _)))) (by omega) (by omega)).mono ?_
      rintro e w10 ⟨v8, rfl, v80, v81, hs10, hc10⟩
      have S10 : Hid (SrcP base b (m + 20) w10) := Lib.hid hs10
      have zz := hc10.size
      (try simp only [World.size_setCell, World.size_alloc] at zz)
      have C10 := Lib.hid (Chg.trans (a := w) (by (have k0 := C9.out; repeat (first | (with_reducible exact k0) | ((with_reducible refine Chg.setNew ?_ _ ?_ _); rotate_left; (simp <;> omega)) | (with_reducible refine Chg.allocN ?_ _ _)))) hc10)
      have y10 : w3.heap.size < w10.heap.size := by omega
      have x10 : w.heap.size < w10.heap.size := by omega
      obtain ⟨pc10, pf10⟩ := cell_chg (g := w3.heap.size) hc10 (by simp <;> omega) (by omega)
      obtain ⟨qc10, qf10⟩ := cell_chg (g := w.heap.size) hc10 (by simp <;> omega) (by omega)
      clear hs10 hc10 zz
      go_wp2_with fail
      refine bodyPost_ret (v := R.val ⟨2 + va, 1 + vb, true, v3, v4, v5, v6, v7, v8⟩) (by simp [results, Try.results120, go_sem, hc, hf, hc', hf', hd', hg', z1, z2, z3, n1, n2, pc4, pf4, qc4, qf4, x4, y4, pc5, pf5, qc5, qf5, x5, y5, pc6, pf6, qc6, qf6, x6, y6, pc7, pf7, qc7, qf7, x7, y7, pc8, pf8, qc8, qf8, x8, y8, pc9, pf9, qc9, qf9, x9, y9, pc10, pf10, qc10, qf10, x10, y10]) rfl ⟨⟨2 + va, 1 + vb, true, v3, v4, v5, v6, v7, v8⟩, rfl, ?_, ?_, ?_⟩
      · refine ⟨R.ok_iff.2 ⟨⟨?_, ?_⟩, ⟨?_, ?_⟩, ⟨?_, ?_⟩, ⟨?_, ?_⟩, ?_⟩, ?_, ?_⟩ <;> dsimp only <;> first | omega | rfl | simp
      · have k0 := S10.out.mono (show _ ≤ m + 40 by omega)
        repeat (first | (with_reducible exact k0) | ((with_reducible refine SrcP.set ?_ _ ?_ ?_ rfl _); rotate_left; (simp; omega); (simp; omega)) | (with_reducible refine SrcP.allocN ?_ _ _))
      · have k0 := C10.out
        repeat (first | (with_reducible exact k0) | ((with_reducible refine Chg.setNew ?_ _ ?_ _); rotate_left; (simp <;> omega)) | (with_reducible refine Chg.allocN ?_ _ _))
  · go_wp2_with fail
    refine (sStandardNames_c _).mono ?_
    rintro e w2 ⟨rfl, hw2⟩
    have hb2 : Below w1.heap.size w1 w2 := hw2 ▸ below_alloc1 _ _
    have G2 : BoxP w1.heap.size (stdNames.map Value.string) w2 := by rw [hw2]; exact fun j v hv => by simpa using hv
    have S2 := Lib.hid (S1.out.below hb2)
    have z2 : w1.heap.size < w2.heap.size := by rw [hw2]; simp
    have C2 := Lib.hid (C1.out.step hb2)
    obtain ⟨hc2, hf2⟩ := bcell hb2
    have G2 := Lib.hid G2
    clear hw2 hb2
    go_wp2_with fail
    refine (text_c base b _ w1.heap.size stdNames _ S2.out (by omega) G2.out (by omega) (by decide) (by decide)).mono ?_
    rintro e w3 ⟨k, x, hk, rfl, hs3, hc3⟩
    have hk4 : k < 4 := (List.getElem?_eq_some_iff.1 hk).1
    have hx : x = stdN k := by unfold stdN; rw [List.getD_eq_getElem?_getD, hk]; rfl
    subst hx
    have S3 := Lib.hid hs3
    have C3 := Lib.hid (C2.out.trans hc3)
    obtain ⟨hc3', hf3⟩ := cell_chg (g := w.heap.size) hc3 (by omega) (by omega)
    have z3 : w2.heap.size ≤ w3.heap.size := hc3.size
    clear hk hs3 hc3 G2 S2
    go_wp2_with fail
    refine (sStandardRules_c k hk4 _).mono ?_
    rintro e w4 ⟨rfl, hb4⟩
    have S4 := Lib.hid (S3.out.below hb4)
    have C4 := Lib.hid (C3.out.step hb4)
    have z4 : w3.heap.size ≤ w4.heap.size := hb4.size
    obtain ⟨hc4, hf4⟩ := bcell hb4
    obtain ⟨y, hy⟩ : ∃ y, y = stdR k := ⟨_, rfl⟩
    rw [← hy]
    have HY := Lib.hid hy
    have zw : w.heap.size < w2.heap.size := by omega
    have zx : w.heap.size < w3.heap.size := by omega
    have zy : w.heap.size < w4.heap.size := by omega
    have zn : ¬ w.heap.size = w4.heap.size := by omega
    have zm : ¬ w4.heap.size = w.heap.size := by omega
    clear hb4 hy
    go_wp2_with fail
    refine bodyPost_ret (v := y.val) (by simp [results, Try.results120, go_sem, hc, hf, hc2, hf2, hc3', hf3, hc4, hf4, z1, z2, zw, zx, zy, zn, zm]) rfl ⟨y, rfl, ?_, ?_, ?_⟩
    · rw [HY.out]
      exact std_drawn k hk4
    · have k0 := S4.out.mono (show _ ≤ m + 40 by omega)
      repeat (first | (with_reducible exact k0) | ((with_reducible refine SrcP.set ?_ _ ?_ ?_ rfl _); rotate_left; (simp; omega); (simp; omega)) | (with_reducible refine SrcP.allocN ?_ _ _))
    · have k0 := C4.out
      repeat (first | (with_reducible exact k0) | ((with_reducible refine Chg.setNew ?_ _ ?_ _); rotate_left; (simp <;> omega)) | (with_reducible refine Chg.allocN ?_ _ _))

end Go.Proofs.Yteabheocbkcmnaa
